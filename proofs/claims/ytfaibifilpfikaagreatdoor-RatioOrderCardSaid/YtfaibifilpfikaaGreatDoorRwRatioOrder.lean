/- The row of the statement RatioOrder and its tied card; conditions: those of the row. -/
import Derived.Test.YtfaibifilpfikaaGreatDoorRows
import Derived.Test.YtfaibifilpfikaaGreatDoorCards
import Derived.Test.YtfaibifilpfikaaGreatDoorTie
import Derived.Test.YtfaibifilpfikaaGreatDoorRc
import Derived.Test.YtfaibifilpfikaaGreatDoorRf
import Derived.Test.YtfaibifilpfikaaGreatDoorPuOrder
import Derived.WalkKit
import Derived.ProofKit
import Derived.OpenShut
import Derived.ShutString
import Derived.ChangeOld
import Derived.Below
import Derived.SizedLaws
import Derived.Stop.Joined
import Derived.SevenTiedAt
namespace Go.Proofs.YtfaibifilpfikaaGreatDoor.ratioOrder
open Go.ChangeShapes Go.WideShapes Go.ChangeAt Go.RowKit
open Go.ChangeMaps (open_string shut_string)
set_option maxRecDepth 100000 in
theorem lifted (os : Os) (started : os.Started) (H : Type) (enc : TypeId × Value → H) :
    ReturnsInHanded {} Tryz.checked os 6 .any (fun w args => (Rows.ratioOrderSpec.pre enc Tryz.prog Tryz.f6 Rows.ratioOrderRow.domain false w args ∧ laidMetH Tryz.prog Rc.laidL w) ∧ sizedMet enc Tryz.prog Tryz.f6 (OpenSpec.ofChange Rows.ratioOrderSpec) false w args) (Rows.ratioOrderSpec.post enc Tryz.prog Tryz.f6 false true false false) := by
  refine returnsInHanded_of_change_and (C := Tryz.checked) (X := fun w _ => laidMetH Tryz.prog Rc.laidL w) (fun _ _ _ hh h => h.of_heap hh) Rc.own started (by kernel_rfl) Tryz.func6
    (ChangeSpec.witness_shaped (enc := enc) (C := Tryz.checked) (os := os) (X := fun w _ => laidMetH Tryz.prog Rc.laidL w) false (World.laidAll Tryz.prog os Rc.laidL) #[.agg #[.bool false, .string ByteArray.empty, .string ByteArray.empty], .agg #[.bool false, .string ByteArray.empty, .string ByteArray.empty], .agg #[.bool false, .string ByteArray.empty, .string ByteArray.empty]] 8 (World.laidAll_os _ _ _) (Rc.shaped os _) (by kernel_rfl) (by kernel_rfl) (by kernel_rfl) (Rc.met os _)) ?_
  intro W base args ds gs before hval0 hW hcnd hsz0 hL _
  have hsz : (DataW.weightsEach Tryz.prog (Tryz.f6.params.toList ++ Rows.ratioOrderSpec.plain.varTypes Tryz.prog) (ds ++ gs)).all (· ≤ reachBytes) = true := hsz0
  have hval : ∀ (j : Nat) t v, Tryz.f6.params[j]? = some t → args[j]? = some v → Value.okWide Tryz.prog W .any base t v := hval0
  have hW' := hW
  obtain ⟨p, q, hA0, hV, rfl, hfz, hnd⟩ := hW
  have hA : DataW.TrodAll enc Tryz.prog W 0 (fun _ => true) true Tryz.f6.params.toList args.toList ds p := hA0
  rw [Tryz.params6] at hA hval hsz
  obtain ⟨v0, vs0, d0, ds0, p0, q0, hargs, rfl, rfl, h0, r0⟩ := trodAll_cons hA
  obtain ⟨v1, vs1, d1, ds1, p1, q1, rfl, rfl, rfl, h1, r1⟩ := trodAll_cons r0
  obtain ⟨v2, vs2, d2, ds2, p2, q2, rfl, rfl, rfl, h2, r2⟩ := trodAll_cons r1
  obtain ⟨rfl, rfl, rfl⟩ := trodAll_nil r2
  obtain rfl : args = #[v0, v1, v2] := by cases args; simp_all
  obtain ⟨rfl, rfl⟩ := trodVars_none hV
  obtain ⟨s0, n0, e0, rfl, rfl, rfl, y0, x0⟩ := Rc.open_ratio (hval 0 23 v0 rfl rfl) h0
  obtain ⟨s1, n1, e1, rfl, rfl, rfl, y1, x1⟩ := Rc.open_ratio (hval 1 23 v1 rfl rfl) h1
  obtain ⟨s2, n2, e2, rfl, rfl, rfl, y2, x2⟩ := Rc.open_ratio (hval 2 23 v2 rfl rfl) h2
  clear hA0 hval0 hsz0 hsz
  refine (Pu.order_calls ⟨s0, n0, e0⟩ ⟨s1, n1, e1⟩ ⟨s2, n2, e2⟩ W (Rc.tabs_of hL)).mono fun e W' ⟨he, bel⟩ => ?_
  subst he
  exact ⟨_, rfl, _, _, _, [], _, [], hW', trodAll_mk1 (shut_bool Tryz.underlying4 _), (trodAll_cons_mk (Rc.shut_ratio s0 n0 e0 y0 x0) (trodAll_cons_mk (Rc.shut_ratio s1 n1 e1 y1 x1) (trodAll_cons_mk (Rc.shut_ratio s2 n2 e2 y2 x2) trodAll_mk0))), rfl, bel.frame _, fun h => by cases h⟩
theorem inPl : (Rows.ratioOrderRow.inPlace == Tryz.prog.inPlace 6) = true := by kernel_rfl
theorem unf : (Rows.ratioOrderRow.unfollowed == Tryz.prog.unfollowed 6) = true := by kernel_rfl
theorem rec : (Rows.ratioOrderRow.recurses == Tryz.prog.recurses 6) = true := by kernel_rfl
theorem nam : (Rows.ratioOrderRow.named == Tryz.prog.varsNamed 6) = true := by kernel_rfl
set_option maxRecDepth 100000 in
theorem closed : joinedFacts Tryz.prog 6 Tryz.f6 Rows.ratioOrderSpec Rows.ratioOrderRow = true := by
  unfold joinedFacts
  rw [inPl, unf, rec, nam, Rf.mapsRow, show (Rows.ratioOrderRow.plainKeys == Tryz.prog.plainKeys) = true from Rf.plainKeys, Rf.stopsHeard, Rf.mayEnter, show (Rows.ratioOrderRow.lifted == Tryz.prog.liftsFinal) = true from Rf.lifts, show (Tryz.prog.make == some Rows.ratioOrderRow.make) = true from Rf.made]
  kernel_rfl

theorem over : Rows.ratioOrderRow.holds Tryz.pinned (OpenSpec.ofChange Rows.ratioOrderSpec) :=
  OpenClaim.holds_of_wide 6 Tryz.f6 rfl rfl rfl rfl rfl rfl rfl ⟨rfl, rfl, rfl, rfl, rfl⟩ rfl rfl rfl rfl rfl (by kernel_rfl) Tryz.func6 closed
    (of_decide_eq_true (by kernel_rfl)) (by unfold Func.isWrapper; first | (rw [if_pos (by decide +kernel)]; kernel_rfl) | (rw [if_neg (by decide +kernel)]; exact ⟨rfl, rfl⟩))
    (fun os started H enc _ => lifted os started H enc)
theorem wft : Rows.ratioOrderRow.wfByText (OpenSpec.ofChange Rows.ratioOrderSpec) = true := by kernel_rfl
theorem goes : false = Rows.ratioOrderRow.goesBy Tryz.pinned.checked.prog := by kernel_rfl
theorem named : Tryz.prog.funcNamed "customhouse/customhouselaw05.RatioOrder" = some 6 := by kernel_rfl
theorem stand : ([23, 23, 23].all fun u => !Tryz.prog.wantsStandIn u) = true := by kernel_rfl
end Go.Proofs.YtfaibifilpfikaaGreatDoor.ratioOrder
namespace Go.Proofs.YtfaibifilpfikaaGreatDoor
theorem ratioOrder_card : Rows.RatioOrderCardSaid :=
  Claim7.holds_tied_plain_at .later [] [.data, .data, .data, .data, .sentinel, .sentinel, .pinned] true (true, "8ae96ca645b4a9962091bd2ee32477459f4927461a37d6eb9de8ebb1a35a7c89") true
    ratioOrder.over (fun _ h => by cases h) ratioOrder.wft (fun _ h => by cases h) ratioOrder_row_tie rfl ⟨rfl, rfl⟩ Rf.mainIs rfl
    (fun f fn hf hfn => by
      obtain rfl : f = 6 := Option.some.inj (ratioOrder.named.symm.trans hf) |>.symm
      obtain rfl : fn = Tryz.f6 := (Option.some.inj (Tryz.func6.symm.trans hfn)).symm
      exact ⟨Rf.looks, fun j t ht => by
        rw [Tryz.params6] at ht
        have hm : t ∈ [23, 23, 23] := by simpa using Array.mem_of_getElem? ht
        have hall := ratioOrder.stand
        exact (show Tryz.prog.wantsStandIn t = false by simpa using List.all_eq_true.1 hall t hm)⟩)
    ratioOrder.goes
end Go.Proofs.YtfaibifilpfikaaGreatDoor
