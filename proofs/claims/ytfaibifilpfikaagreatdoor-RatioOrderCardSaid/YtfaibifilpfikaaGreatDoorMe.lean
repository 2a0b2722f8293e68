/- Package ratio's operations, walked; conditions: Go's tables. -/
import Derived.Test.YtfaibifilpfikaaGreatDoorC
import Derived.Deep.MidRow
namespace Go.Proofs.YtfaibifilpfikaaGreatDoor.N12
open Go.RowKit Go.Shelf Go.Proofs.YtfaibifilpfikaaGreatDoorW.PrintWords Go.Proofs.YtfaibifilpfikaaGreatDoorW.PrintLast Go.Proofs.YtfaibifilpfikaaGreatDoorW.PrintMore Go.Proofs.YtfaibifilpfikaaGreatDoor.A Go.Proofs.YtfaibifilpfikaaGreatDoor.N1 Go.Proofs.YtfaibifilpfikaaGreatDoor.N11 Go.Proofs.YtfaibifilpfikaaGreatDoor.X2 Go.Proofs.YtfaibifilpfikaaGreatDoor.C
set_option linter.unusedVariables false
set_option linter.unusedSimpArgs false
def mulS (a b : ByteArray) : ByteArray := resS a b (Rq.nv a * Rq.nv b)
def mulE (a b : ByteArray) : Int := resE a b (Rq.nv a * Rq.nv b)
theorem mul_eq (a b : ByteArray) : natural_Mul.f a b = some (mulS a b, mulE a b) := rfl
theorem infoS : (Tryz.prog.info? 9).map (fun i => (i.zero, i.size, i.bytes)) = some (some (.string ⟨#[]⟩), 1, 16) := by kernel_rfl
theorem row_oneS (W : World) (m : ByteArray) : (Kd.string).C (W.alloc (.cells #[.string m] 9)) (some ⟨W.heap.size, 0, none⟩) 1 [m] := by
  refine ⟨rfl, by decide, fun _ => ⟨_, rfl, fun j p hj => ⟨[.string p], rfl, rfl, fun i u hi => ?_⟩⟩⟩
  have hi0 : i = 0 := by
    have := (List.getElem?_eq_some_iff.1 hi).1
    simp at this
    exact this
  subst hi0
  obtain rfl := Option.some.inj hi
  have hj0 : j = 0 := by
    have := (List.getElem?_eq_some_iff.1 hj).1
    simp at this
    exact this
  subst hj0
  have hp : m = p := by simpa using hj
  subst hp
  have hadd : (⟨W.heap.size, 0, none⟩ : Addr).add (0 * (Kd.string).sz + 0) = ⟨W.heap.size, 0, none⟩ := by
    show (⟨W.heap.size, 0, none⟩ : Addr).add (0 * 1 + 0) = _
    unfold Addr.add; split <;> simp_all
  rw [hadd, blk_cell (blk_new W _) 0]
  rfl
set_option maxRecDepth 100000 in
set_option maxHeartbeats 2000000 in
theorem prod2 (b : Nat) (p0 q0 p1 q1 : ByteArray) (w : World) (hT : Tabs w) (hb : w.heap[b]? = some (.cells #[.string p0, .string q0, .string p1, .string q1] 116 (0, 0))) :
    Calls Tryz.prog 117 #[.slice (some ⟨b, 0, none⟩) 2 2] w fun e w' => ∃ v', e = .returned v' ∧ (Kd.string).R 9 w' w.heap.size (fun k => w.heap.size ≤ k) v' [mulS p0 q0, mulS p1 q1] ∧ Below w.heap.size w w' := by
  have HB := Aside0.mk hb
  have HT := Aside0.mk hT
  clear hb hT
  go_enter Tryz.func117, Tryz.ntmps117
  go_wp2
  go_loopw [3, 10] (fun v3 v10 wr => ∃ (j : Nat), v10 = .int .i64 (j : Int) ∧ j ≤ 2 ∧ Aside0 ((Kd.string).R 9 wr w.heap.size (fun k => w.heap.size ≤ k) v3 ([mulS p0 q0, mulS p1 q1].take j)) ∧ Aside0 (Below w.heap.size w wr)) (fun _ v10 _ => 2 - (RowKit.intOf v10).toNat)
  case atStart => exact ⟨0, rfl, by omega, ⟨Kd.R_nil _ _ _ _ _⟩, ⟨Below.refl _ _⟩⟩
  case round =>
    obtain ⟨j, rfl, hj, hR, hbw⟩ := hrel
    have BB := Aside0.mk (blk_below HB.out hbw.out)
    rcases (show j = 0 ∨ j = 1 ∨ j = 2 by omega) with rfl | rfl | rfl
    · rw [show ((0 : Nat) : Int) = 0 from rfl]
      have c0 : wr.cell? ⟨b, 0, none⟩ = some (.string p0) := (blk_cell BB.out 0).trans rfl
      have c1 : wr.cell? ⟨b, 1, none⟩ = some (.string q0) := (blk_cell BB.out 1).trans rfl
      obtain ⟨A3, c3, rfl⟩ := Kd.R_slice hR.out
      have HM := Aside0.mk (mul_eq p0 q0)
      have hmz : True := trivial
      generalize hm : mulS p0 q0 = m at HM
      have HMM := Aside0.mk hm
      clear hm
      generalize mulE p0 q0 = me at HM
      go_wp2_with (first
        | (go_at_call 159; refine (natural_Mul.calls p0 q0 m me _ HM.out (HT.out.below (below_alloc hbw.out _))).mono ?_; rintro e w2 ⟨rfl, hb2⟩; have HR2 := Aside0.mk (Kd.R_alloc (Kd.R_below (Kd.R_alloc hR.out (.cells #[.string p0, .string q0] 116)) hb2) (.cells #[.string m] 9)); have HB2 := Aside0.mk (below_alloc (below_step (below_alloc hbw.out (.cells #[.string p0, .string q0] 116)) hb2) (.cells #[.string m] 9)); clear hb2; have HCX := Aside0.mk (row_oneS w2 m))
        | (at_builtin; refine Kd.R_append_row Value.string (⟨#[]⟩ : ByteArray) w.heap.size rfl (.tmp 22) (.tmp 24) 114 9 (.string ⟨#[]⟩) 16 rfl (by kernel_rfl) infoS rfl (by decide) _ ([mulS p0 q0, mulS p1 q1].take 0) [m] _ _ _ (fun k => w.heap.size ≤ k) rfl rfl (fun k hk => Nat.le_trans (below_size HB2.out) hk) HR2.out HCX.out HB2.out (below_size HB2.out) (by simp) ?_; intro v1 w3 ho hb hg hat; have HO3 := Aside0.mk ho; have HB3 := Aside0.mk hb; clear ho hb hg hat HR2 HCX HB2))
      go_roundw
      case rel => exact ⟨1, rfl, by omega, ⟨HO3.out⟩, HB3⟩
      case measure => decide
    · rw [show ((1 : Nat) : Int) = 1 from rfl]
      have c0 : wr.cell? ⟨b, 2, none⟩ = some (.string p1) := (blk_cell BB.out 2).trans rfl
      have c1 : wr.cell? ⟨b, 3, none⟩ = some (.string q1) := (blk_cell BB.out 3).trans rfl
      obtain ⟨A3, c3, rfl⟩ := Kd.R_slice hR.out
      have HM := Aside0.mk (mul_eq p1 q1)
      have hmz : True := trivial
      generalize hm : mulS p1 q1 = m at HM
      have HMM := Aside0.mk hm
      clear hm
      generalize mulE p1 q1 = me at HM
      go_wp2_with (first
        | (go_at_call 159; refine (natural_Mul.calls p1 q1 m me _ HM.out (HT.out.below (below_alloc hbw.out _))).mono ?_; rintro e w2 ⟨rfl, hb2⟩; have HR2 := Aside0.mk (Kd.R_alloc (Kd.R_below (Kd.R_alloc hR.out (.cells #[.string p1, .string q1] 116)) hb2) (.cells #[.string m] 9)); have HB2 := Aside0.mk (below_alloc (below_step (below_alloc hbw.out (.cells #[.string p1, .string q1] 116)) hb2) (.cells #[.string m] 9)); clear hb2; have HCX := Aside0.mk (row_oneS w2 m))
        | (at_builtin; refine Kd.R_append_row Value.string (⟨#[]⟩ : ByteArray) w.heap.size rfl (.tmp 22) (.tmp 24) 114 9 (.string ⟨#[]⟩) 16 rfl (by kernel_rfl) infoS rfl (by decide) _ ([mulS p0 q0, mulS p1 q1].take 1) [m] _ _ _ (fun k => w.heap.size ≤ k) rfl rfl (fun k hk => Nat.le_trans (below_size HB2.out) hk) HR2.out HCX.out HB2.out (below_size HB2.out) (by simp) ?_; intro v1 w3 ho hb hg hat; have HO3 := Aside0.mk ho; have HB3 := Aside0.mk hb; clear ho hb hg hat HR2 HCX HB2))
      go_roundw
      case rel => exact ⟨2, rfl, by omega, ⟨HO3.out⟩, HB3⟩
      case measure => decide
    · rw [show ((2 : Nat) : Int) = 2 from rfl]
      go_wp2
      go_ret
      exact ⟨_, rfl, hR.out, hbw.out⟩
set_option maxRecDepth 100000 in
set_option maxHeartbeats 2000000 in
theorem prod3 (b : Nat) (p0 q0 p1 q1 p2 q2 : ByteArray) (w : World) (hT : Tabs w) (hb : w.heap[b]? = some (.cells #[.string p0, .string q0, .string p1, .string q1, .string p2, .string q2] 116 (0, 0))) :
    Calls Tryz.prog 117 #[.slice (some ⟨b, 0, none⟩) 3 3] w fun e w' => ∃ v', e = .returned v' ∧ (Kd.string).R 9 w' w.heap.size (fun k => w.heap.size ≤ k) v' [mulS p0 q0, mulS p1 q1, mulS p2 q2] ∧ Below w.heap.size w w' := by
  have HB := Aside0.mk hb
  have HT := Aside0.mk hT
  clear hb hT
  go_enter Tryz.func117, Tryz.ntmps117
  go_wp2
  go_loopw [3, 10] (fun v3 v10 wr => ∃ (j : Nat), v10 = .int .i64 (j : Int) ∧ j ≤ 3 ∧ Aside0 ((Kd.string).R 9 wr w.heap.size (fun k => w.heap.size ≤ k) v3 ([mulS p0 q0, mulS p1 q1, mulS p2 q2].take j)) ∧ Aside0 (Below w.heap.size w wr)) (fun _ v10 _ => 3 - (RowKit.intOf v10).toNat)
  case atStart => exact ⟨0, rfl, by omega, ⟨Kd.R_nil _ _ _ _ _⟩, ⟨Below.refl _ _⟩⟩
  case round =>
    obtain ⟨j, rfl, hj, hR, hbw⟩ := hrel
    have BB := Aside0.mk (blk_below HB.out hbw.out)
    rcases (show j = 0 ∨ j = 1 ∨ j = 2 ∨ j = 3 by omega) with rfl | rfl | rfl | rfl
    · rw [show ((0 : Nat) : Int) = 0 from rfl]
      have c0 : wr.cell? ⟨b, 0, none⟩ = some (.string p0) := (blk_cell BB.out 0).trans rfl
      have c1 : wr.cell? ⟨b, 1, none⟩ = some (.string q0) := (blk_cell BB.out 1).trans rfl
      obtain ⟨A3, c3, rfl⟩ := Kd.R_slice hR.out
      have HM := Aside0.mk (mul_eq p0 q0)
      have hmz : True := trivial
      generalize hm : mulS p0 q0 = m at HM
      have HMM := Aside0.mk hm
      clear hm
      generalize mulE p0 q0 = me at HM
      go_wp2_with (first
        | (go_at_call 159; refine (natural_Mul.calls p0 q0 m me _ HM.out (HT.out.below (below_alloc hbw.out _))).mono ?_; rintro e w2 ⟨rfl, hb2⟩; have HR2 := Aside0.mk (Kd.R_alloc (Kd.R_below (Kd.R_alloc hR.out (.cells #[.string p0, .string q0] 116)) hb2) (.cells #[.string m] 9)); have HB2 := Aside0.mk (below_alloc (below_step (below_alloc hbw.out (.cells #[.string p0, .string q0] 116)) hb2) (.cells #[.string m] 9)); clear hb2; have HCX := Aside0.mk (row_oneS w2 m))
        | (at_builtin; refine Kd.R_append_row Value.string (⟨#[]⟩ : ByteArray) w.heap.size rfl (.tmp 22) (.tmp 24) 114 9 (.string ⟨#[]⟩) 16 rfl (by kernel_rfl) infoS rfl (by decide) _ ([mulS p0 q0, mulS p1 q1, mulS p2 q2].take 0) [m] _ _ _ (fun k => w.heap.size ≤ k) rfl rfl (fun k hk => Nat.le_trans (below_size HB2.out) hk) HR2.out HCX.out HB2.out (below_size HB2.out) (by simp) ?_; intro v1 w3 ho hb hg hat; have HO3 := Aside0.mk ho; have HB3 := Aside0.mk hb; clear ho hb hg hat HR2 HCX HB2))
      go_roundw
      case rel => exact ⟨1, rfl, by omega, ⟨HO3.out⟩, HB3⟩
      case measure => decide
    · rw [show ((1 : Nat) : Int) = 1 from rfl]
      have c0 : wr.cell? ⟨b, 2, none⟩ = some (.string p1) := (blk_cell BB.out 2).trans rfl
      have c1 : wr.cell? ⟨b, 3, none⟩ = some (.string q1) := (blk_cell BB.out 3).trans rfl
      obtain ⟨A3, c3, rfl⟩ := Kd.R_slice hR.out
      have HM := Aside0.mk (mul_eq p1 q1)
      have hmz : True := trivial
      generalize hm : mulS p1 q1 = m at HM
      have HMM := Aside0.mk hm
      clear hm
      generalize mulE p1 q1 = me at HM
      go_wp2_with (first
        | (go_at_call 159; refine (natural_Mul.calls p1 q1 m me _ HM.out (HT.out.below (below_alloc hbw.out _))).mono ?_; rintro e w2 ⟨rfl, hb2⟩; have HR2 := Aside0.mk (Kd.R_alloc (Kd.R_below (Kd.R_alloc hR.out (.cells #[.string p1, .string q1] 116)) hb2) (.cells #[.string m] 9)); have HB2 := Aside0.mk (below_alloc (below_step (below_alloc hbw.out (.cells #[.string p1, .string q1] 116)) hb2) (.cells #[.string m] 9)); clear hb2; have HCX := Aside0.mk (row_oneS w2 m))
        | (at_builtin; refine Kd.R_append_row Value.string (⟨#[]⟩ : ByteArray) w.heap.size rfl (.tmp 22) (.tmp 24) 114 9 (.string ⟨#[]⟩) 16 rfl (by kernel_rfl) infoS rfl (by decide) _ ([mulS p0 q0, mulS p1 q1, mulS p2 q2].take 1) [m] _ _ _ (fun k => w.heap.size ≤ k) rfl rfl (fun k hk => Nat.le_trans (below_size HB2.out) hk) HR2.out HCX.out HB2.out (below_size HB2.out) (by simp) ?_; intro v1 w3 ho hb hg hat; have HO3 := Aside0.mk ho; have HB3 := Aside0.mk hb; clear ho hb hg hat HR2 HCX HB2))
      go_roundw
      case rel => exact ⟨2, rfl, by omega, ⟨HO3.out⟩, HB3⟩
      case measure => decide
    · rw [show ((2 : Nat) : Int) = 2 from rfl]
      have c0 : wr.cell? ⟨b, 4, none⟩ = some (.string p2) := (blk_cell BB.out 4).trans rfl
      have c1 : wr.cell? ⟨b, 5, none⟩ = some (.string q2) := (blk_cell BB.out 5).trans rfl
      obtain ⟨A3, c3, rfl⟩ := Kd.R_slice hR.out
      have HM := Aside0.mk (mul_eq p2 q2)
      have hmz : True := trivial
      generalize hm : mulS p2 q2 = m at HM
      have HMM := Aside0.mk hm
      clear hm
      generalize mulE p2 q2 = me at HM
      go_wp2_with (first
        | (go_at_call 159; refine (natural_Mul.calls p2 q2 m me _ HM.out (HT.out.below (below_alloc hbw.out _))).mono ?_; rintro e w2 ⟨rfl, hb2⟩; have HR2 := Aside0.mk (Kd.R_alloc (Kd.R_below (Kd.R_alloc hR.out (.cells #[.string p2, .string q2] 116)) hb2) (.cells #[.string m] 9)); have HB2 := Aside0.mk (below_alloc (below_step (below_alloc hbw.out (.cells #[.string p2, .string q2] 116)) hb2) (.cells #[.string m] 9)); clear hb2; have HCX := Aside0.mk (row_oneS w2 m))
        | (at_builtin; refine Kd.R_append_row Value.string (⟨#[]⟩ : ByteArray) w.heap.size rfl (.tmp 22) (.tmp 24) 114 9 (.string ⟨#[]⟩) 16 rfl (by kernel_rfl) infoS rfl (by decide) _ ([mulS p0 q0, mulS p1 q1, mulS p2 q2].take 2) [m] _ _ _ (fun k => w.heap.size ≤ k) rfl rfl (fun k hk => Nat.le_trans (below_size HB2.out) hk) HR2.out HCX.out HB2.out (below_size HB2.out) (by simp) ?_; intro v1 w3 ho hb hg hat; have HO3 := Aside0.mk ho; have HB3 := Aside0.mk hb; clear ho hb hg hat HR2 HCX HB2))
      go_roundw
      case rel => exact ⟨3, rfl, by omega, ⟨HO3.out⟩, HB3⟩
      case measure => decide
    · rw [show ((3 : Nat) : Int) = 3 from rfl]
      go_wp2
      go_ret
      exact ⟨_, rfl, hR.out, hbw.out⟩
end Go.Proofs.YtfaibifilpfikaaGreatDoor.N12

namespace Go.Proofs.YtfaibifilpfikaaGreatDoor.N13
open Go.RowKit Go.Shelf Go.Proofs.YtfaibifilpfikaaGreatDoorW.PrintWords Go.Proofs.YtfaibifilpfikaaGreatDoorW.PrintLast Go.Proofs.YtfaibifilpfikaaGreatDoorW.PrintMore Go.Proofs.YtfaibifilpfikaaGreatDoor.A Go.Proofs.YtfaibifilpfikaaGreatDoor.N1 Go.Proofs.YtfaibifilpfikaaGreatDoor.N11 Go.Proofs.YtfaibifilpfikaaGreatDoor.X2 Go.Proofs.YtfaibifilpfikaaGreatDoor.C Go.Proofs.YtfaibifilpfikaaGreatDoor.N12
set_option linter.unusedVariables false
set_option linter.unusedSimpArgs false

theorem strs {W : World} {base : Nat} {ok : Nat → Prop} {v : Value} {xs : List ByteArray} (h : (Kd.string).R 9 W base ok v xs) (hn : 0 < xs.length) :
    ∃ g cap, v = .slice (some ⟨g, 0, none⟩) xs.length cap ∧ ok g ∧ g < W.heap.size ∧ ∀ i : Nat, i < xs.length → W.cell? ⟨g, i, none⟩ = some (.string (rdOf ByteArray.empty xs (i : Int))) := by
  have ho := Kd.own_of_R (enc := Value.string) (h1 := fun _ => rfl) h
  rcases ho.2 with ⟨_, h0⟩ | ⟨g, cap, cur, rfl, hbg, hg, rest⟩
  · simp_all
  · refine ⟨g, cap, rfl, h.1 g (by simp [Value.ownBlock]), (Array.getElem?_eq_some_iff.1 hg).1, fun i hi => ?_⟩
    exact (Kd.R_cell (enc := Value.string) (h1 := fun _ => rfl) ByteArray.empty h (i : Int) (by omega) (by omega)).1
theorem far3 {W : World} {g o b : Nat} {u x y z : Value} (h : W.cell? ⟨g, o, none⟩ = some u) (hne : g ≠ b) : (((W.setCell ⟨b, 0, none⟩ x).setCell ⟨b, 1, none⟩ y).setCell ⟨b, 2, none⟩ z).cell? ⟨g, o, none⟩ = some u := by
  rw [World.cell?_setCell_other _ _ _ _ (by simp [hne]), World.cell?_setCell_other _ _ _ _ (by simp [hne]), World.cell?_setCell_other _ _ _ _ (by simp [hne])]
  exact h
def ratio_product.f (a0_0 : Bool) (a0_1 a0_2 : ByteArray) (a1_0 : Bool) (a1_1 a1_2 : ByteArray) : Option (Bool × ByteArray × ByteArray × Int) := ratio_lowest.f (a0_0 != a1_0) (mulS a0_1 a1_1) (mulS a0_2 a1_2)
set_option maxRecDepth 100000 in
set_option maxHeartbeats 2000000 in
theorem ratio_product.calls (a0_0 : Bool) (a0_1 a0_2 : ByteArray) (a1_0 : Bool) (a1_1 a1_2 : ByteArray) (r1 : Bool) (r2 r3 : ByteArray) (r4 : Int) (w : World) (h : ratio_product.f a0_0 a0_1 a0_2 a1_0 a1_1 a1_2 = some (r1, r2, r3, r4)) (hT : Tabs w) :
    Calls Tryz.prog 83 #[.agg #[.bool a0_0, .string a0_1, .string a0_2], .agg #[.bool a1_0, .string a1_1, .string a1_2]] w fun e w' => e = .returned (.tuple #[.agg #[.bool r1, .string r2, .string r3], .int .i64 r4]) ∧ Below w.heap.size w w' := by
  have HT := Aside0.mk hT
  have H := Aside0.mk (show ratio_lowest.f (a0_0 != a1_0) (mulS a0_1 a1_1) (mulS a0_2 a1_2) = some (r1, r2, r3, r4) from h)
  have hu23 := Tryz.underlying23
  clear hT h
  obtain ⟨W0, hW0⟩ : ∃ W0, (((w.alloc (.cells #[.bool a0_0, .string a0_1, .string a0_2] 23)).alloc (.cells #[.bool a1_0, .string a1_1, .string a1_2] 23)).alloc (.cells #[.bool false, .string ⟨#[]⟩, .string ⟨#[]⟩] 23)).alloc (.cells #[.string a0_1, .string a1_1, .string a0_2, .string a1_2] 116) = W0 := ⟨_, rfl⟩
  have k0 : W0.heap[w.heap.size]? = some (.cells #[.bool a0_0, .string a0_1, .string a0_2] 23 (0, 0)) := by rw [← hW0]; exact blk_alloc (blk_alloc (blk_alloc (blk_new _ _) _) _) _
  have k1 : W0.heap[w.heap.size + 1]? = some (.cells #[.bool a1_0, .string a1_1, .string a1_2] 23 (0, 0)) := by rw [← hW0]; exact blk_alloc (blk_alloc (by have := blk_new (w.alloc (.cells #[.bool a0_0, .string a0_1, .string a0_2] 23)) (.cells #[.bool a1_0, .string a1_1, .string a1_2] 23); simpa using this) _) _
  have k2 : W0.heap[w.heap.size + 1 + 1]? = some (.cells #[.bool false, .string ⟨#[]⟩, .string ⟨#[]⟩] 23 (0, 0)) := by rw [← hW0]; exact blk_alloc (by have := blk_new ((w.alloc (.cells #[.bool a0_0, .string a0_1, .string a0_2] 23)).alloc (.cells #[.bool a1_0, .string a1_1, .string a1_2] 23)) (.cells #[.bool false, .string ⟨#[]⟩, .string ⟨#[]⟩] 23); simpa using this) _
  have k3 : W0.heap[w.heap.size + 1 + 1 + 1]? = some (.cells #[.string a0_1, .string a1_1, .string a0_2, .string a1_2] 116 (0, 0)) := by rw [← hW0]; have := blk_new (((w.alloc (.cells #[.bool a0_0, .string a0_1, .string a0_2] 23)).alloc (.cells #[.bool a1_0, .string a1_1, .string a1_2] 23)).alloc (.cells #[.bool false, .string ⟨#[]⟩, .string ⟨#[]⟩] 23)) (.cells #[.string a0_1, .string a1_1, .string a0_2, .string a1_2] 116); simpa using this
  have hbel : Below w.heap.size w W0 := by rw [← hW0]; exact below_alloc (below_alloc (below_alloc (below_alloc (Below.refl _ _) _) _) _) _
  have HB0 := Aside0.mk hbel
  have HP := Aside0.mk (prod2 (w.heap.size + 1 + 1 + 1) a0_1 a1_1 a0_2 a1_2 W0 (HT.out.below hbel) k3)
  have HS0 : Aside0 (w.heap.size + 4 ≤ W0.heap.size) := Aside0.mk (by rw [← hW0]; simp)
  have K0 := Aside0.mk k0
  have K1 := Aside0.mk k1
  have K2 := Aside0.mk k2
  have HW := Aside0.mk hW0
  clear k0 k1 k2 k3 hbel hW0
  generalize mulS a0_1 a1_1 = m0 at *
  generalize mulS a0_2 a1_2 = m1 at *
  go_enter Tryz.func83, Tryz.ntmps83
  go_wp2_with (first
    | (go_at_call 117; rw [HW.out]; refine HP.out.mono ?_; rintro e w1 ⟨v1, rfl, hR, hb⟩; have HR := Aside0.mk hR; have HB1 := Aside0.mk (below_step HB0.out hb); have J0 := Aside0.mk (blk_below K0.out hb); have J1 := Aside0.mk (blk_below K1.out hb); have J2 := Aside0.mk (blk_below K2.out hb); have HSz := Aside0.mk hb.size; clear hR hb HP K0 K1 K2 HB0; obtain ⟨g, cap, rfl, hg, hg2, hc⟩ := strs HR.out (by simp)))
  have HG := Aside0.mk hg
  have HG2 := Aside0.mk hg2
  have C0 := Aside0.mk (show w1.cell? ⟨g, 0, none⟩ = some (.string m0) from hc 0 (by simp))
  have C1 := Aside0.mk (show w1.cell? ⟨g, 1, none⟩ = some (.string m1) from hc 1 (by simp))
  clear hg hg2 hc
  refine start_ (n := 16) (S := fun w' => w'.cell? ⟨w.heap.size, 0, none⟩ = some (.bool a0_0) ∧ w'.cell? ⟨w.heap.size + 1, 0, none⟩ = some (.bool a1_0) ∧ w'.cell? ⟨g, 0, none⟩ = some (.string m0) ∧ w'.cell? ⟨g, 1, none⟩ = some (.string m1)) (ds := []) #[false, false, false, false, false, false, false, false, false, false, false, false, false, false, false, false] (by kernel_rfl) rfl rfl ⟨(blk_cell (blk_drew J0.out) 0).trans rfl, (blk_cell (blk_drew J1.out) 0).trans rfl, C0.out, C1.out⟩ (fun hHeld => ?_)
  have HB2 := Aside0.mk (below_step HB1.out (below_drew (Below.refl _ _)))
  have J02 := Aside0.mk (blk_drew J0.out)
  have J12 := Aside0.mk (blk_drew J1.out)
  have J22 := Aside0.mk (blk_drew J2.out)
  have C02 : Aside0 (w1.drew.cell? ⟨g, 0, none⟩ = some (.string m0)) := Aside0.mk C0.out
  have C12 : Aside0 (w1.drew.cell? ⟨g, 1, none⟩ = some (.string m1)) := Aside0.mk C1.out
  have HG3 : Aside0 (g < w1.drew.heap.size) := Aside0.mk HG2.out
  clear HB1 J0 J1 J2 C0 C1 HG2 HR
  generalize w1.drew = w2 at *
  refine pure_ (i := 0) (N := some 19) (v := ?_) (a' := ?_) #[true, false, false, false, false, false, false, false, false, false, false, false, false, false, false, false] rfl rfl (by kernel_rfl) (fun _ _ _ h => h) (Or.inl ⟨by rfl, ?_⟩) ?_ ?_
  rotate_left
  · intro w'
    go_simp
    with_reducible rfl
  rotate_left
  · simp only [Act.put, List.setIfInBounds_toArray, List.set_cons_zero, List.set_cons_succ, i64_w, i32_w]
    rfl
  refine take_ (i := 1) (N := some 20) (v := ?_) (a' := ?_) #[true, true, false, false, false, false, false, false, false, false, false, false, false, false, false, false] rfl rfl (by kernel_rfl) (fun _ _ _ h => h) (Or.inl ⟨by rfl, ?_⟩) hHeld ?_ ?_
  rotate_left
  · rintro w' ⟨s0, s1, s2, s3⟩
    go_simp
    with_reducible rfl
  rotate_left
  · simp only [Act.put, List.setIfInBounds_toArray, List.set_cons_zero, List.set_cons_succ, i64_w, i32_w]
    rfl
  refine pure_ (i := 2) (N := some 21) (v := ?_) (a' := ?_) #[true, true, true, false, false, false, false, false, false, false, false, false, false, false, false, false] rfl rfl (by kernel_rfl) (fun _ _ _ h => h) (Or.inl ⟨by rfl, ?_⟩) ?_ ?_
  rotate_left
  · intro w'
    go_simp
    with_reducible rfl
  rotate_left
  · simp only [Act.put, List.setIfInBounds_toArray, List.set_cons_zero, List.set_cons_succ, i64_w, i32_w]
    rfl
  refine take_ (i := 3) (N := some 22) (v := ?_) (a' := ?_) #[true, true, true, true, false, false, false, false, false, false, false, false, false, false, false, false] rfl rfl (by kernel_rfl) (fun _ _ _ h => h) (Or.inl ⟨by rfl, ?_⟩) hHeld ?_ ?_
  rotate_left
  · rintro w' ⟨s0, s1, s2, s3⟩
    go_simp
    with_reducible rfl
  rotate_left
  · simp only [Act.put, List.setIfInBounds_toArray, List.set_cons_zero, List.set_cons_succ, i64_w, i32_w]
    rfl
  refine pure_ (i := 4) (N := some 23) (v := ?_) (a' := ?_) #[true, true, true, true, true, false, false, false, false, false, false, false, false, false, false, false] rfl rfl (by kernel_rfl) (fun _ _ _ h => h) (Or.inl ⟨by rfl, ?_⟩) ?_ ?_
  rotate_left
  · intro w'
    go_simp
    with_reducible rfl
  rotate_left
  · simp only [Act.put, List.setIfInBounds_toArray, List.set_cons_zero, List.set_cons_succ, i64_w, i32_w]
    rfl
  refine pure_ (i := 5) (N := some 24) (v := ?_) (a' := ?_) #[true, true, true, true, true, true, false, false, false, false, false, false, false, false, false, false] rfl rfl (by kernel_rfl) (fun _ _ _ h => h) (Or.inl ⟨by rfl, ?_⟩) ?_ ?_
  rotate_left
  · intro w'
    go_simp
    with_reducible rfl
  rotate_left
  · simp only [Act.put, List.setIfInBounds_toArray, List.set_cons_zero, List.set_cons_succ, i64_w, i32_w]
    rfl
  refine pure_ (i := 6) (N := some 25) (v := ?_) (a' := ?_) #[true, true, true, true, true, true, true, false, false, false, false, false, false, false, false, false] rfl rfl (by kernel_rfl) (fun _ _ _ h => h) (Or.inl ⟨by rfl, ?_⟩) ?_ ?_
  rotate_left
  · intro w'
    go_simp
    with_reducible rfl
  rotate_left
  · simp only [Act.put, List.setIfInBounds_toArray, List.set_cons_zero, List.set_cons_succ, i64_w, i32_w]
    rfl
  refine take_ (i := 7) (N := some 26) (v := ?_) (a' := ?_) #[true, true, true, true, true, true, true, true, false, false, false, false, false, false, false, false] rfl rfl (by kernel_rfl) (fun _ _ _ h => h) (Or.inl ⟨by rfl, ?_⟩) hHeld ?_ ?_
  rotate_left
  · rintro w' ⟨s0, s1, s2, s3⟩
    go_simp
    with_reducible rfl
  rotate_left
  · simp only [Act.put, List.setIfInBounds_toArray, List.set_cons_zero, List.set_cons_succ, i64_w, i32_w]
    rfl
  refine pure_ (i := 8) (N := some 27) (v := ?_) (a' := ?_) #[true, true, true, true, true, true, true, true, true, false, false, false, false, false, false, false] rfl rfl (by kernel_rfl) (fun _ _ _ h => h) (Or.inl ⟨by rfl, ?_⟩) ?_ ?_
  rotate_left
  · intro w'
    go_simp
    with_reducible rfl
  rotate_left
  · simp only [Act.put, List.setIfInBounds_toArray, List.set_cons_zero, List.set_cons_succ, i64_w, i32_w]
    rfl
  refine pure_ (i := 9) (N := some 28) (v := ?_) (a' := ?_) #[true, true, true, true, true, true, true, true, true, true, false, false, false, false, false, false] rfl rfl (by kernel_rfl) (fun _ _ _ h => h) (Or.inl ⟨by rfl, ?_⟩) ?_ ?_
  rotate_left
  · intro w'
    go_simp
    with_reducible rfl
  rotate_left
  · simp only [Act.put, List.setIfInBounds_toArray, List.set_cons_zero, List.set_cons_succ, i64_w, i32_w]
    rfl
  refine take_ (i := 10) (N := some 29) (v := ?_) (a' := ?_) #[true, true, true, true, true, true, true, true, true, true, true, false, false, false, false, false] rfl rfl (by kernel_rfl) (fun _ _ _ h => h) (Or.inl ⟨by rfl, ?_⟩) hHeld ?_ ?_
  rotate_left
  · rintro w' ⟨s0, s1, s2, s3⟩
    go_simp
    with_reducible rfl
  rotate_left
  · simp only [Act.put, List.setIfInBounds_toArray, List.set_cons_zero, List.set_cons_succ, i64_w, i32_w]
    rfl
  refine one_ (i := 11) (N := some 30) #[true, true, true, true, true, true, true, true, true, true, true, true, false, false, false, false] rfl rfl (by kernel_rfl) (by decide) (fun K hK => ?_)
  refine goes_ Tryz.func62 (by kernel_rfl) rfl #[.bool (a0_0 != a1_0), .string m0, .string m1] (by rfl) rfl rfl (by (try simp only [List.map_toArray, List.map_cons, List.map_nil]); first | done | rfl) ?_
  refine (ratio_lowest.calls _ m0 m1 r1 r2 r3 r4 _ H.out (HT.out.below HB2.out)).mono ?_
  rintro e w3 ⟨rfl, hb⟩
  refine ⟨_, rfl, ?_⟩
  have HB3 := Aside0.mk (below_step HB2.out hb)
  have J03 := Aside0.mk (blk_below J02.out hb)
  have J13 := Aside0.mk (blk_below J12.out hb)
  have J23 := Aside0.mk (blk_below J22.out hb)
  have C03 := Aside0.mk ((World.cell?_of_block (a := ⟨g, 0, none⟩) (hb.block g HG3.out)).trans C02.out)
  have C13 := Aside0.mk ((World.cell?_of_block (a := ⟨g, 1, none⟩) (hb.block g HG3.out)).trans C12.out)
  clear hb HB2 J02 J12 J22 C02 C12
  refine hK.out _ _ ⟨(blk_cell J03.out 0).trans rfl, (blk_cell J13.out 0).trans rfl, C03.out, C13.out⟩ (fun hHeld => ?_)
  clear hK K
  refine norm_ (a' := ?_) ?_ ?_
  rotate_left
  · show Act.put _ (some 30) _ = _
    simp only [Act.put, List.setIfInBounds_toArray, List.set_cons_zero, List.set_cons_succ, i64_w, i32_w]
    rfl
  refine pure_ (i := 12) (N := some 31) (v := ?_) (a' := ?_) #[true, true, true, true, true, true, true, true, true, true, true, true, true, false, false, false] rfl rfl (by kernel_rfl) (fun _ _ _ h => h) (Or.inl ⟨by rfl, ?_⟩) ?_ ?_
  rotate_left
  · intro w'
    go_simp
    with_reducible rfl
  rotate_left
  · simp only [Act.put, List.setIfInBounds_toArray, List.set_cons_zero, List.set_cons_succ, i64_w, i32_w]
    rfl
  refine pure_ (i := 13) (N := some 32) (v := ?_) (a' := ?_) #[true, true, true, true, true, true, true, true, true, true, true, true, true, true, false, false] rfl rfl (by kernel_rfl) (fun _ _ _ h => h) (Or.inl ⟨by rfl, ?_⟩) ?_ ?_
  rotate_left
  · intro w'
    go_simp
    with_reducible rfl
  rotate_left
  · simp only [Act.put, List.setIfInBounds_toArray, List.set_cons_zero, List.set_cons_succ, i64_w, i32_w]
    rfl
  have hz0 : w3.cell? ⟨w.heap.size + 1 + 1, 0, none⟩ = some (.bool false) := (blk_cell J23.out 0).trans rfl
  have hz1 : w3.cell? ⟨w.heap.size + 1 + 1, 1, none⟩ = some (.string ⟨#[]⟩) := (blk_cell J23.out 1).trans rfl
  have hz2 : w3.cell? ⟨w.heap.size + 1 + 1, 2, none⟩ = some (.string ⟨#[]⟩) := (blk_cell J23.out 2).trans rfl
  have hf0 := blk_frozen J23.out 0
  have hf1 := blk_frozen J23.out 1
  have hf2 := blk_frozen J23.out 2
  refine one_ (i := 14) (N := none) #[true, true, true, true, true, true, true, true, true, true, true, true, true, true, true, false] rfl rfl (by kernel_rfl) (by decide) (fun K hK => ?_)
  refine skip_ (w1 := ?_) (by rfl) rfl ?_ ?_
  rotate_left
  · go_simp
    rfl
  have hne : g ≠ w.heap.size + 1 + 1 := by have := HG.out; have := HS0.out; omega
  have B1 := Aside0.mk (blk_put (cs := #[.bool r1, .string ⟨#[]⟩, .string ⟨#[]⟩]) (blk_put J23.out 0 (.bool r1) rfl) 1 (.string r2) rfl)
  have B2 := Aside0.mk (blk_put (cs := #[.bool r1, .string r2, .string ⟨#[]⟩]) B1.out 2 (.string r3) rfl)
  have B3 := Aside0.mk (((HB3.out.setCell (p := ⟨w.heap.size + 1 + 1, 0, none⟩) (by show w.heap.size ≤ w.heap.size + 1 + 1; omega) (.bool r1)).setCell (p := ⟨w.heap.size + 1 + 1, 1, none⟩) (by show w.heap.size ≤ w.heap.size + 1 + 1; omega) (.string r2)).setCell (p := ⟨w.heap.size + 1 + 1, 2, none⟩) (by show w.heap.size ≤ w.heap.size + 1 + 1; omega) (.string r3))
  refine hK.out _ _ ⟨(blk_cell (blk_far (blk_far (blk_far J03.out (by simp; omega) _) (by simp; omega) _) (by simp; omega) _) 0).trans rfl, (blk_cell (blk_far (blk_far (blk_far J13.out (by simp) _) (by simp) _) (by simp) _) 0).trans rfl, far3 C03.out hne, far3 C13.out hne⟩ (fun hHeld => ?_)
  clear hK K
  refine pure_ (i := 15) (N := some 5) (v := ?_) (a' := ?_) #[true, true, true, true, true, true, true, true, true, true, true, true, true, true, true, true] rfl rfl (by kernel_rfl) (fun _ _ _ h => h) (Or.inl ⟨by rfl, ?_⟩) ?_ ?_
  rotate_left
  · intro w'
    go_simp
    with_reducible rfl
  rotate_left
  · simp only [Act.put, List.setIfInBounds_toArray, List.set_cons_zero, List.set_cons_succ, i64_w, i32_w]
    rfl
  refine done_ (by kernel_rfl) ?_
  go_wp2
  refine bodyPost_ret (results_ct rfl _ _ (w.heap.size + 1 + 1) 23 #[.bool r1, .string r2, .string r3] (0, 0) _ rfl B2.out Tryz.underlying23 rfl (by kernel_rfl)) rfl ?_
  exact ⟨rfl, B3.out⟩
def addS (a b : ByteArray) : ByteArray := resS a b (Rq.nv a + Rq.nv b)
def addE (a b : ByteArray) : Int := resE a b (Rq.nv a + Rq.nv b)
theorem add_eq (a b : ByteArray) : natural_Add.f a b = some (addS a b, addE a b) := rfl
def ratio_sum.f (a0_0 : Bool) (a0_1 a0_2 : ByteArray) (a1_0 : Bool) (a1_1 a1_2 : ByteArray) : Option (Bool × ByteArray × ByteArray × Int) :=
  if a0_0 = a1_0 then ratio_lowest.f a0_0 (addS (mulS a0_1 a1_2) (mulS a1_1 a0_2)) (mulS a0_2 a1_2)
  else if cmpR (mulS a0_1 a1_2) (mulS a1_1 a0_2) < 0 then ratio_lowest.f a1_0 (subS (mulS a1_1 a0_2) (mulS a0_1 a1_2)) (mulS a0_2 a1_2)
  else ratio_lowest.f a0_0 (subS (mulS a0_1 a1_2) (mulS a1_1 a0_2)) (mulS a0_2 a1_2)
set_option maxRecDepth 100000 in
set_option maxHeartbeats 2000000 in
theorem sum_like (a0_0 : Bool) (a0_1 a0_2 : ByteArray) (a1_0 : Bool) (a1_1 a1_2 : ByteArray) (r1 : Bool) (r2 r3 : ByteArray) (r4 : Int) (w : World) (m0 m1 m2 n : ByteArray) (hm0 : mulS a0_1 a1_2 = m0) (hm1 : mulS a1_1 a0_2 = m1) (hm2 : mulS a0_2 a1_2 = m2) (ne : Int) (hs : (a0_0 == a1_0) = true) (hn : natural_Add.f m0 m1 = some (n, ne)) (h : ratio_lowest.f a0_0 n m2 = some (r1, r2, r3, r4)) (hT : Tabs w) :
    Calls Tryz.prog 71 #[.agg #[.bool a0_0, .string a0_1, .string a0_2], .agg #[.bool a1_0, .string a1_1, .string a1_2]] w fun e w' => e = .returned (.tuple #[.agg #[.bool r1, .string r2, .string r3], .int .i64 r4]) ∧ Below w.heap.size w w' := by
  have HT := Aside0.mk hT
  have H := Aside0.mk h
  have hu23 := Tryz.underlying23
  clear hT h
  obtain ⟨W0, hW0⟩ : ∃ W0, (((w.alloc (.cells #[.bool a0_0, .string a0_1, .string a0_2] 23)).alloc (.cells #[.bool a1_0, .string a1_1, .string a1_2] 23)).alloc (.cells #[.bool false, .string ⟨#[]⟩, .string ⟨#[]⟩] 23)).alloc (.cells #[.string a0_1, .string a1_2, .string a1_1, .string a0_2, .string a0_2, .string a1_2] 116) = W0 := ⟨_, rfl⟩
  have k0 : W0.heap[w.heap.size]? = some (.cells #[.bool a0_0, .string a0_1, .string a0_2] 23 (0, 0)) := by rw [← hW0]; exact blk_alloc (blk_alloc (blk_alloc (blk_new _ _) _) _) _
  have k1 : W0.heap[w.heap.size + 1]? = some (.cells #[.bool a1_0, .string a1_1, .string a1_2] 23 (0, 0)) := by rw [← hW0]; exact blk_alloc (blk_alloc (by have := blk_new (w.alloc (.cells #[.bool a0_0, .string a0_1, .string a0_2] 23)) (.cells #[.bool a1_0, .string a1_1, .string a1_2] 23); simpa using this) _) _
  have k2 : W0.heap[w.heap.size + 1 + 1]? = some (.cells #[.bool false, .string ⟨#[]⟩, .string ⟨#[]⟩] 23 (0, 0)) := by rw [← hW0]; exact blk_alloc (by have := blk_new ((w.alloc (.cells #[.bool a0_0, .string a0_1, .string a0_2] 23)).alloc (.cells #[.bool a1_0, .string a1_1, .string a1_2] 23)) (.cells #[.bool false, .string ⟨#[]⟩, .string ⟨#[]⟩] 23); simpa using this) _
  have k3 : W0.heap[w.heap.size + 1 + 1 + 1]? = some (.cells #[.string a0_1, .string a1_2, .string a1_1, .string a0_2, .string a0_2, .string a1_2] 116 (0, 0)) := by rw [← hW0]; have := blk_new (((w.alloc (.cells #[.bool a0_0, .string a0_1, .string a0_2] 23)).alloc (.cells #[.bool a1_0, .string a1_1, .string a1_2] 23)).alloc (.cells #[.bool false, .string ⟨#[]⟩, .string ⟨#[]⟩] 23)) (.cells #[.string a0_1, .string a1_2, .string a1_1, .string a0_2, .string a0_2, .string a1_2] 116); simpa using this
  have hbel : Below w.heap.size w W0 := by rw [← hW0]; exact below_alloc (below_alloc (below_alloc (below_alloc (Below.refl _ _) _) _) _) _
  have HB0 := Aside0.mk hbel
  have HP := Aside0.mk (prod3 (w.heap.size + 1 + 1 + 1) a0_1 a1_2 a1_1 a0_2 a0_2 a1_2 W0 (HT.out.below hbel) k3)
  have HS0 : Aside0 (w.heap.size + 4 ≤ W0.heap.size) := Aside0.mk (by rw [← hW0]; simp)
  have K0 := Aside0.mk k0
  have K1 := Aside0.mk k1
  have K2 := Aside0.mk k2
  have HW := Aside0.mk hW0
  clear k0 k1 k2 k3 hbel hW0
  rw [hm0, hm1, hm2] at HP
  clear hm0 hm1 hm2
  go_enter Tryz.func71, Tryz.ntmps71
  go_wp2_with (first
    | (go_at_call 117; rw [HW.out]; refine HP.out.mono ?_; rintro e w1 ⟨v1, rfl, hR, hb⟩; have HR := Aside0.mk hR; have HB1 := Aside0.mk (below_step HB0.out hb); have J0 := Aside0.mk (blk_below K0.out hb); have J1 := Aside0.mk (blk_below K1.out hb); have J2 := Aside0.mk (blk_below K2.out hb); clear hR hb HP K0 K1 K2 HB0; obtain ⟨g, cap, rfl, hg, hg2, hc⟩ := strs HR.out (by simp)))
  have c0 : w1.cell? ⟨g, 0, none⟩ = some (.string m0) := hc 0 (by simp)
  have c1 : w1.cell? ⟨g, 1, none⟩ = some (.string m1) := hc 1 (by simp)
  have c2 : w1.cell? ⟨g, 2, none⟩ = some (.string m2) := hc 2 (by simp)
  clear hg hg2 hc
  refine start_ (n := 12) (S := fun w' => w'.cell? ⟨g, 0, none⟩ = some (.string m0) ∧ w'.cell? ⟨g, 1, none⟩ = some (.string m1) ∧ w'.cell? ⟨g, 2, none⟩ = some (.string m2)) (ds := []) #[false, false, false, false, false, false, false, false, false, false, false, false] (by kernel_rfl) rfl rfl ⟨c0, c1, c2⟩ (fun hHeld => ?_)
  have HB2 := Aside0.mk (below_step HB1.out (below_drew (Below.refl _ _)))
  have J02 := Aside0.mk (blk_drew J0.out)
  have J12 := Aside0.mk (blk_drew J1.out)
  have J22 := Aside0.mk (blk_drew J2.out)
  clear HB1 J0 J1 J2 c0 c1 c2 HR
  generalize w1.drew = w2 at *
  refine pure_ (i := 0) (N := some 35) (v := ?_) (a' := ?_) #[true, false, false, false, false, false, false, false, false, false, false, false] rfl rfl (by kernel_rfl) (fun _ _ _ h => h) (Or.inl ⟨by rfl, ?_⟩) ?_ ?_
  rotate_left
  · intro w'
    go_simp
    with_reducible rfl
  rotate_left
  · simp only [Act.put, List.setIfInBounds_toArray, List.set_cons_zero, List.set_cons_succ, i64_w, i32_w]
    rfl
  refine pure_ (i := 1) (N := some 36) (v := ?_) (a' := ?_) #[true, true, false, false, false, false, false, false, false, false, false, false] rfl rfl (by kernel_rfl) (fun _ _ _ h => h) (Or.inl ⟨by rfl, ?_⟩) ?_ ?_
  rotate_left
  · intro w'
    go_simp
    with_reducible rfl
  rotate_left
  · simp only [Act.put, List.setIfInBounds_toArray, List.set_cons_zero, List.set_cons_succ, i64_w, i32_w]
    rfl
  refine take_ (i := 2) (N := some 37) (v := ?_) (a' := ?_) #[true, true, true, false, false, false, false, false, false, false, false, false] rfl rfl (by kernel_rfl) (fun _ _ _ h => h) (Or.inl ⟨by rfl, ?_⟩) hHeld ?_ ?_
  rotate_left
  · rintro w' ⟨s0, s1, s2⟩
    go_simp
    with_reducible rfl
  rotate_left
  · simp only [Act.put, List.setIfInBounds_toArray, List.set_cons_zero, List.set_cons_succ, i64_w, i32_w]
    rfl
  refine pure_ (i := 3) (N := some 38) (v := ?_) (a' := ?_) #[true, true, true, true, false, false, false, false, false, false, false, false] rfl rfl (by kernel_rfl) (fun _ _ _ h => h) (Or.inl ⟨by rfl, ?_⟩) ?_ ?_
  rotate_left
  · intro w'
    go_simp
    with_reducible rfl
  rotate_left
  · simp only [Act.put, List.setIfInBounds_toArray, List.set_cons_zero, List.set_cons_succ, i64_w, i32_w]
    rfl
  refine pure_ (i := 4) (N := some 39) (v := ?_) (a' := ?_) #[true, true, true, true, true, false, false, false, false, false, false, false] rfl rfl (by kernel_rfl) (fun _ _ _ h => h) (Or.inl ⟨by rfl, ?_⟩) ?_ ?_
  rotate_left
  · intro w'
    go_simp
    with_reducible rfl
  rotate_left
  · simp only [Act.put, List.setIfInBounds_toArray, List.set_cons_zero, List.set_cons_succ, i64_w, i32_w]
    rfl
  refine take_ (i := 5) (N := some 40) (v := ?_) (a' := ?_) #[true, true, true, true, true, true, false, false, false, false, false, false] rfl rfl (by kernel_rfl) (fun _ _ _ h => h) (Or.inl ⟨by rfl, ?_⟩) hHeld ?_ ?_
  rotate_left
  · rintro w' ⟨s0, s1, s2⟩
    go_simp
    with_reducible rfl
  rotate_left
  · simp only [Act.put, List.setIfInBounds_toArray, List.set_cons_zero, List.set_cons_succ, i64_w, i32_w]
    rfl
  refine pure_ (i := 6) (N := some 41) (v := ?_) (a' := ?_) #[true, true, true, true, true, true, true, false, false, false, false, false] rfl rfl (by kernel_rfl) (fun _ _ _ h => h) (Or.inl ⟨by rfl, ?_⟩) ?_ ?_
  rotate_left
  · intro w'
    go_simp
    with_reducible rfl
  rotate_left
  · simp only [Act.put, List.setIfInBounds_toArray, List.set_cons_zero, List.set_cons_succ, i64_w, i32_w]
    rfl
  refine pure_ (i := 7) (N := some 42) (v := ?_) (a' := ?_) #[true, true, true, true, true, true, true, true, false, false, false, false] rfl rfl (by kernel_rfl) (fun _ _ _ h => h) (Or.inl ⟨by rfl, ?_⟩) ?_ ?_
  rotate_left
  · intro w'
    go_simp
    with_reducible rfl
  rotate_left
  · simp only [Act.put, List.setIfInBounds_toArray, List.set_cons_zero, List.set_cons_succ, i64_w, i32_w]
    rfl
  refine take_ (i := 8) (N := some 43) (v := ?_) (a' := ?_) #[true, true, true, true, true, true, true, true, true, false, false, false] rfl rfl (by kernel_rfl) (fun _ _ _ h => h) (Or.inl ⟨by rfl, ?_⟩) hHeld ?_ ?_
  rotate_left
  · rintro w' ⟨s0, s1, s2⟩
    go_simp
    with_reducible rfl
  rotate_left
  · simp only [Act.put, List.setIfInBounds_toArray, List.set_cons_zero, List.set_cons_succ, i64_w, i32_w]
    rfl
  refine pure_ (i := 9) (N := some 7) (v := ?_) (a' := ?_) #[true, true, true, true, true, true, true, true, true, true, false, false] rfl rfl (by kernel_rfl) (fun _ _ _ h => h) (Or.inl ⟨by rfl, ?_⟩) ?_ ?_
  rotate_left
  · intro w'
    go_simp
    with_reducible rfl
  rotate_left
  · simp only [Act.put, List.setIfInBounds_toArray, List.set_cons_zero, List.set_cons_succ, i64_w, i32_w]
    rfl
  refine pure_ (i := 10) (N := some 8) (v := ?_) (a' := ?_) #[true, true, true, true, true, true, true, true, true, true, true, false] rfl rfl (by kernel_rfl) (fun _ _ _ h => h) (Or.inl ⟨by rfl, ?_⟩) ?_ ?_
  rotate_left
  · intro w'
    go_simp
    with_reducible rfl
  rotate_left
  · simp only [Act.put, List.setIfInBounds_toArray, List.set_cons_zero, List.set_cons_succ, i64_w, i32_w]
    rfl
  refine pure_ (i := 11) (N := some 9) (v := ?_) (a' := ?_) #[true, true, true, true, true, true, true, true, true, true, true, true] rfl rfl (by kernel_rfl) (fun _ _ _ h => h) (Or.inl ⟨by rfl, ?_⟩) ?_ ?_
  rotate_left
  · intro w'
    go_simp
    with_reducible rfl
  rotate_left
  · simp only [Act.put, List.setIfInBounds_toArray, List.set_cons_zero, List.set_cons_succ, i64_w, i32_w]
    rfl
  refine done_ (by kernel_rfl) ?_
  have hb0 : w2.cell? ⟨w.heap.size, 0, none⟩ = some (.bool a0_0) := (blk_cell J02.out 0).trans rfl
  have hb1 : w2.cell? ⟨w.heap.size + 1, 0, none⟩ = some (.bool a1_0) := (blk_cell J12.out 0).trans rfl
  go_wp2_with (first
    | (have _ := B3.out; go_at_call 62; refine (ratio_lowest.calls a0_0 n m2 r1 r2 r3 r4 _ H.out (HT.out.below B3.out)).mono ?_; rintro e w4 ⟨rfl, hb⟩; have B4 := Aside0.mk (below_step B3.out hb); have L2 := Aside0.mk (blk_below K2.out hb); clear hb; have hz0 : w4.cell? ⟨w.heap.size + 1 + 1, 0, none⟩ = some (.bool false) := (blk_cell L2.out 0).trans rfl; have hz1 : w4.cell? ⟨w.heap.size + 1 + 1, 1, none⟩ = some (.string ⟨#[]⟩) := (blk_cell L2.out 1).trans rfl; have hz2 : w4.cell? ⟨w.heap.size + 1 + 1, 2, none⟩ = some (.string ⟨#[]⟩) := (blk_cell L2.out 2).trans rfl; have hf0 := blk_frozen L2.out 0; have hf1 := blk_frozen L2.out 1; have hf2 := blk_frozen L2.out 2)
    | (go_at_call 64; refine (natural_Add.calls m0 m1 n ne _ hn (HT.out.below HB2.out)).mono ?_; rintro e w3 ⟨rfl, hb⟩; clear hn; have B3 := Aside0.mk (below_step HB2.out hb); have K2 := Aside0.mk (blk_below J22.out hb); have hn : w3.cell? ⟨w.heap.size, 0, none⟩ = some (.bool a0_0) := (blk_cell (blk_below J02.out hb) 0).trans rfl; clear hb))
  have B1 := Aside0.mk (blk_put (cs := #[.bool r1, .string ⟨#[]⟩, .string ⟨#[]⟩]) (blk_put L2.out 0 (.bool r1) rfl) 1 (.string r2) rfl)
  have B2 := Aside0.mk (blk_put (cs := #[.bool r1, .string r2, .string ⟨#[]⟩]) B1.out 2 (.string r3) rfl)
  have B5 := Aside0.mk (((B4.out.setCell (p := ⟨w.heap.size + 1 + 1, 0, none⟩) (by show w.heap.size ≤ w.heap.size + 1 + 1; omega) (.bool r1)).setCell (p := ⟨w.heap.size + 1 + 1, 1, none⟩) (by show w.heap.size ≤ w.heap.size + 1 + 1; omega) (.string r2)).setCell (p := ⟨w.heap.size + 1 + 1, 2, none⟩) (by show w.heap.size ≤ w.heap.size + 1 + 1; omega) (.string r3))
  refine bodyPost_ret (results_ct rfl _ _ (w.heap.size + 1 + 1) 23 #[.bool r1, .string r2, .string r3] (0, 0) _ rfl B2.out Tryz.underlying23 rfl (by kernel_rfl)) rfl ?_
  exact ⟨rfl, B5.out⟩
set_option maxRecDepth 100000 in
set_option maxHeartbeats 2000000 in
theorem sum_less (a0_0 : Bool) (a0_1 a0_2 : ByteArray) (a1_0 : Bool) (a1_1 a1_2 : ByteArray) (r1 : Bool) (r2 r3 : ByteArray) (r4 : Int) (w : World) (m0 m1 m2 n : ByteArray) (hm0 : mulS a0_1 a1_2 = m0) (hm1 : mulS a1_1 a0_2 = m1) (hm2 : mulS a0_2 a1_2 = m2) (cc ce ne : Int) (hs : (a0_0 == a1_0) = false) (hcc : natural_Compare.f m0 m1 = some (cc, ce)) (hc0 : decide (cc < 0) = true) (hn : natural_Sub.f m1 m0 = some (n, ne)) (h : ratio_lowest.f a1_0 n m2 = some (r1, r2, r3, r4)) (hT : Tabs w) :
    Calls Tryz.prog 71 #[.agg #[.bool a0_0, .string a0_1, .string a0_2], .agg #[.bool a1_0, .string a1_1, .string a1_2]] w fun e w' => e = .returned (.tuple #[.agg #[.bool r1, .string r2, .string r3], .int .i64 r4]) ∧ Below w.heap.size w w' := by
  have HT := Aside0.mk hT
  have H := Aside0.mk h
  have hu23 := Tryz.underlying23
  clear hT h
  obtain ⟨W0, hW0⟩ : ∃ W0, (((w.alloc (.cells #[.bool a0_0, .string a0_1, .string a0_2] 23)).alloc (.cells #[.bool a1_0, .string a1_1, .string a1_2] 23)).alloc (.cells #[.bool false, .string ⟨#[]⟩, .string ⟨#[]⟩] 23)).alloc (.cells #[.string a0_1, .string a1_2, .string a1_1, .string a0_2, .string a0_2, .string a1_2] 116) = W0 := ⟨_, rfl⟩
  have k0 : W0.heap[w.heap.size]? = some (.cells #[.bool a0_0, .string a0_1, .string a0_2] 23 (0, 0)) := by rw [← hW0]; exact blk_alloc (blk_alloc (blk_alloc (blk_new _ _) _) _) _
  have k1 : W0.heap[w.heap.size + 1]? = some (.cells #[.bool a1_0, .string a1_1, .string a1_2] 23 (0, 0)) := by rw [← hW0]; exact blk_alloc (blk_alloc (by have := blk_new (w.alloc (.cells #[.bool a0_0, .string a0_1, .string a0_2] 23)) (.cells #[.bool a1_0, .string a1_1, .string a1_2] 23); simpa using this) _) _
  have k2 : W0.heap[w.heap.size + 1 + 1]? = some (.cells #[.bool false, .string ⟨#[]⟩, .string ⟨#[]⟩] 23 (0, 0)) := by rw [← hW0]; exact blk_alloc (by have := blk_new ((w.alloc (.cells #[.bool a0_0, .string a0_1, .string a0_2] 23)).alloc (.cells #[.bool a1_0, .string a1_1, .string a1_2] 23)) (.cells #[.bool false, .string ⟨#[]⟩, .string ⟨#[]⟩] 23); simpa using this) _
  have k3 : W0.heap[w.heap.size + 1 + 1 + 1]? = some (.cells #[.string a0_1, .string a1_2, .string a1_1, .string a0_2, .string a0_2, .string a1_2] 116 (0, 0)) := by rw [← hW0]; have := blk_new (((w.alloc (.cells #[.bool a0_0, .string a0_1, .string a0_2] 23)).alloc (.cells #[.bool a1_0, .string a1_1, .string a1_2] 23)).alloc (.cells #[.bool false, .string ⟨#[]⟩, .string ⟨#[]⟩] 23)) (.cells #[.string a0_1, .string a1_2, .string a1_1, .string a0_2, .string a0_2, .string a1_2] 116); simpa using this
  have hbel : Below w.heap.size w W0 := by rw [← hW0]; exact below_alloc (below_alloc (below_alloc (below_alloc (Below.refl _ _) _) _) _) _
  have HB0 := Aside0.mk hbel
  have HP := Aside0.mk (prod3 (w.heap.size + 1 + 1 + 1) a0_1 a1_2 a1_1 a0_2 a0_2 a1_2 W0 (HT.out.below hbel) k3)
  have HS0 : Aside0 (w.heap.size + 4 ≤ W0.heap.size) := Aside0.mk (by rw [← hW0]; simp)
  have K0 := Aside0.mk k0
  have K1 := Aside0.mk k1
  have K2 := Aside0.mk k2
  have HW := Aside0.mk hW0
  clear k0 k1 k2 k3 hbel hW0
  rw [hm0, hm1, hm2] at HP
  clear hm0 hm1 hm2
  go_enter Tryz.func71, Tryz.ntmps71
  go_wp2_with (first
    | (go_at_call 117; rw [HW.out]; refine HP.out.mono ?_; rintro e w1 ⟨v1, rfl, hR, hb⟩; have HR := Aside0.mk hR; have HB1 := Aside0.mk (below_step HB0.out hb); have J0 := Aside0.mk (blk_below K0.out hb); have J1 := Aside0.mk (blk_below K1.out hb); have J2 := Aside0.mk (blk_below K2.out hb); clear hR hb HP K0 K1 K2 HB0; obtain ⟨g, cap, rfl, hg, hg2, hc⟩ := strs HR.out (by simp)))
  have c0 : w1.cell? ⟨g, 0, none⟩ = some (.string m0) := hc 0 (by simp)
  have c1 : w1.cell? ⟨g, 1, none⟩ = some (.string m1) := hc 1 (by simp)
  have c2 : w1.cell? ⟨g, 2, none⟩ = some (.string m2) := hc 2 (by simp)
  clear hg hg2 hc
  refine start_ (n := 12) (S := fun w' => w'.cell? ⟨g, 0, none⟩ = some (.string m0) ∧ w'.cell? ⟨g, 1, none⟩ = some (.string m1) ∧ w'.cell? ⟨g, 2, none⟩ = some (.string m2)) (ds := []) #[false, false, false, false, false, false, false, false, false, false, false, false] (by kernel_rfl) rfl rfl ⟨c0, c1, c2⟩ (fun hHeld => ?_)
  have HB2 := Aside0.mk (below_step HB1.out (below_drew (Below.refl _ _)))
  have J02 := Aside0.mk (blk_drew J0.out)
  have J12 := Aside0.mk (blk_drew J1.out)
  have J22 := Aside0.mk (blk_drew J2.out)
  clear HB1 J0 J1 J2 c0 c1 c2 HR
  generalize w1.drew = w2 at *
  refine pure_ (i := 0) (N := some 35) (v := ?_) (a' := ?_) #[true, false, false, false, false, false, false, false, false, false, false, false] rfl rfl (by kernel_rfl) (fun _ _ _ h => h) (Or.inl ⟨by rfl, ?_⟩) ?_ ?_
  rotate_left
  · intro w'
    go_simp
    with_reducible rfl
  rotate_left
  · simp only [Act.put, List.setIfInBounds_toArray, List.set_cons_zero, List.set_cons_succ, i64_w, i32_w]
    rfl
  refine pure_ (i := 1) (N := some 36) (v := ?_) (a' := ?_) #[true, true, false, false, false, false, false, false, false, false, false, false] rfl rfl (by kernel_rfl) (fun _ _ _ h => h) (Or.inl ⟨by rfl, ?_⟩) ?_ ?_
  rotate_left
  · intro w'
    go_simp
    with_reducible rfl
  rotate_left
  · simp only [Act.put, List.setIfInBounds_toArray, List.set_cons_zero, List.set_cons_succ, i64_w, i32_w]
    rfl
  refine take_ (i := 2) (N := some 37) (v := ?_) (a' := ?_) #[true, true, true, false, false, false, false, false, false, false, false, false] rfl rfl (by kernel_rfl) (fun _ _ _ h => h) (Or.inl ⟨by rfl, ?_⟩) hHeld ?_ ?_
  rotate_left
  · rintro w' ⟨s0, s1, s2⟩
    go_simp
    with_reducible rfl
  rotate_left
  · simp only [Act.put, List.setIfInBounds_toArray, List.set_cons_zero, List.set_cons_succ, i64_w, i32_w]
    rfl
  refine pure_ (i := 3) (N := some 38) (v := ?_) (a' := ?_) #[true, true, true, true, false, false, false, false, false, false, false, false] rfl rfl (by kernel_rfl) (fun _ _ _ h => h) (Or.inl ⟨by rfl, ?_⟩) ?_ ?_
  rotate_left
  · intro w'
    go_simp
    with_reducible rfl
  rotate_left
  · simp only [Act.put, List.setIfInBounds_toArray, List.set_cons_zero, List.set_cons_succ, i64_w, i32_w]
    rfl
  refine pure_ (i := 4) (N := some 39) (v := ?_) (a' := ?_) #[true, true, true, true, true, false, false, false, false, false, false, false] rfl rfl (by kernel_rfl) (fun _ _ _ h => h) (Or.inl ⟨by rfl, ?_⟩) ?_ ?_
  rotate_left
  · intro w'
    go_simp
    with_reducible rfl
  rotate_left
  · simp only [Act.put, List.setIfInBounds_toArray, List.set_cons_zero, List.set_cons_succ, i64_w, i32_w]
    rfl
  refine take_ (i := 5) (N := some 40) (v := ?_) (a' := ?_) #[true, true, true, true, true, true, false, false, false, false, false, false] rfl rfl (by kernel_rfl) (fun _ _ _ h => h) (Or.inl ⟨by rfl, ?_⟩) hHeld ?_ ?_
  rotate_left
  · rintro w' ⟨s0, s1, s2⟩
    go_simp
    with_reducible rfl
  rotate_left
  · simp only [Act.put, List.setIfInBounds_toArray, List.set_cons_zero, List.set_cons_succ, i64_w, i32_w]
    rfl
  refine pure_ (i := 6) (N := some 41) (v := ?_) (a' := ?_) #[true, true, true, true, true, true, true, false, false, false, false, false] rfl rfl (by kernel_rfl) (fun _ _ _ h => h) (Or.inl ⟨by rfl, ?_⟩) ?_ ?_
  rotate_left
  · intro w'
    go_simp
    with_reducible rfl
  rotate_left
  · simp only [Act.put, List.setIfInBounds_toArray, List.set_cons_zero, List.set_cons_succ, i64_w, i32_w]
    rfl
  refine pure_ (i := 7) (N := some 42) (v := ?_) (a' := ?_) #[true, true, true, true, true, true, true, true, false, false, false, false] rfl rfl (by kernel_rfl) (fun _ _ _ h => h) (Or.inl ⟨by rfl, ?_⟩) ?_ ?_
  rotate_left
  · intro w'
    go_simp
    with_reducible rfl
  rotate_left
  · simp only [Act.put, List.setIfInBounds_toArray, List.set_cons_zero, List.set_cons_succ, i64_w, i32_w]
    rfl
  refine take_ (i := 8) (N := some 43) (v := ?_) (a' := ?_) #[true, true, true, true, true, true, true, true, true, false, false, false] rfl rfl (by kernel_rfl) (fun _ _ _ h => h) (Or.inl ⟨by rfl, ?_⟩) hHeld ?_ ?_
  rotate_left
  · rintro w' ⟨s0, s1, s2⟩
    go_simp
    with_reducible rfl
  rotate_left
  · simp only [Act.put, List.setIfInBounds_toArray, List.set_cons_zero, List.set_cons_succ, i64_w, i32_w]
    rfl
  refine pure_ (i := 9) (N := some 7) (v := ?_) (a' := ?_) #[true, true, true, true, true, true, true, true, true, true, false, false] rfl rfl (by kernel_rfl) (fun _ _ _ h => h) (Or.inl ⟨by rfl, ?_⟩) ?_ ?_
  rotate_left
  · intro w'
    go_simp
    with_reducible rfl
  rotate_left
  · simp only [Act.put, List.setIfInBounds_toArray, List.set_cons_zero, List.set_cons_succ, i64_w, i32_w]
    rfl
  refine pure_ (i := 10) (N := some 8) (v := ?_) (a' := ?_) #[true, true, true, true, true, true, true, true, true, true, true, false] rfl rfl (by kernel_rfl) (fun _ _ _ h => h) (Or.inl ⟨by rfl, ?_⟩) ?_ ?_
  rotate_left
  · intro w'
    go_simp
    with_reducible rfl
  rotate_left
  · simp only [Act.put, List.setIfInBounds_toArray, List.set_cons_zero, List.set_cons_succ, i64_w, i32_w]
    rfl
  refine pure_ (i := 11) (N := some 9) (v := ?_) (a' := ?_) #[true, true, true, true, true, true, true, true, true, true, true, true] rfl rfl (by kernel_rfl) (fun _ _ _ h => h) (Or.inl ⟨by rfl, ?_⟩) ?_ ?_
  rotate_left
  · intro w'
    go_simp
    with_reducible rfl
  rotate_left
  · simp only [Act.put, List.setIfInBounds_toArray, List.set_cons_zero, List.set_cons_succ, i64_w, i32_w]
    rfl
  refine done_ (by kernel_rfl) ?_
  have hb0 : w2.cell? ⟨w.heap.size, 0, none⟩ = some (.bool a0_0) := (blk_cell J02.out 0).trans rfl
  have hb1 : w2.cell? ⟨w.heap.size + 1, 0, none⟩ = some (.bool a1_0) := (blk_cell J12.out 0).trans rfl
  go_wp2_with (first
    | (have _ := B3.out; go_at_call 62; refine (ratio_lowest.calls a1_0 n m2 r1 r2 r3 r4 _ H.out (HT.out.below B3.out)).mono ?_; rintro e w4 ⟨rfl, hb⟩; have B4 := Aside0.mk (below_step B3.out hb); have L2 := Aside0.mk (blk_below K2.out hb); clear hb; have hz0 : w4.cell? ⟨w.heap.size + 1 + 1, 0, none⟩ = some (.bool false) := (blk_cell L2.out 0).trans rfl; have hz1 : w4.cell? ⟨w.heap.size + 1 + 1, 1, none⟩ = some (.string ⟨#[]⟩) := (blk_cell L2.out 1).trans rfl; have hz2 : w4.cell? ⟨w.heap.size + 1 + 1, 2, none⟩ = some (.string ⟨#[]⟩) := (blk_cell L2.out 2).trans rfl; have hf0 := blk_frozen L2.out 0; have hf1 := blk_frozen L2.out 1; have hf2 := blk_frozen L2.out 2)
    | (have _ := HB20.out; go_at_call 119; refine (natural_Sub.calls m1 m0 n ne _ hn (HT.out.below HB20.out)).mono ?_; rintro e w3 ⟨rfl, hb⟩; clear hn; have B3 := Aside0.mk (below_step HB20.out hb); have K2 := Aside0.mk (blk_below J220.out hb); have hn : w3.cell? ⟨w.heap.size + 1, 0, none⟩ = some (.bool a1_0) := (blk_cell (blk_below J120.out hb) 0).trans rfl; clear hb)
    | (go_at_call 118; refine (natural_Compare.calls m0 m1 _ _ _ hcc (HT.out.below HB2.out)).mono ?_; rintro e w20 ⟨rfl, hb⟩; clear hcc; have HB20 := Aside0.mk (below_step HB2.out hb); have J020 := Aside0.mk (blk_below J02.out hb); have J120 := Aside0.mk (blk_below J12.out hb); have J220 := Aside0.mk (blk_below J22.out hb); clear hb))
  have B1 := Aside0.mk (blk_put (cs := #[.bool r1, .string ⟨#[]⟩, .string ⟨#[]⟩]) (blk_put L2.out 0 (.bool r1) rfl) 1 (.string r2) rfl)
  have B2 := Aside0.mk (blk_put (cs := #[.bool r1, .string r2, .string ⟨#[]⟩]) B1.out 2 (.string r3) rfl)
  have B5 := Aside0.mk (((B4.out.setCell (p := ⟨w.heap.size + 1 + 1, 0, none⟩) (by show w.heap.size ≤ w.heap.size + 1 + 1; omega) (.bool r1)).setCell (p := ⟨w.heap.size + 1 + 1, 1, none⟩) (by show w.heap.size ≤ w.heap.size + 1 + 1; omega) (.string r2)).setCell (p := ⟨w.heap.size + 1 + 1, 2, none⟩) (by show w.heap.size ≤ w.heap.size + 1 + 1; omega) (.string r3))
  refine bodyPost_ret (results_ct rfl _ _ (w.heap.size + 1 + 1) 23 #[.bool r1, .string r2, .string r3] (0, 0) _ rfl B2.out Tryz.underlying23 rfl (by kernel_rfl)) rfl ?_
  exact ⟨rfl, B5.out⟩
set_option maxRecDepth 100000 in
set_option maxHeartbeats 2000000 in
theorem sum_more (a0_0 : Bool) (a0_1 a0_2 : ByteArray) (a1_0 : Bool) (a1_1 a1_2 : ByteArray) (r1 : Bool) (r2 r3 : ByteArray) (r4 : Int) (w : World) (m0 m1 m2 n : ByteArray) (hm0 : mulS a0_1 a1_2 = m0) (hm1 : mulS a1_1 a0_2 = m1) (hm2 : mulS a0_2 a1_2 = m2) (cc ce ne : Int) (hs : (a0_0 == a1_0) = false) (hcc : natural_Compare.f m0 m1 = some (cc, ce)) (hc0 : decide (cc < 0) = false) (hn : natural_Sub.f m0 m1 = some (n, ne)) (h : ratio_lowest.f a0_0 n m2 = some (r1, r2, r3, r4)) (hT : Tabs w) :
    Calls Tryz.prog 71 #[.agg #[.bool a0_0, .string a0_1, .string a0_2], .agg #[.bool a1_0, .string a1_1, .string a1_2]] w fun e w' => e = .returned (.tuple #[.agg #[.bool r1, .string r2, .string r3], .int .i64 r4]) ∧ Below w.heap.size w w' := by
  have HT := Aside0.mk hT
  have H := Aside0.mk h
  have hu23 := Tryz.underlying23
  clear hT h
  obtain ⟨W0, hW0⟩ : ∃ W0, (((w.alloc (.cells #[.bool a0_0, .string a0_1, .string a0_2] 23)).alloc (.cells #[.bool a1_0, .string a1_1, .string a1_2] 23)).alloc (.cells #[.bool false, .string ⟨#[]⟩, .string ⟨#[]⟩] 23)).alloc (.cells #[.string a0_1, .string a1_2, .string a1_1, .string a0_2, .string a0_2, .string a1_2] 116) = W0 := ⟨_, rfl⟩
  have k0 : W0.heap[w.heap.size]? = some (.cells #[.bool a0_0, .string a0_1, .string a0_2] 23 (0, 0)) := by rw [← hW0]; exact blk_alloc (blk_alloc (blk_alloc (blk_new _ _) _) _) _
  have k1 : W0.heap[w.heap.size + 1]? = some (.cells #[.bool a1_0, .string a1_1, .string a1_2] 23 (0, 0)) := by rw [← hW0]; exact blk_alloc (blk_alloc (by have := blk_new (w.alloc (.cells #[.bool a0_0, .string a0_1, .string a0_2] 23)) (.cells #[.bool a1_0, .string a1_1, .string a1_2] 23); simpa using this) _) _
  have k2 : W0.heap[w.heap.size + 1 + 1]? = some (.cells #[.bool false, .string ⟨#[]⟩, .string ⟨#[]⟩] 23 (0, 0)) := by rw [← hW0]; exact blk_alloc (by have := blk_new ((w.alloc (.cells #[.bool a0_0, .string a0_1, .string a0_2] 23)).alloc (.cells #[.bool a1_0, .string a1_1, .string a1_2] 23)) (.cells #[.bool false, .string ⟨#[]⟩, .string ⟨#[]⟩] 23); simpa using this) _
  have k3 : W0.heap[w.heap.size + 1 + 1 + 1]? = some (.cells #[.string a0_1, .string a1_2, .string a1_1, .string a0_2, .string a0_2, .string a1_2] 116 (0, 0)) := by rw [← hW0]; have := blk_new (((w.alloc (.cells #[.bool a0_0, .string a0_1, .string a0_2] 23)).alloc (.cells #[.bool a1_0, .string a1_1, .string a1_2] 23)).alloc (.cells #[.bool false, .string ⟨#[]⟩, .string ⟨#[]⟩] 23)) (.cells #[.string a0_1, .string a1_2, .string a1_1, .string a0_2, .string a0_2, .string a1_2] 116); simpa using this
  have hbel : Below w.heap.size w W0 := by rw [← hW0]; exact below_alloc (below_alloc (below_alloc (below_alloc (Below.refl _ _) _) _) _) _
  have HB0 := Aside0.mk hbel
  have HP := Aside0.mk (prod3 (w.heap.size + 1 + 1 + 1) a0_1 a1_2 a1_1 a0_2 a0_2 a1_2 W0 (HT.out.below hbel) k3)
  have HS0 : Aside0 (w.heap.size + 4 ≤ W0.heap.size) := Aside0.mk (by rw [← hW0]; simp)
  have K0 := Aside0.mk k0
  have K1 := Aside0.mk k1
  have K2 := Aside0.mk k2
  have HW := Aside0.mk hW0
  clear k0 k1 k2 k3 hbel hW0
  rw [hm0, hm1, hm2] at HP
  clear hm0 hm1 hm2
  go_enter Tryz.func71, Tryz.ntmps71
  go_wp2_with (first
    | (go_at_call 117; rw [HW.out]; refine HP.out.mono ?_; rintro e w1 ⟨v1, rfl, hR, hb⟩; have HR := Aside0.mk hR; have HB1 := Aside0.mk (below_step HB0.out hb); have J0 := Aside0.mk (blk_below K0.out hb); have J1 := Aside0.mk (blk_below K1.out hb); have J2 := Aside0.mk (blk_below K2.out hb); clear hR hb HP K0 K1 K2 HB0; obtain ⟨g, cap, rfl, hg, hg2, hc⟩ := strs HR.out (by simp)))
  have c0 : w1.cell? ⟨g, 0, none⟩ = some (.string m0) := hc 0 (by simp)
  have c1 : w1.cell? ⟨g, 1, none⟩ = some (.string m1) := hc 1 (by simp)
  have c2 : w1.cell? ⟨g, 2, none⟩ = some (.string m2) := hc 2 (by simp)
  clear hg hg2 hc
  refine start_ (n := 12) (S := fun w' => w'.cell? ⟨g, 0, none⟩ = some (.string m0) ∧ w'.cell? ⟨g, 1, none⟩ = some (.string m1) ∧ w'.cell? ⟨g, 2, none⟩ = some (.string m2)) (ds := []) #[false, false, false, false, false, false, false, false, false, false, false, false] (by kernel_rfl) rfl rfl ⟨c0, c1, c2⟩ (fun hHeld => ?_)
  have HB2 := Aside0.mk (below_step HB1.out (below_drew (Below.refl _ _)))
  have J02 := Aside0.mk (blk_drew J0.out)
  have J12 := Aside0.mk (blk_drew J1.out)
  have J22 := Aside0.mk (blk_drew J2.out)
  clear HB1 J0 J1 J2 c0 c1 c2 HR
  generalize w1.drew = w2 at *
  refine pure_ (i := 0) (N := some 35) (v := ?_) (a' := ?_) #[true, false, false, false, false, false, false, false, false, false, false, false] rfl rfl (by kernel_rfl) (fun _ _ _ h => h) (Or.inl ⟨by rfl, ?_⟩) ?_ ?_
  rotate_left
  · intro w'
    go_simp
    with_reducible rfl
  rotate_left
  · simp only [Act.put, List.setIfInBounds_toArray, List.set_cons_zero, List.set_cons_succ, i64_w, i32_w]
    rfl
  refine pure_ (i := 1) (N := some 36) (v := ?_) (a' := ?_) #[true, true, false, false, false, false, false, false, false, false, false, false] rfl rfl (by kernel_rfl) (fun _ _ _ h => h) (Or.inl ⟨by rfl, ?_⟩) ?_ ?_
  rotate_left
  · intro w'
    go_simp
    with_reducible rfl
  rotate_left
  · simp only [Act.put, List.setIfInBounds_toArray, List.set_cons_zero, List.set_cons_succ, i64_w, i32_w]
    rfl
  refine take_ (i := 2) (N := some 37) (v := ?_) (a' := ?_) #[true, true, true, false, false, false, false, false, false, false, false, false] rfl rfl (by kernel_rfl) (fun _ _ _ h => h) (Or.inl ⟨by rfl, ?_⟩) hHeld ?_ ?_
  rotate_left
  · rintro w' ⟨s0, s1, s2⟩
    go_simp
    with_reducible rfl
  rotate_left
  · simp only [Act.put, List.setIfInBounds_toArray, List.set_cons_zero, List.set_cons_succ, i64_w, i32_w]
    rfl
  refine pure_ (i := 3) (N := some 38) (v := ?_) (a' := ?_) #[true, true, true, true, false, false, false, false, false, false, false, false] rfl rfl (by kernel_rfl) (fun _ _ _ h => h) (Or.inl ⟨by rfl, ?_⟩) ?_ ?_
  rotate_left
  · intro w'
    go_simp
    with_reducible rfl
  rotate_left
  · simp only [Act.put, List.setIfInBounds_toArray, List.set_cons_zero, List.set_cons_succ, i64_w, i32_w]
    rfl
  refine pure_ (i := 4) (N := some 39) (v := ?_) (a' := ?_) #[true, true, true, true, true, false, false, false, false, false, false, false] rfl rfl (by kernel_rfl) (fun _ _ _ h => h) (Or.inl ⟨by rfl, ?_⟩) ?_ ?_
  rotate_left
  · intro w'
    go_simp
    with_reducible rfl
  rotate_left
  · simp only [Act.put, List.setIfInBounds_toArray, List.set_cons_zero, List.set_cons_succ, i64_w, i32_w]
    rfl
  refine take_ (i := 5) (N := some 40) (v := ?_) (a' := ?_) #[true, true, true, true, true, true, false, false, false, false, false, false] rfl rfl (by kernel_rfl) (fun _ _ _ h => h) (Or.inl ⟨by rfl, ?_⟩) hHeld ?_ ?_
  rotate_left
  · rintro w' ⟨s0, s1, s2⟩
    go_simp
    with_reducible rfl
  rotate_left
  · simp only [Act.put, List.setIfInBounds_toArray, List.set_cons_zero, List.set_cons_succ, i64_w, i32_w]
    rfl
  refine pure_ (i := 6) (N := some 41) (v := ?_) (a' := ?_) #[true, true, true, true, true, true, true, false, false, false, false, false] rfl rfl (by kernel_rfl) (fun _ _ _ h => h) (Or.inl ⟨by rfl, ?_⟩) ?_ ?_
  rotate_left
  · intro w'
    go_simp
    with_reducible rfl
  rotate_left
  · simp only [Act.put, List.setIfInBounds_toArray, List.set_cons_zero, List.set_cons_succ, i64_w, i32_w]
    rfl
  refine pure_ (i := 7) (N := some 42) (v := ?_) (a' := ?_) #[true, true, true, true, true, true, true, true, false, false, false, false] rfl rfl (by kernel_rfl) (fun _ _ _ h => h) (Or.inl ⟨by rfl, ?_⟩) ?_ ?_
  rotate_left
  · intro w'
    go_simp
    with_reducible rfl
  rotate_left
  · simp only [Act.put, List.setIfInBounds_toArray, List.set_cons_zero, List.set_cons_succ, i64_w, i32_w]
    rfl
  refine take_ (i := 8) (N := some 43) (v := ?_) (a' := ?_) #[true, true, true, true, true, true, true, true, true, false, false, false] rfl rfl (by kernel_rfl) (fun _ _ _ h => h) (Or.inl ⟨by rfl, ?_⟩) hHeld ?_ ?_
  rotate_left
  · rintro w' ⟨s0, s1, s2⟩
    go_simp
    with_reducible rfl
  rotate_left
  · simp only [Act.put, List.setIfInBounds_toArray, List.set_cons_zero, List.set_cons_succ, i64_w, i32_w]
    rfl
  refine pure_ (i := 9) (N := some 7) (v := ?_) (a' := ?_) #[true, true, true, true, true, true, true, true, true, true, false, false] rfl rfl (by kernel_rfl) (fun _ _ _ h => h) (Or.inl ⟨by rfl, ?_⟩) ?_ ?_
  rotate_left
  · intro w'
    go_simp
    with_reducible rfl
  rotate_left
  · simp only [Act.put, List.setIfInBounds_toArray, List.set_cons_zero, List.set_cons_succ, i64_w, i32_w]
    rfl
  refine pure_ (i := 10) (N := some 8) (v := ?_) (a' := ?_) #[true, true, true, true, true, true, true, true, true, true, true, false] rfl rfl (by kernel_rfl) (fun _ _ _ h => h) (Or.inl ⟨by rfl, ?_⟩) ?_ ?_
  rotate_left
  · intro w'
    go_simp
    with_reducible rfl
  rotate_left
  · simp only [Act.put, List.setIfInBounds_toArray, List.set_cons_zero, List.set_cons_succ, i64_w, i32_w]
    rfl
  refine pure_ (i := 11) (N := some 9) (v := ?_) (a' := ?_) #[true, true, true, true, true, true, true, true, true, true, true, true] rfl rfl (by kernel_rfl) (fun _ _ _ h => h) (Or.inl ⟨by rfl, ?_⟩) ?_ ?_
  rotate_left
  · intro w'
    go_simp
    with_reducible rfl
  rotate_left
  · simp only [Act.put, List.setIfInBounds_toArray, List.set_cons_zero, List.set_cons_succ, i64_w, i32_w]
    rfl
  refine done_ (by kernel_rfl) ?_
  have hb0 : w2.cell? ⟨w.heap.size, 0, none⟩ = some (.bool a0_0) := (blk_cell J02.out 0).trans rfl
  have hb1 : w2.cell? ⟨w.heap.size + 1, 0, none⟩ = some (.bool a1_0) := (blk_cell J12.out 0).trans rfl
  go_wp2_with (first
    | (have _ := B3.out; go_at_call 62; refine (ratio_lowest.calls a0_0 n m2 r1 r2 r3 r4 _ H.out (HT.out.below B3.out)).mono ?_; rintro e w4 ⟨rfl, hb⟩; have B4 := Aside0.mk (below_step B3.out hb); have L2 := Aside0.mk (blk_below K2.out hb); clear hb; have hz0 : w4.cell? ⟨w.heap.size + 1 + 1, 0, none⟩ = some (.bool false) := (blk_cell L2.out 0).trans rfl; have hz1 : w4.cell? ⟨w.heap.size + 1 + 1, 1, none⟩ = some (.string ⟨#[]⟩) := (blk_cell L2.out 1).trans rfl; have hz2 : w4.cell? ⟨w.heap.size + 1 + 1, 2, none⟩ = some (.string ⟨#[]⟩) := (blk_cell L2.out 2).trans rfl; have hf0 := blk_frozen L2.out 0; have hf1 := blk_frozen L2.out 1; have hf2 := blk_frozen L2.out 2)
    | (have _ := HB20.out; go_at_call 119; refine (natural_Sub.calls m0 m1 n ne _ hn (HT.out.below HB20.out)).mono ?_; rintro e w3 ⟨rfl, hb⟩; clear hn; have B3 := Aside0.mk (below_step HB20.out hb); have K2 := Aside0.mk (blk_below J220.out hb); have hn : w3.cell? ⟨w.heap.size, 0, none⟩ = some (.bool a0_0) := (blk_cell (blk_below J020.out hb) 0).trans rfl; clear hb)
    | (go_at_call 118; refine (natural_Compare.calls m0 m1 _ _ _ hcc (HT.out.below HB2.out)).mono ?_; rintro e w20 ⟨rfl, hb⟩; clear hcc; have HB20 := Aside0.mk (below_step HB2.out hb); have J020 := Aside0.mk (blk_below J02.out hb); have J120 := Aside0.mk (blk_below J12.out hb); have J220 := Aside0.mk (blk_below J22.out hb); clear hb))
  have B1 := Aside0.mk (blk_put (cs := #[.bool r1, .string ⟨#[]⟩, .string ⟨#[]⟩]) (blk_put L2.out 0 (.bool r1) rfl) 1 (.string r2) rfl)
  have B2 := Aside0.mk (blk_put (cs := #[.bool r1, .string r2, .string ⟨#[]⟩]) B1.out 2 (.string r3) rfl)
  have B5 := Aside0.mk (((B4.out.setCell (p := ⟨w.heap.size + 1 + 1, 0, none⟩) (by show w.heap.size ≤ w.heap.size + 1 + 1; omega) (.bool r1)).setCell (p := ⟨w.heap.size + 1 + 1, 1, none⟩) (by show w.heap.size ≤ w.heap.size + 1 + 1; omega) (.string r2)).setCell (p := ⟨w.heap.size + 1 + 1, 2, none⟩) (by show w.heap.size ≤ w.heap.size + 1 + 1; omega) (.string r3))
  refine bodyPost_ret (results_ct rfl _ _ (w.heap.size + 1 + 1) 23 #[.bool r1, .string r2, .string r3] (0, 0) _ rfl B2.out Tryz.underlying23 rfl (by kernel_rfl)) rfl ?_
  exact ⟨rfl, B5.out⟩
theorem ratio_sum.calls (a0_0 : Bool) (a0_1 a0_2 : ByteArray) (a1_0 : Bool) (a1_1 a1_2 : ByteArray) (r1 : Bool) (r2 r3 : ByteArray) (r4 : Int) (w : World) (h : ratio_sum.f a0_0 a0_1 a0_2 a1_0 a1_1 a1_2 = some (r1, r2, r3, r4)) (hT : Tabs w) :
    Calls Tryz.prog 71 #[.agg #[.bool a0_0, .string a0_1, .string a0_2], .agg #[.bool a1_0, .string a1_1, .string a1_2]] w fun e w' => e = .returned (.tuple #[.agg #[.bool r1, .string r2, .string r3], .int .i64 r4]) ∧ Below w.heap.size w w' := by
  unfold ratio_sum.f at h
  split at h
  · rename_i hs
    exact sum_like a0_0 a0_1 a0_2 a1_0 a1_1 a1_2 r1 r2 r3 r4 w _ _ _ _ rfl rfl rfl _ (beq_iff_eq.2 hs) (add_eq _ _) h hT
  · rename_i hs
    split at h
    · rename_i hc
      exact sum_less a0_0 a0_1 a0_2 a1_0 a1_1 a1_2 r1 r2 r3 r4 w _ _ _ _ rfl rfl rfl _ _ _ (beq_eq_false_iff_ne.2 hs) rfl (decide_eq_true hc) rfl h hT
    · rename_i hc
      exact sum_more a0_0 a0_1 a0_2 a1_0 a1_1 a1_2 r1 r2 r3 r4 w _ _ _ _ rfl rfl rfl _ _ _ (beq_eq_false_iff_ne.2 hs) rfl (decide_eq_false hc) rfl h hT
end Go.Proofs.YtfaibifilpfikaaGreatDoor.N13

namespace Go.Proofs.YtfaibifilpfikaaGreatDoor.P1
open Go.Proofs.YtfaibifilpfikaaGreatDoorW.PrintWords Go.Proofs.YtfaibifilpfikaaGreatDoor.A Go.Proofs.YtfaibifilpfikaaGreatDoor.B Go.Proofs.YtfaibifilpfikaaGreatDoor.N10 Go.Proofs.YtfaibifilpfikaaGreatDoor.N11 Go.Proofs.YtfaibifilpfikaaGreatDoor.X1 Go.Proofs.YtfaibifilpfikaaGreatDoor.X2 Go.Proofs.YtfaibifilpfikaaGreatDoor.C Go.Proofs.YtfaibifilpfikaaGreatDoor.N12 Go.Proofs.YtfaibifilpfikaaGreatDoor.N13
set_option linter.unusedVariables false
set_option linter.unusedSimpArgs false

def one1 : ByteArray := ⟨#[49]⟩
theorem nv_one1 : Rq.nv one1 = 1 := rfl
theorem isN_one1 : Rq.isN one1 = true := rfl
theorem list_one {b : ByteArray} (h : Rq.isN b = true) : b.toList = [49] ↔ Rq.nv b = 1 := by
  rw [ByteArray.toList_eq]
  constructor
  · intro e; unfold Rq.nv; rw [e]; rfl
  · intro e
    have : b = one1 := Rq.nv_inj h isN_one1 (e.trans nv_one1.symm)
    subst this; rfl
theorem list_zero {b : ByteArray} (h : Rq.isN b = true) : b.toList = [48] ↔ Rq.nv b = 0 := by
  rw [ByteArray.toList_eq]
  constructor
  · intro e; unfold Rq.nv; rw [e]; rfl
  · intro e
    have : b = zero1 := Rq.nv_inj h isN_zero1 (e.trans nv_zero1.symm)
    subst this; rfl
theorem beq_one {b : ByteArray} (h : Rq.isN b = true) : (b.toList == [49]) = decide (Rq.nv b = 1) := by
  by_cases e : Rq.nv b = 1
  · rw [decide_eq_true e, beq_iff_eq]; exact (list_one h).2 e
  · rw [decide_eq_false e, beq_eq_false_iff_ne]; exact fun k => e ((list_one h).1 k)
theorem beq_zero {b : ByteArray} (h : Rq.isN b = true) : (b.toList == [48]) = decide (Rq.nv b = 0) := by
  by_cases e : Rq.nv b = 0
  · rw [decide_eq_true e, beq_iff_eq]; exact (list_zero h).2 e
  · rw [decide_eq_false e, beq_eq_false_iff_ne]; exact fun k => e ((list_zero h).1 k)
theorem gcd_lt {a b : ByteArray} (ha : Rq.isN a = true) (hb : Rq.isN b = true) : Nat.gcd (Rq.nv a) (Rq.nv b) < 10 ^ 300 := by
  by_cases h0 : Rq.nv b = 0
  · rw [h0, Nat.gcd_zero_right]; exact lt300 ha
  · exact Nat.lt_of_le_of_lt (Nat.gcd_le_right _ (Nat.pos_of_ne_zero h0)) (lt300 hb)
theorem gcd_f {a b : ByteArray} (ha : Rq.isN a = true) (hb : Rq.isN b = true) : natural_Gcd.f a b = some (Rq.dec (Nat.gcd (Rq.nv a) (Rq.nv b)), 0) := by
  unfold natural_Gcd.f resS resE
  have h : ok2 a b = true := ok2_iff.2 ⟨ha, hb⟩
  rw [if_pos h, if_pos h, txS_small (gcd_lt ha hb), txE_small (gcd_lt ha hb)]
theorem isN_dec {n : Nat} (h : n < 10 ^ 300) : Rq.isN (Rq.dec n) = true := Rq.isN_dec h
theorem div_f {a b : ByteArray} (ha : Rq.isN a = true) (hb : Rq.isN b = true) (h0 : Rq.nv b ≠ 0) : natural_Div.f a b = some (Rq.dec (Rq.nv a / Rq.nv b), Rq.dec (Rq.nv a % Rq.nv b), 0) := by
  unfold natural_Div.f divQ divR divE
  have h : ok2 a b = true := ok2_iff.2 ⟨ha, hb⟩
  rw [if_pos h, if_pos h, if_pos h, if_neg h0, if_neg h0, if_neg h0]
theorem valid_f (k : Nat) (s : Bool) (n d : ByteArray) : ratio_Valid.f (k + 1) s n d = some (Rq.valid s n d) := by
  unfold ratio_Valid.f Rq.valid
  rw [is_eq, is_eq, Option.bind_some, Option.bind_some]
  by_cases hn : Rq.isN n = true
  · rw [if_pos hn, hn]
    by_cases hd : Rq.isN d = true
    · rw [if_pos hd, hd, beq_zero hd]
      by_cases h0 : Rq.nv d = 0
      · rw [decide_eq_true h0, decide_eq_false (fun h => h h0), ratio_Valid.j0, if_pos rfl]; rfl
      · rw [decide_eq_false h0, decide_eq_true h0, ratio_Valid.j0, if_neg (by decide)]
        by_cases hz : Rq.nv n = 0
        · rw [if_pos ((list_zero hn).2 hz), if_pos hz, beq_zero hn, beq_one hd, decide_eq_true hz]
          simp
        · rw [if_neg (fun h => hz ((list_zero hn).1 h)), if_neg hz, gcd_f hn hd, Option.bind_some, if_pos rfl, beq_one (isN_dec (gcd_lt hn hd)), Rq.nv_dec]
          simp
    · rw [if_neg hd, ratio_Valid.j0, if_pos rfl, Bool.eq_false_iff.2 hd]; rfl
  · rw [if_neg hn, ratio_Valid.j0, if_pos rfl, Bool.eq_false_iff.2 hn]; rfl
theorem lowest_f (s : Bool) {n d : ByteArray} (hn : Rq.isN n = true) (hd : Rq.isN d = true) (h0 : Rq.nv d ≠ 0) :
    ratio_lowest.f s n d = some (Rq.eS (mkRat (Rq.sg s (Rq.nv n)) (Rq.nv d)), Rq.eN (mkRat (Rq.sg s (Rq.nv n)) (Rq.nv d)), Rq.eD (mkRat (Rq.sg s (Rq.nv n)) (Rq.nv d)), 0) := by
  have hg : Nat.gcd (Rq.nv n) (Rq.nv d) ≠ 0 := fun h => h0 (Nat.eq_zero_of_gcd_eq_zero_right h)
  have hG : Rq.isN (Rq.dec (Nat.gcd (Rq.nv n) (Rq.nv d))) = true := isN_dec (gcd_lt hn hd)
  have hq : Rq.nv n / Nat.gcd (Rq.nv n) (Rq.nv d) < 10 ^ 300 := Nat.lt_of_le_of_lt (Nat.div_le_self _ _) (lt300 hn)
  unfold ratio_lowest.f
  rw [gcd_f hn hd, Option.bind_some, if_pos rfl, div_f hn hG (by rw [Rq.nv_dec]; exact hg), Option.bind_some, if_pos rfl, div_f hd hG (by rw [Rq.nv_dec]; exact hg), Option.bind_some, if_pos rfl, Rq.nv_dec,
    Rq.low_S s _ _ h0, Rq.low_N s _ _ h0, Rq.low_D s _ _ h0]
  have hne : ((Rq.dec (Rq.nv n / Nat.gcd (Rq.nv n) (Rq.nv d))).toList != [48]) = decide (Rq.nv n / Nat.gcd (Rq.nv n) (Rq.nv d) ≠ 0) := by
    show (!((Rq.dec (Rq.nv n / Nat.gcd (Rq.nv n) (Rq.nv d))).toList == [48])) = _
    rw [beq_zero (isN_dec hq), Rq.nv_dec]
    exact (decide_not ..).symm
  cases s with
  | true => rw [if_pos rfl, hne, Bool.true_and]
  | false => rw [if_neg (by decide), Bool.false_and]
end Go.Proofs.YtfaibifilpfikaaGreatDoor.P1

namespace Go.Proofs.YtfaibifilpfikaaGreatDoor.N14
open Go.RowKit Go.Shelf Go.Proofs.YtfaibifilpfikaaGreatDoorW.PrintWords Go.Proofs.YtfaibifilpfikaaGreatDoorW.PrintLast Go.Proofs.YtfaibifilpfikaaGreatDoorW.PrintMore Go.Proofs.YtfaibifilpfikaaGreatDoor.A Go.Proofs.YtfaibifilpfikaaGreatDoor.N1 Go.Proofs.YtfaibifilpfikaaGreatDoor.N11 Go.Proofs.YtfaibifilpfikaaGreatDoor.X2 Go.Proofs.YtfaibifilpfikaaGreatDoor.C Go.Proofs.YtfaibifilpfikaaGreatDoor.N12 Go.Proofs.YtfaibifilpfikaaGreatDoor.N13 Go.Proofs.YtfaibifilpfikaaGreatDoor.P1
set_option linter.unusedVariables false
set_option linter.unusedSimpArgs false

/-- What an operation on two rational numbers answers. -/
abbrev R4 := Bool × ByteArray × ByteArray × Int
/-- The function value fn answers as f does at these two numbers. -/
def Ans (fn : FuncId) (a b : S23) (o : Option R4) : Prop := ∀ (r1 : Bool) (r2 r3 : ByteArray) (r4 : Int) (w : World), o = some (r1, r2, r3, r4) → Tabs w →
  Calls Tryz.prog fn #[.agg #[.bool a.f0, .string a.f1, .string a.f2], .agg #[.bool b.f0, .string b.f1, .string b.f2]] w fun e w' => e = .returned (.tuple #[.agg #[.bool r1, .string r2, .string r3], .int .i64 r4]) ∧ Below w.heap.size w w'
def vld (a : S23) : Bool := Rq.valid a.f0 a.f1 a.f2
def runF (z : Bool) (a b : S23) (o : Option R4) : Option R4 :=
  if vld a = true then (if vld b = true then (if (z && (b.f1.toList == [48])) = true then some (false, ⟨#[]⟩, ⟨#[]⟩, 15)
    else if a.f1.size ≤ 140 then (if a.f2.size ≤ 140 then (if b.f1.size ≤ 140 then (if b.f2.size ≤ 140 then o else some (false, ⟨#[]⟩, ⟨#[]⟩, 2)) else some (false, ⟨#[]⟩, ⟨#[]⟩, 2)) else some (false, ⟨#[]⟩, ⟨#[]⟩, 2)) else some (false, ⟨#[]⟩, ⟨#[]⟩, 2))
    else some (false, ⟨#[]⟩, ⟨#[]⟩, 1)) else some (false, ⟨#[]⟩, ⟨#[]⟩, 1)
theorem valid_calls (a : S23) (w : World) (hT : Tabs w) : Calls Tryz.prog 21 #[.agg #[.bool a.f0, .string a.f1, .string a.f2]] w fun e w' => e = .returned (.bool (vld a)) ∧ Below w.heap.size w w' := ratio_Valid.calls 1 _ _ _ _ w (valid_f 0 _ _ _) hT
set_option maxRecDepth 100000 in
set_option maxHeartbeats 2000000 in
theorem run_a (fn : FuncId) (z : Bool) (a b : S23) (w : World) (hT : Tabs w) (hva : vld a = false) :
    Calls Tryz.prog 72 #[.agg #[.bool z, .func (.func fn) #[] #[]], .agg #[.bool a.f0, .string a.f1, .string a.f2], .agg #[.bool b.f0, .string b.f1, .string b.f2]] w fun e w' => e = .returned (.tuple #[.agg #[.bool false, .string ⟨#[]⟩, .string ⟨#[]⟩], .int .i64 1]) ∧ Below w.heap.size w w' := by
  have hu23 := Tryz.underlying23
  have hu80 := Tryz.underlying80
  have HT := Aside0.mk hT
  have HVa := Aside0.mk hva
  clear hva
  obtain ⟨W0, hW0⟩ : ∃ W0, (((w.alloc (.cells #[.bool z, .func (.func fn) #[] #[]] 80)).alloc (.cells #[.bool a.f0, .string a.f1, .string a.f2] 23)).alloc (.cells #[.bool b.f0, .string b.f1, .string b.f2] 23)).alloc (.cells #[.bool false, .string ⟨#[]⟩, .string ⟨#[]⟩] 23) = W0 := ⟨_, rfl⟩
  have k0 : W0.heap[w.heap.size]? = some (.cells #[.bool z, .func (.func fn) #[] #[]] 80 (0, 0)) := by rw [← hW0]; exact blk_alloc (blk_alloc (blk_alloc (blk_new _ _) _) _) _
  have k1 : W0.heap[w.heap.size + 1]? = some (.cells #[.bool a.f0, .string a.f1, .string a.f2] 23 (0, 0)) := by rw [← hW0]; exact blk_alloc (blk_alloc (by have := blk_new (w.alloc (.cells #[.bool z, .func (.func fn) #[] #[]] 80)) (.cells #[.bool a.f0, .string a.f1, .string a.f2] 23); simpa using this) _) _
  have k2 : W0.heap[w.heap.size + 1 + 1]? = some (.cells #[.bool b.f0, .string b.f1, .string b.f2] 23 (0, 0)) := by rw [← hW0]; exact blk_alloc (by have := blk_new ((w.alloc (.cells #[.bool z, .func (.func fn) #[] #[]] 80)).alloc (.cells #[.bool a.f0, .string a.f1, .string a.f2] 23)) (.cells #[.bool b.f0, .string b.f1, .string b.f2] 23); simpa using this) _
  have k3 : W0.heap[w.heap.size + 1 + 1 + 1]? = some (.cells #[.bool false, .string ⟨#[]⟩, .string ⟨#[]⟩] 23 (0, 0)) := by rw [← hW0]; have := blk_new (((w.alloc (.cells #[.bool z, .func (.func fn) #[] #[]] 80)).alloc (.cells #[.bool a.f0, .string a.f1, .string a.f2] 23)).alloc (.cells #[.bool b.f0, .string b.f1, .string b.f2] 23)) (.cells #[.bool false, .string ⟨#[]⟩, .string ⟨#[]⟩] 23); simpa using this
  have hbel : Below w.heap.size w W0 := by rw [← hW0]; exact below_alloc (below_alloc (below_alloc (below_alloc (Below.refl _ _) _) _) _) _
  have HB0 := Aside0.mk hbel
  have HP := Aside0.mk (valid_calls a W0 (HT.out.below hbel))
  have K0 := Aside0.mk k0
  have K1 := Aside0.mk k1
  have K2 := Aside0.mk k2
  have K3 := Aside0.mk k3
  have HW := Aside0.mk hW0
  clear k0 k1 k2 k3 hbel hW0 hT
  go_enter Tryz.func72, Tryz.ntmps72
  go_wp2_with (first
    | (go_at_call 21; rw [HW.out]; refine HP.out.mono ?_; rintro e w1 ⟨rfl, hb⟩; rw [HVa.out]; have HB1 := Aside0.mk (below_step HB0.out hb); have J0 := Aside0.mk (blk_below K0.out hb); have J1 := Aside0.mk (blk_below K1.out hb); have J2 := Aside0.mk (blk_below K2.out hb); have J3 := Aside0.mk (blk_below K3.out hb); clear hb; clear HP; have cw100 : w1.cell? ⟨w.heap.size, 0, none⟩ = some (.bool z) := (blk_cell J0.out 0).trans rfl; have cw101 : w1.cell? ⟨w.heap.size, 1, none⟩ = some (.func (.func fn) #[] #[]) := (blk_cell J0.out 1).trans rfl; have cw110 : w1.cell? ⟨w.heap.size + 1, 0, none⟩ = some (.bool a.f0) := (blk_cell J1.out 0).trans rfl; have cw111 : w1.cell? ⟨w.heap.size + 1, 1, none⟩ = some (.string a.f1) := (blk_cell J1.out 1).trans rfl; have cw112 : w1.cell? ⟨w.heap.size + 1, 2, none⟩ = some (.string a.f2) := (blk_cell J1.out 2).trans rfl; have cw120 : w1.cell? ⟨w.heap.size + 1 + 1, 0, none⟩ = some (.bool b.f0) := (blk_cell J2.out 0).trans rfl; have cw121 : w1.cell? ⟨w.heap.size + 1 + 1, 1, none⟩ = some (.string b.f1) := (blk_cell J2.out 1).trans rfl; have cw122 : w1.cell? ⟨w.heap.size + 1 + 1, 2, none⟩ = some (.string b.f2) := (blk_cell J2.out 2).trans rfl; have cw130 : w1.cell? ⟨w.heap.size + 1 + 1 + 1, 0, none⟩ = some (.bool false) := (blk_cell J3.out 0).trans rfl; have cw131 : w1.cell? ⟨w.heap.size + 1 + 1 + 1, 1, none⟩ = some (.string ⟨#[]⟩) := (blk_cell J3.out 1).trans rfl; have cw132 : w1.cell? ⟨w.heap.size + 1 + 1 + 1, 2, none⟩ = some (.string ⟨#[]⟩) := (blk_cell J3.out 2).trans rfl; have fw10 := blk_frozen J3.out 0; have fw11 := blk_frozen J3.out 1; have fw12 := blk_frozen J3.out 2))
  have Q1 := Aside0.mk (blk_put (cs := #[.bool false, .string ⟨#[]⟩, .string ⟨#[]⟩]) (blk_put J3.out 0 (.bool false) rfl) 1 (.string ⟨#[]⟩) rfl)
  have Q2 := Aside0.mk (blk_put (cs := #[.bool false, .string ⟨#[]⟩, .string ⟨#[]⟩]) Q1.out 2 (.string ⟨#[]⟩) rfl)
  have Q5 := Aside0.mk (((HB1.out.setCell (p := ⟨w.heap.size + 1 + 1 + 1, 0, none⟩) (by show w.heap.size ≤ w.heap.size + 1 + 1 + 1; omega) (.bool false)).setCell (p := ⟨w.heap.size + 1 + 1 + 1, 1, none⟩) (by show w.heap.size ≤ w.heap.size + 1 + 1 + 1; omega) (.string ⟨#[]⟩)).setCell (p := ⟨w.heap.size + 1 + 1 + 1, 2, none⟩) (by show w.heap.size ≤ w.heap.size + 1 + 1 + 1; omega) (.string ⟨#[]⟩))
  refine bodyPost_ret (results_ct rfl _ _ (w.heap.size + 1 + 1 + 1) 23 #[.bool false, .string ⟨#[]⟩, .string ⟨#[]⟩] (0, 0) _ rfl Q2.out Tryz.underlying23 rfl (by kernel_rfl)) rfl ?_
  exact ⟨rfl, Q5.out⟩
set_option maxRecDepth 100000 in
set_option maxHeartbeats 2000000 in
theorem run_b (fn : FuncId) (z : Bool) (a b : S23) (w : World) (hT : Tabs w) (hva : vld a = true) (hvb : vld b = false) :
    Calls Tryz.prog 72 #[.agg #[.bool z, .func (.func fn) #[] #[]], .agg #[.bool a.f0, .string a.f1, .string a.f2], .agg #[.bool b.f0, .string b.f1, .string b.f2]] w fun e w' => e = .returned (.tuple #[.agg #[.bool false, .string ⟨#[]⟩, .string ⟨#[]⟩], .int .i64 1]) ∧ Below w.heap.size w w' := by
  have hu23 := Tryz.underlying23
  have hu80 := Tryz.underlying80
  have HT := Aside0.mk hT
  have HVa := Aside0.mk hva
  clear hva
  have HVb := Aside0.mk hvb
  clear hvb
  obtain ⟨W0, hW0⟩ : ∃ W0, (((w.alloc (.cells #[.bool z, .func (.func fn) #[] #[]] 80)).alloc (.cells #[.bool a.f0, .string a.f1, .string a.f2] 23)).alloc (.cells #[.bool b.f0, .string b.f1, .string b.f2] 23)).alloc (.cells #[.bool false, .string ⟨#[]⟩, .string ⟨#[]⟩] 23) = W0 := ⟨_, rfl⟩
  have k0 : W0.heap[w.heap.size]? = some (.cells #[.bool z, .func (.func fn) #[] #[]] 80 (0, 0)) := by rw [← hW0]; exact blk_alloc (blk_alloc (blk_alloc (blk_new _ _) _) _) _
  have k1 : W0.heap[w.heap.size + 1]? = some (.cells #[.bool a.f0, .string a.f1, .string a.f2] 23 (0, 0)) := by rw [← hW0]; exact blk_alloc (blk_alloc (by have := blk_new (w.alloc (.cells #[.bool z, .func (.func fn) #[] #[]] 80)) (.cells #[.bool a.f0, .string a.f1, .string a.f2] 23); simpa using this) _) _
  have k2 : W0.heap[w.heap.size + 1 + 1]? = some (.cells #[.bool b.f0, .string b.f1, .string b.f2] 23 (0, 0)) := by rw [← hW0]; exact blk_alloc (by have := blk_new ((w.alloc (.cells #[.bool z, .func (.func fn) #[] #[]] 80)).alloc (.cells #[.bool a.f0, .string a.f1, .string a.f2] 23)) (.cells #[.bool b.f0, .string b.f1, .string b.f2] 23); simpa using this) _
  have k3 : W0.heap[w.heap.size + 1 + 1 + 1]? = some (.cells #[.bool false, .string ⟨#[]⟩, .string ⟨#[]⟩] 23 (0, 0)) := by rw [← hW0]; have := blk_new (((w.alloc (.cells #[.bool z, .func (.func fn) #[] #[]] 80)).alloc (.cells #[.bool a.f0, .string a.f1, .string a.f2] 23)).alloc (.cells #[.bool b.f0, .string b.f1, .string b.f2] 23)) (.cells #[.bool false, .string ⟨#[]⟩, .string ⟨#[]⟩] 23); simpa using this
  have hbel : Below w.heap.size w W0 := by rw [← hW0]; exact below_alloc (below_alloc (below_alloc (below_alloc (Below.refl _ _) _) _) _) _
  have HB0 := Aside0.mk hbel
  have HP := Aside0.mk (valid_calls a W0 (HT.out.below hbel))
  have K0 := Aside0.mk k0
  have K1 := Aside0.mk k1
  have K2 := Aside0.mk k2
  have K3 := Aside0.mk k3
  have HW := Aside0.mk hW0
  clear k0 k1 k2 k3 hbel hW0 hT
  go_enter Tryz.func72, Tryz.ntmps72
  go_wp2_with (first
    | (have _ := HB1.out; go_at_call 21; refine (valid_calls b _ (HT.out.below HB1.out)).mono ?_; rintro e w2 ⟨rfl, hb⟩; rw [HVb.out]; have HB2 := Aside0.mk (below_step HB1.out hb); have L0 := Aside0.mk (blk_below J0.out hb); have L1 := Aside0.mk (blk_below J1.out hb); have L2 := Aside0.mk (blk_below J2.out hb); have L3 := Aside0.mk (blk_below J3.out hb); clear hb; have cw200 : w2.cell? ⟨w.heap.size, 0, none⟩ = some (.bool z) := (blk_cell L0.out 0).trans rfl; have cw201 : w2.cell? ⟨w.heap.size, 1, none⟩ = some (.func (.func fn) #[] #[]) := (blk_cell L0.out 1).trans rfl; have cw210 : w2.cell? ⟨w.heap.size + 1, 0, none⟩ = some (.bool a.f0) := (blk_cell L1.out 0).trans rfl; have cw211 : w2.cell? ⟨w.heap.size + 1, 1, none⟩ = some (.string a.f1) := (blk_cell L1.out 1).trans rfl; have cw212 : w2.cell? ⟨w.heap.size + 1, 2, none⟩ = some (.string a.f2) := (blk_cell L1.out 2).trans rfl; have cw220 : w2.cell? ⟨w.heap.size + 1 + 1, 0, none⟩ = some (.bool b.f0) := (blk_cell L2.out 0).trans rfl; have cw221 : w2.cell? ⟨w.heap.size + 1 + 1, 1, none⟩ = some (.string b.f1) := (blk_cell L2.out 1).trans rfl; have cw222 : w2.cell? ⟨w.heap.size + 1 + 1, 2, none⟩ = some (.string b.f2) := (blk_cell L2.out 2).trans rfl; have cw230 : w2.cell? ⟨w.heap.size + 1 + 1 + 1, 0, none⟩ = some (.bool false) := (blk_cell L3.out 0).trans rfl; have cw231 : w2.cell? ⟨w.heap.size + 1 + 1 + 1, 1, none⟩ = some (.string ⟨#[]⟩) := (blk_cell L3.out 1).trans rfl; have cw232 : w2.cell? ⟨w.heap.size + 1 + 1 + 1, 2, none⟩ = some (.string ⟨#[]⟩) := (blk_cell L3.out 2).trans rfl; have fw20 := blk_frozen L3.out 0; have fw21 := blk_frozen L3.out 1; have fw22 := blk_frozen L3.out 2)
    | (go_at_call 21; rw [HW.out]; refine HP.out.mono ?_; rintro e w1 ⟨rfl, hb⟩; rw [HVa.out]; have HB1 := Aside0.mk (below_step HB0.out hb); have J0 := Aside0.mk (blk_below K0.out hb); have J1 := Aside0.mk (blk_below K1.out hb); have J2 := Aside0.mk (blk_below K2.out hb); have J3 := Aside0.mk (blk_below K3.out hb); clear hb; clear HP; have cw100 : w1.cell? ⟨w.heap.size, 0, none⟩ = some (.bool z) := (blk_cell J0.out 0).trans rfl; have cw101 : w1.cell? ⟨w.heap.size, 1, none⟩ = some (.func (.func fn) #[] #[]) := (blk_cell J0.out 1).trans rfl; have cw110 : w1.cell? ⟨w.heap.size + 1, 0, none⟩ = some (.bool a.f0) := (blk_cell J1.out 0).trans rfl; have cw111 : w1.cell? ⟨w.heap.size + 1, 1, none⟩ = some (.string a.f1) := (blk_cell J1.out 1).trans rfl; have cw112 : w1.cell? ⟨w.heap.size + 1, 2, none⟩ = some (.string a.f2) := (blk_cell J1.out 2).trans rfl; have cw120 : w1.cell? ⟨w.heap.size + 1 + 1, 0, none⟩ = some (.bool b.f0) := (blk_cell J2.out 0).trans rfl; have cw121 : w1.cell? ⟨w.heap.size + 1 + 1, 1, none⟩ = some (.string b.f1) := (blk_cell J2.out 1).trans rfl; have cw122 : w1.cell? ⟨w.heap.size + 1 + 1, 2, none⟩ = some (.string b.f2) := (blk_cell J2.out 2).trans rfl; have cw130 : w1.cell? ⟨w.heap.size + 1 + 1 + 1, 0, none⟩ = some (.bool false) := (blk_cell J3.out 0).trans rfl; have cw131 : w1.cell? ⟨w.heap.size + 1 + 1 + 1, 1, none⟩ = some (.string ⟨#[]⟩) := (blk_cell J3.out 1).trans rfl; have cw132 : w1.cell? ⟨w.heap.size + 1 + 1 + 1, 2, none⟩ = some (.string ⟨#[]⟩) := (blk_cell J3.out 2).trans rfl; have fw10 := blk_frozen J3.out 0; have fw11 := blk_frozen J3.out 1; have fw12 := blk_frozen J3.out 2))
  have Q1 := Aside0.mk (blk_put (cs := #[.bool false, .string ⟨#[]⟩, .string ⟨#[]⟩]) (blk_put L3.out 0 (.bool false) rfl) 1 (.string ⟨#[]⟩) rfl)
  have Q2 := Aside0.mk (blk_put (cs := #[.bool false, .string ⟨#[]⟩, .string ⟨#[]⟩]) Q1.out 2 (.string ⟨#[]⟩) rfl)
  have Q5 := Aside0.mk (((HB2.out.setCell (p := ⟨w.heap.size + 1 + 1 + 1, 0, none⟩) (by show w.heap.size ≤ w.heap.size + 1 + 1 + 1; omega) (.bool false)).setCell (p := ⟨w.heap.size + 1 + 1 + 1, 1, none⟩) (by show w.heap.size ≤ w.heap.size + 1 + 1 + 1; omega) (.string ⟨#[]⟩)).setCell (p := ⟨w.heap.size + 1 + 1 + 1, 2, none⟩) (by show w.heap.size ≤ w.heap.size + 1 + 1 + 1; omega) (.string ⟨#[]⟩))
  refine bodyPost_ret (results_ct rfl _ _ (w.heap.size + 1 + 1 + 1) 23 #[.bool false, .string ⟨#[]⟩, .string ⟨#[]⟩] (0, 0) _ rfl Q2.out Tryz.underlying23 rfl (by kernel_rfl)) rfl ?_
  exact ⟨rfl, Q5.out⟩
set_option maxRecDepth 100000 in
set_option maxHeartbeats 2000000 in
theorem run_z (fn : FuncId) (z : Bool) (a b : S23) (w : World) (hT : Tabs w) (hva : vld a = true) (hvb : vld b = true) (hz : z = true) (h0 : (b.f1.toList == [48]) = true) :
    Calls Tryz.prog 72 #[.agg #[.bool z, .func (.func fn) #[] #[]], .agg #[.bool a.f0, .string a.f1, .string a.f2], .agg #[.bool b.f0, .string b.f1, .string b.f2]] w fun e w' => e = .returned (.tuple #[.agg #[.bool false, .string ⟨#[]⟩, .string ⟨#[]⟩], .int .i64 15]) ∧ Below w.heap.size w w' := by
  subst hz
  have hu23 := Tryz.underlying23
  have hu80 := Tryz.underlying80
  have HT := Aside0.mk hT
  have HVa := Aside0.mk hva
  clear hva
  have HVb := Aside0.mk hvb
  clear hvb
  obtain ⟨W0, hW0⟩ : ∃ W0, (((w.alloc (.cells #[.bool true, .func (.func fn) #[] #[]] 80)).alloc (.cells #[.bool a.f0, .string a.f1, .string a.f2] 23)).alloc (.cells #[.bool b.f0, .string b.f1, .string b.f2] 23)).alloc (.cells #[.bool false, .string ⟨#[]⟩, .string ⟨#[]⟩] 23) = W0 := ⟨_, rfl⟩
  have k0 : W0.heap[w.heap.size]? = some (.cells #[.bool true, .func (.func fn) #[] #[]] 80 (0, 0)) := by rw [← hW0]; exact blk_alloc (blk_alloc (blk_alloc (blk_new _ _) _) _) _
  have k1 : W0.heap[w.heap.size + 1]? = some (.cells #[.bool a.f0, .string a.f1, .string a.f2] 23 (0, 0)) := by rw [← hW0]; exact blk_alloc (blk_alloc (by have := blk_new (w.alloc (.cells #[.bool true, .func (.func fn) #[] #[]] 80)) (.cells #[.bool a.f0, .string a.f1, .string a.f2] 23); simpa using this) _) _
  have k2 : W0.heap[w.heap.size + 1 + 1]? = some (.cells #[.bool b.f0, .string b.f1, .string b.f2] 23 (0, 0)) := by rw [← hW0]; exact blk_alloc (by have := blk_new ((w.alloc (.cells #[.bool true, .func (.func fn) #[] #[]] 80)).alloc (.cells #[.bool a.f0, .string a.f1, .string a.f2] 23)) (.cells #[.bool b.f0, .string b.f1, .string b.f2] 23); simpa using this) _
  have k3 : W0.heap[w.heap.size + 1 + 1 + 1]? = some (.cells #[.bool false, .string ⟨#[]⟩, .string ⟨#[]⟩] 23 (0, 0)) := by rw [← hW0]; have := blk_new (((w.alloc (.cells #[.bool true, .func (.func fn) #[] #[]] 80)).alloc (.cells #[.bool a.f0, .string a.f1, .string a.f2] 23)).alloc (.cells #[.bool b.f0, .string b.f1, .string b.f2] 23)) (.cells #[.bool false, .string ⟨#[]⟩, .string ⟨#[]⟩] 23); simpa using this
  have hbel : Below w.heap.size w W0 := by rw [← hW0]; exact below_alloc (below_alloc (below_alloc (below_alloc (Below.refl _ _) _) _) _) _
  have HB0 := Aside0.mk hbel
  have HP := Aside0.mk (valid_calls a W0 (HT.out.below hbel))
  have K0 := Aside0.mk k0
  have K1 := Aside0.mk k1
  have K2 := Aside0.mk k2
  have K3 := Aside0.mk k3
  have HW := Aside0.mk hW0
  clear k0 k1 k2 k3 hbel hW0 hT
  go_enter Tryz.func72, Tryz.ntmps72
  go_wp2_with (first
    | (have _ := HB1.out; go_at_call 21; refine (valid_calls b _ (HT.out.below HB1.out)).mono ?_; rintro e w2 ⟨rfl, hb⟩; rw [HVb.out]; have HB2 := Aside0.mk (below_step HB1.out hb); have L0 := Aside0.mk (blk_below J0.out hb); have L1 := Aside0.mk (blk_below J1.out hb); have L2 := Aside0.mk (blk_below J2.out hb); have L3 := Aside0.mk (blk_below J3.out hb); clear hb; have cw200 : w2.cell? ⟨w.heap.size, 0, none⟩ = some (.bool true) := (blk_cell L0.out 0).trans rfl; have cw201 : w2.cell? ⟨w.heap.size, 1, none⟩ = some (.func (.func fn) #[] #[]) := (blk_cell L0.out 1).trans rfl; have cw210 : w2.cell? ⟨w.heap.size + 1, 0, none⟩ = some (.bool a.f0) := (blk_cell L1.out 0).trans rfl; have cw211 : w2.cell? ⟨w.heap.size + 1, 1, none⟩ = some (.string a.f1) := (blk_cell L1.out 1).trans rfl; have cw212 : w2.cell? ⟨w.heap.size + 1, 2, none⟩ = some (.string a.f2) := (blk_cell L1.out 2).trans rfl; have cw220 : w2.cell? ⟨w.heap.size + 1 + 1, 0, none⟩ = some (.bool b.f0) := (blk_cell L2.out 0).trans rfl; have cw221 : w2.cell? ⟨w.heap.size + 1 + 1, 1, none⟩ = some (.string b.f1) := (blk_cell L2.out 1).trans rfl; have cw222 : w2.cell? ⟨w.heap.size + 1 + 1, 2, none⟩ = some (.string b.f2) := (blk_cell L2.out 2).trans rfl; have cw230 : w2.cell? ⟨w.heap.size + 1 + 1 + 1, 0, none⟩ = some (.bool false) := (blk_cell L3.out 0).trans rfl; have cw231 : w2.cell? ⟨w.heap.size + 1 + 1 + 1, 1, none⟩ = some (.string ⟨#[]⟩) := (blk_cell L3.out 1).trans rfl; have cw232 : w2.cell? ⟨w.heap.size + 1 + 1 + 1, 2, none⟩ = some (.string ⟨#[]⟩) := (blk_cell L3.out 2).trans rfl; have fw20 := blk_frozen L3.out 0; have fw21 := blk_frozen L3.out 1; have fw22 := blk_frozen L3.out 2)
    | (go_at_call 21; rw [HW.out]; refine HP.out.mono ?_; rintro e w1 ⟨rfl, hb⟩; rw [HVa.out]; have HB1 := Aside0.mk (below_step HB0.out hb); have J0 := Aside0.mk (blk_below K0.out hb); have J1 := Aside0.mk (blk_below K1.out hb); have J2 := Aside0.mk (blk_below K2.out hb); have J3 := Aside0.mk (blk_below K3.out hb); clear hb; clear HP; have cw100 : w1.cell? ⟨w.heap.size, 0, none⟩ = some (.bool true) := (blk_cell J0.out 0).trans rfl; have cw101 : w1.cell? ⟨w.heap.size, 1, none⟩ = some (.func (.func fn) #[] #[]) := (blk_cell J0.out 1).trans rfl; have cw110 : w1.cell? ⟨w.heap.size + 1, 0, none⟩ = some (.bool a.f0) := (blk_cell J1.out 0).trans rfl; have cw111 : w1.cell? ⟨w.heap.size + 1, 1, none⟩ = some (.string a.f1) := (blk_cell J1.out 1).trans rfl; have cw112 : w1.cell? ⟨w.heap.size + 1, 2, none⟩ = some (.string a.f2) := (blk_cell J1.out 2).trans rfl; have cw120 : w1.cell? ⟨w.heap.size + 1 + 1, 0, none⟩ = some (.bool b.f0) := (blk_cell J2.out 0).trans rfl; have cw121 : w1.cell? ⟨w.heap.size + 1 + 1, 1, none⟩ = some (.string b.f1) := (blk_cell J2.out 1).trans rfl; have cw122 : w1.cell? ⟨w.heap.size + 1 + 1, 2, none⟩ = some (.string b.f2) := (blk_cell J2.out 2).trans rfl; have cw130 : w1.cell? ⟨w.heap.size + 1 + 1 + 1, 0, none⟩ = some (.bool false) := (blk_cell J3.out 0).trans rfl; have cw131 : w1.cell? ⟨w.heap.size + 1 + 1 + 1, 1, none⟩ = some (.string ⟨#[]⟩) := (blk_cell J3.out 1).trans rfl; have cw132 : w1.cell? ⟨w.heap.size + 1 + 1 + 1, 2, none⟩ = some (.string ⟨#[]⟩) := (blk_cell J3.out 2).trans rfl; have fw10 := blk_frozen J3.out 0; have fw11 := blk_frozen J3.out 1; have fw12 := blk_frozen J3.out 2))
  have Q1 := Aside0.mk (blk_put (cs := #[.bool false, .string ⟨#[]⟩, .string ⟨#[]⟩]) (blk_put L3.out 0 (.bool false) rfl) 1 (.string ⟨#[]⟩) rfl)
  have Q2 := Aside0.mk (blk_put (cs := #[.bool false, .string ⟨#[]⟩, .string ⟨#[]⟩]) Q1.out 2 (.string ⟨#[]⟩) rfl)
  have Q5 := Aside0.mk (((HB2.out.setCell (p := ⟨w.heap.size + 1 + 1 + 1, 0, none⟩) (by show w.heap.size ≤ w.heap.size + 1 + 1 + 1; omega) (.bool false)).setCell (p := ⟨w.heap.size + 1 + 1 + 1, 1, none⟩) (by show w.heap.size ≤ w.heap.size + 1 + 1 + 1; omega) (.string ⟨#[]⟩)).setCell (p := ⟨w.heap.size + 1 + 1 + 1, 2, none⟩) (by show w.heap.size ≤ w.heap.size + 1 + 1 + 1; omega) (.string ⟨#[]⟩))
  refine bodyPost_ret (results_ct rfl _ _ (w.heap.size + 1 + 1 + 1) 23 #[.bool false, .string ⟨#[]⟩, .string ⟨#[]⟩] (0, 0) _ rfl Q2.out Tryz.underlying23 rfl (by kernel_rfl)) rfl ?_
  exact ⟨rfl, Q5.out⟩
set_option maxRecDepth 100000 in
set_option maxHeartbeats 2000000 in
theorem run_f0 (fn : FuncId) (z : Bool) (a b : S23) (w : World) (hT : Tabs w) (hva : vld a = true) (hvb : vld b = true) (hz : z = false) (d0 : decide (140 < (a.f1.size : Int)) = true) :
    Calls Tryz.prog 72 #[.agg #[.bool z, .func (.func fn) #[] #[]], .agg #[.bool a.f0, .string a.f1, .string a.f2], .agg #[.bool b.f0, .string b.f1, .string b.f2]] w fun e w' => e = .returned (.tuple #[.agg #[.bool false, .string ⟨#[]⟩, .string ⟨#[]⟩], .int .i64 2]) ∧ Below w.heap.size w w' := by
  subst hz
  have hu23 := Tryz.underlying23
  have hu80 := Tryz.underlying80
  have HT := Aside0.mk hT
  have HVa := Aside0.mk hva
  clear hva
  have HVb := Aside0.mk hvb
  clear hvb
  obtain ⟨W0, hW0⟩ : ∃ W0, (((w.alloc (.cells #[.bool false, .func (.func fn) #[] #[]] 80)).alloc (.cells #[.bool a.f0, .string a.f1, .string a.f2] 23)).alloc (.cells #[.bool b.f0, .string b.f1, .string b.f2] 23)).alloc (.cells #[.bool false, .string ⟨#[]⟩, .string ⟨#[]⟩] 23) = W0 := ⟨_, rfl⟩
  have k0 : W0.heap[w.heap.size]? = some (.cells #[.bool false, .func (.func fn) #[] #[]] 80 (0, 0)) := by rw [← hW0]; exact blk_alloc (blk_alloc (blk_alloc (blk_new _ _) _) _) _
  have k1 : W0.heap[w.heap.size + 1]? = some (.cells #[.bool a.f0, .string a.f1, .string a.f2] 23 (0, 0)) := by rw [← hW0]; exact blk_alloc (blk_alloc (by have := blk_new (w.alloc (.cells #[.bool false, .func (.func fn) #[] #[]] 80)) (.cells #[.bool a.f0, .string a.f1, .string a.f2] 23); simpa using this) _) _
  have k2 : W0.heap[w.heap.size + 1 + 1]? = some (.cells #[.bool b.f0, .string b.f1, .string b.f2] 23 (0, 0)) := by rw [← hW0]; exact blk_alloc (by have := blk_new ((w.alloc (.cells #[.bool false, .func (.func fn) #[] #[]] 80)).alloc (.cells #[.bool a.f0, .string a.f1, .string a.f2] 23)) (.cells #[.bool b.f0, .string b.f1, .string b.f2] 23); simpa using this) _
  have k3 : W0.heap[w.heap.size + 1 + 1 + 1]? = some (.cells #[.bool false, .string ⟨#[]⟩, .string ⟨#[]⟩] 23 (0, 0)) := by rw [← hW0]; have := blk_new (((w.alloc (.cells #[.bool false, .func (.func fn) #[] #[]] 80)).alloc (.cells #[.bool a.f0, .string a.f1, .string a.f2] 23)).alloc (.cells #[.bool b.f0, .string b.f1, .string b.f2] 23)) (.cells #[.bool false, .string ⟨#[]⟩, .string ⟨#[]⟩] 23); simpa using this
  have hbel : Below w.heap.size w W0 := by rw [← hW0]; exact below_alloc (below_alloc (below_alloc (below_alloc (Below.refl _ _) _) _) _) _
  have HB0 := Aside0.mk hbel
  have HP := Aside0.mk (valid_calls a W0 (HT.out.below hbel))
  have K0 := Aside0.mk k0
  have K1 := Aside0.mk k1
  have K2 := Aside0.mk k2
  have K3 := Aside0.mk k3
  have HW := Aside0.mk hW0
  clear k0 k1 k2 k3 hbel hW0 hT
  go_enter Tryz.func72, Tryz.ntmps72
  go_wp2_with (first
    | (have _ := HB1.out; go_at_call 21; refine (valid_calls b _ (HT.out.below HB1.out)).mono ?_; rintro e w2 ⟨rfl, hb⟩; rw [HVb.out]; have HB2 := Aside0.mk (below_step HB1.out hb); have L0 := Aside0.mk (blk_below J0.out hb); have L1 := Aside0.mk (blk_below J1.out hb); have L2 := Aside0.mk (blk_below J2.out hb); have L3 := Aside0.mk (blk_below J3.out hb); clear hb; have cw200 : w2.cell? ⟨w.heap.size, 0, none⟩ = some (.bool false) := (blk_cell L0.out 0).trans rfl; have cw201 : w2.cell? ⟨w.heap.size, 1, none⟩ = some (.func (.func fn) #[] #[]) := (blk_cell L0.out 1).trans rfl; have cw210 : w2.cell? ⟨w.heap.size + 1, 0, none⟩ = some (.bool a.f0) := (blk_cell L1.out 0).trans rfl; have cw211 : w2.cell? ⟨w.heap.size + 1, 1, none⟩ = some (.string a.f1) := (blk_cell L1.out 1).trans rfl; have cw212 : w2.cell? ⟨w.heap.size + 1, 2, none⟩ = some (.string a.f2) := (blk_cell L1.out 2).trans rfl; have cw220 : w2.cell? ⟨w.heap.size + 1 + 1, 0, none⟩ = some (.bool b.f0) := (blk_cell L2.out 0).trans rfl; have cw221 : w2.cell? ⟨w.heap.size + 1 + 1, 1, none⟩ = some (.string b.f1) := (blk_cell L2.out 1).trans rfl; have cw222 : w2.cell? ⟨w.heap.size + 1 + 1, 2, none⟩ = some (.string b.f2) := (blk_cell L2.out 2).trans rfl; have cw230 : w2.cell? ⟨w.heap.size + 1 + 1 + 1, 0, none⟩ = some (.bool false) := (blk_cell L3.out 0).trans rfl; have cw231 : w2.cell? ⟨w.heap.size + 1 + 1 + 1, 1, none⟩ = some (.string ⟨#[]⟩) := (blk_cell L3.out 1).trans rfl; have cw232 : w2.cell? ⟨w.heap.size + 1 + 1 + 1, 2, none⟩ = some (.string ⟨#[]⟩) := (blk_cell L3.out 2).trans rfl; have fw20 := blk_frozen L3.out 0; have fw21 := blk_frozen L3.out 1; have fw22 := blk_frozen L3.out 2)
    | (go_at_call 21; rw [HW.out]; refine HP.out.mono ?_; rintro e w1 ⟨rfl, hb⟩; rw [HVa.out]; have HB1 := Aside0.mk (below_step HB0.out hb); have J0 := Aside0.mk (blk_below K0.out hb); have J1 := Aside0.mk (blk_below K1.out hb); have J2 := Aside0.mk (blk_below K2.out hb); have J3 := Aside0.mk (blk_below K3.out hb); clear hb; clear HP; have cw100 : w1.cell? ⟨w.heap.size, 0, none⟩ = some (.bool false) := (blk_cell J0.out 0).trans rfl; have cw101 : w1.cell? ⟨w.heap.size, 1, none⟩ = some (.func (.func fn) #[] #[]) := (blk_cell J0.out 1).trans rfl; have cw110 : w1.cell? ⟨w.heap.size + 1, 0, none⟩ = some (.bool a.f0) := (blk_cell J1.out 0).trans rfl; have cw111 : w1.cell? ⟨w.heap.size + 1, 1, none⟩ = some (.string a.f1) := (blk_cell J1.out 1).trans rfl; have cw112 : w1.cell? ⟨w.heap.size + 1, 2, none⟩ = some (.string a.f2) := (blk_cell J1.out 2).trans rfl; have cw120 : w1.cell? ⟨w.heap.size + 1 + 1, 0, none⟩ = some (.bool b.f0) := (blk_cell J2.out 0).trans rfl; have cw121 : w1.cell? ⟨w.heap.size + 1 + 1, 1, none⟩ = some (.string b.f1) := (blk_cell J2.out 1).trans rfl; have cw122 : w1.cell? ⟨w.heap.size + 1 + 1, 2, none⟩ = some (.string b.f2) := (blk_cell J2.out 2).trans rfl; have cw130 : w1.cell? ⟨w.heap.size + 1 + 1 + 1, 0, none⟩ = some (.bool false) := (blk_cell J3.out 0).trans rfl; have cw131 : w1.cell? ⟨w.heap.size + 1 + 1 + 1, 1, none⟩ = some (.string ⟨#[]⟩) := (blk_cell J3.out 1).trans rfl; have cw132 : w1.cell? ⟨w.heap.size + 1 + 1 + 1, 2, none⟩ = some (.string ⟨#[]⟩) := (blk_cell J3.out 2).trans rfl; have fw10 := blk_frozen J3.out 0; have fw11 := blk_frozen J3.out 1; have fw12 := blk_frozen J3.out 2))
  have Q1 := Aside0.mk (blk_put (cs := #[.bool false, .string ⟨#[]⟩, .string ⟨#[]⟩]) (blk_put L3.out 0 (.bool false) rfl) 1 (.string ⟨#[]⟩) rfl)
  have Q2 := Aside0.mk (blk_put (cs := #[.bool false, .string ⟨#[]⟩, .string ⟨#[]⟩]) Q1.out 2 (.string ⟨#[]⟩) rfl)
  have Q5 := Aside0.mk (((HB2.out.setCell (p := ⟨w.heap.size + 1 + 1 + 1, 0, none⟩) (by show w.heap.size ≤ w.heap.size + 1 + 1 + 1; omega) (.bool false)).setCell (p := ⟨w.heap.size + 1 + 1 + 1, 1, none⟩) (by show w.heap.size ≤ w.heap.size + 1 + 1 + 1; omega) (.string ⟨#[]⟩)).setCell (p := ⟨w.heap.size + 1 + 1 + 1, 2, none⟩) (by show w.heap.size ≤ w.heap.size + 1 + 1 + 1; omega) (.string ⟨#[]⟩))
  refine bodyPost_ret (results_ct rfl _ _ (w.heap.size + 1 + 1 + 1) 23 #[.bool false, .string ⟨#[]⟩, .string ⟨#[]⟩] (0, 0) _ rfl Q2.out Tryz.underlying23 rfl (by kernel_rfl)) rfl ?_
  exact ⟨rfl, Q5.out⟩
set_option maxRecDepth 100000 in
set_option maxHeartbeats 2000000 in
theorem run_f1 (fn : FuncId) (z : Bool) (a b : S23) (w : World) (hT : Tabs w) (hva : vld a = true) (hvb : vld b = true) (hz : z = false) (d0 : decide (140 < (a.f1.size : Int)) = false) (d1 : decide (140 < (a.f2.size : Int)) = true) :
    Calls Tryz.prog 72 #[.agg #[.bool z, .func (.func fn) #[] #[]], .agg #[.bool a.f0, .string a.f1, .string a.f2], .agg #[.bool b.f0, .string b.f1, .string b.f2]] w fun e w' => e = .returned (.tuple #[.agg #[.bool false, .string ⟨#[]⟩, .string ⟨#[]⟩], .int .i64 2]) ∧ Below w.heap.size w w' := by
  subst hz
  have hu23 := Tryz.underlying23
  have hu80 := Tryz.underlying80
  have HT := Aside0.mk hT
  have HVa := Aside0.mk hva
  clear hva
  have HVb := Aside0.mk hvb
  clear hvb
  obtain ⟨W0, hW0⟩ : ∃ W0, (((w.alloc (.cells #[.bool false, .func (.func fn) #[] #[]] 80)).alloc (.cells #[.bool a.f0, .string a.f1, .string a.f2] 23)).alloc (.cells #[.bool b.f0, .string b.f1, .string b.f2] 23)).alloc (.cells #[.bool false, .string ⟨#[]⟩, .string ⟨#[]⟩] 23) = W0 := ⟨_, rfl⟩
  have k0 : W0.heap[w.heap.size]? = some (.cells #[.bool false, .func (.func fn) #[] #[]] 80 (0, 0)) := by rw [← hW0]; exact blk_alloc (blk_alloc (blk_alloc (blk_new _ _) _) _) _
  have k1 : W0.heap[w.heap.size + 1]? = some (.cells #[.bool a.f0, .string a.f1, .string a.f2] 23 (0, 0)) := by rw [← hW0]; exact blk_alloc (blk_alloc (by have := blk_new (w.alloc (.cells #[.bool false, .func (.func fn) #[] #[]] 80)) (.cells #[.bool a.f0, .string a.f1, .string a.f2] 23); simpa using this) _) _
  have k2 : W0.heap[w.heap.size + 1 + 1]? = some (.cells #[.bool b.f0, .string b.f1, .string b.f2] 23 (0, 0)) := by rw [← hW0]; exact blk_alloc (by have := blk_new ((w.alloc (.cells #[.bool false, .func (.func fn) #[] #[]] 80)).alloc (.cells #[.bool a.f0, .string a.f1, .string a.f2] 23)) (.cells #[.bool b.f0, .string b.f1, .string b.f2] 23); simpa using this) _
  have k3 : W0.heap[w.heap.size + 1 + 1 + 1]? = some (.cells #[.bool false, .string ⟨#[]⟩, .string ⟨#[]⟩] 23 (0, 0)) := by rw [← hW0]; have := blk_new (((w.alloc (.cells #[.bool false, .func (.func fn) #[] #[]] 80)).alloc (.cells #[.bool a.f0, .string a.f1, .string a.f2] 23)).alloc (.cells #[.bool b.f0, .string b.f1, .string b.f2] 23)) (.cells #[.bool false, .string ⟨#[]⟩, .string ⟨#[]⟩] 23); simpa using this
  have hbel : Below w.heap.size w W0 := by rw [← hW0]; exact below_alloc (below_alloc (below_alloc (below_alloc (Below.refl _ _) _) _) _) _
  have HB0 := Aside0.mk hbel
  have HP := Aside0.mk (valid_calls a W0 (HT.out.below hbel))
  have K0 := Aside0.mk k0
  have K1 := Aside0.mk k1
  have K2 := Aside0.mk k2
  have K3 := Aside0.mk k3
  have HW := Aside0.mk hW0
  clear k0 k1 k2 k3 hbel hW0 hT
  go_enter Tryz.func72, Tryz.ntmps72
  go_wp2_with (first
    | (have _ := HB1.out; go_at_call 21; refine (valid_calls b _ (HT.out.below HB1.out)).mono ?_; rintro e w2 ⟨rfl, hb⟩; rw [HVb.out]; have HB2 := Aside0.mk (below_step HB1.out hb); have L0 := Aside0.mk (blk_below J0.out hb); have L1 := Aside0.mk (blk_below J1.out hb); have L2 := Aside0.mk (blk_below J2.out hb); have L3 := Aside0.mk (blk_below J3.out hb); clear hb; have cw200 : w2.cell? ⟨w.heap.size, 0, none⟩ = some (.bool false) := (blk_cell L0.out 0).trans rfl; have cw201 : w2.cell? ⟨w.heap.size, 1, none⟩ = some (.func (.func fn) #[] #[]) := (blk_cell L0.out 1).trans rfl; have cw210 : w2.cell? ⟨w.heap.size + 1, 0, none⟩ = some (.bool a.f0) := (blk_cell L1.out 0).trans rfl; have cw211 : w2.cell? ⟨w.heap.size + 1, 1, none⟩ = some (.string a.f1) := (blk_cell L1.out 1).trans rfl; have cw212 : w2.cell? ⟨w.heap.size + 1, 2, none⟩ = some (.string a.f2) := (blk_cell L1.out 2).trans rfl; have cw220 : w2.cell? ⟨w.heap.size + 1 + 1, 0, none⟩ = some (.bool b.f0) := (blk_cell L2.out 0).trans rfl; have cw221 : w2.cell? ⟨w.heap.size + 1 + 1, 1, none⟩ = some (.string b.f1) := (blk_cell L2.out 1).trans rfl; have cw222 : w2.cell? ⟨w.heap.size + 1 + 1, 2, none⟩ = some (.string b.f2) := (blk_cell L2.out 2).trans rfl; have cw230 : w2.cell? ⟨w.heap.size + 1 + 1 + 1, 0, none⟩ = some (.bool false) := (blk_cell L3.out 0).trans rfl; have cw231 : w2.cell? ⟨w.heap.size + 1 + 1 + 1, 1, none⟩ = some (.string ⟨#[]⟩) := (blk_cell L3.out 1).trans rfl; have cw232 : w2.cell? ⟨w.heap.size + 1 + 1 + 1, 2, none⟩ = some (.string ⟨#[]⟩) := (blk_cell L3.out 2).trans rfl; have fw20 := blk_frozen L3.out 0; have fw21 := blk_frozen L3.out 1; have fw22 := blk_frozen L3.out 2)
    | (go_at_call 21; rw [HW.out]; refine HP.out.mono ?_; rintro e w1 ⟨rfl, hb⟩; rw [HVa.out]; have HB1 := Aside0.mk (below_step HB0.out hb); have J0 := Aside0.mk (blk_below K0.out hb); have J1 := Aside0.mk (blk_below K1.out hb); have J2 := Aside0.mk (blk_below K2.out hb); have J3 := Aside0.mk (blk_below K3.out hb); clear hb; clear HP; have cw100 : w1.cell? ⟨w.heap.size, 0, none⟩ = some (.bool false) := (blk_cell J0.out 0).trans rfl; have cw101 : w1.cell? ⟨w.heap.size, 1, none⟩ = some (.func (.func fn) #[] #[]) := (blk_cell J0.out 1).trans rfl; have cw110 : w1.cell? ⟨w.heap.size + 1, 0, none⟩ = some (.bool a.f0) := (blk_cell J1.out 0).trans rfl; have cw111 : w1.cell? ⟨w.heap.size + 1, 1, none⟩ = some (.string a.f1) := (blk_cell J1.out 1).trans rfl; have cw112 : w1.cell? ⟨w.heap.size + 1, 2, none⟩ = some (.string a.f2) := (blk_cell J1.out 2).trans rfl; have cw120 : w1.cell? ⟨w.heap.size + 1 + 1, 0, none⟩ = some (.bool b.f0) := (blk_cell J2.out 0).trans rfl; have cw121 : w1.cell? ⟨w.heap.size + 1 + 1, 1, none⟩ = some (.string b.f1) := (blk_cell J2.out 1).trans rfl; have cw122 : w1.cell? ⟨w.heap.size + 1 + 1, 2, none⟩ = some (.string b.f2) := (blk_cell J2.out 2).trans rfl; have cw130 : w1.cell? ⟨w.heap.size + 1 + 1 + 1, 0, none⟩ = some (.bool false) := (blk_cell J3.out 0).trans rfl; have cw131 : w1.cell? ⟨w.heap.size + 1 + 1 + 1, 1, none⟩ = some (.string ⟨#[]⟩) := (blk_cell J3.out 1).trans rfl; have cw132 : w1.cell? ⟨w.heap.size + 1 + 1 + 1, 2, none⟩ = some (.string ⟨#[]⟩) := (blk_cell J3.out 2).trans rfl; have fw10 := blk_frozen J3.out 0; have fw11 := blk_frozen J3.out 1; have fw12 := blk_frozen J3.out 2))
  have Q1 := Aside0.mk (blk_put (cs := #[.bool false, .string ⟨#[]⟩, .string ⟨#[]⟩]) (blk_put L3.out 0 (.bool false) rfl) 1 (.string ⟨#[]⟩) rfl)
  have Q2 := Aside0.mk (blk_put (cs := #[.bool false, .string ⟨#[]⟩, .string ⟨#[]⟩]) Q1.out 2 (.string ⟨#[]⟩) rfl)
  have Q5 := Aside0.mk (((HB2.out.setCell (p := ⟨w.heap.size + 1 + 1 + 1, 0, none⟩) (by show w.heap.size ≤ w.heap.size + 1 + 1 + 1; omega) (.bool false)).setCell (p := ⟨w.heap.size + 1 + 1 + 1, 1, none⟩) (by show w.heap.size ≤ w.heap.size + 1 + 1 + 1; omega) (.string ⟨#[]⟩)).setCell (p := ⟨w.heap.size + 1 + 1 + 1, 2, none⟩) (by show w.heap.size ≤ w.heap.size + 1 + 1 + 1; omega) (.string ⟨#[]⟩))
  refine bodyPost_ret (results_ct rfl _ _ (w.heap.size + 1 + 1 + 1) 23 #[.bool false, .string ⟨#[]⟩, .string ⟨#[]⟩] (0, 0) _ rfl Q2.out Tryz.underlying23 rfl (by kernel_rfl)) rfl ?_
  exact ⟨rfl, Q5.out⟩
set_option maxRecDepth 100000 in
set_option maxHeartbeats 2000000 in
theorem run_f2 (fn : FuncId) (z : Bool) (a b : S23) (w : World) (hT : Tabs w) (hva : vld a = true) (hvb : vld b = true) (hz : z = false) (d0 : decide (140 < (a.f1.size : Int)) = false) (d1 : decide (140 < (a.f2.size : Int)) = false) (d2 : decide (140 < (b.f1.size : Int)) = true) :
    Calls Tryz.prog 72 #[.agg #[.bool z, .func (.func fn) #[] #[]], .agg #[.bool a.f0, .string a.f1, .string a.f2], .agg #[.bool b.f0, .string b.f1, .string b.f2]] w fun e w' => e = .returned (.tuple #[.agg #[.bool false, .string ⟨#[]⟩, .string ⟨#[]⟩], .int .i64 2]) ∧ Below w.heap.size w w' := by
  subst hz
  have hu23 := Tryz.underlying23
  have hu80 := Tryz.underlying80
  have HT := Aside0.mk hT
  have HVa := Aside0.mk hva
  clear hva
  have HVb := Aside0.mk hvb
  clear hvb
  obtain ⟨W0, hW0⟩ : ∃ W0, (((w.alloc (.cells #[.bool false, .func (.func fn) #[] #[]] 80)).alloc (.cells #[.bool a.f0, .string a.f1, .string a.f2] 23)).alloc (.cells #[.bool b.f0, .string b.f1, .string b.f2] 23)).alloc (.cells #[.bool false, .string ⟨#[]⟩, .string ⟨#[]⟩] 23) = W0 := ⟨_, rfl⟩
  have k0 : W0.heap[w.heap.size]? = some (.cells #[.bool false, .func (.func fn) #[] #[]] 80 (0, 0)) := by rw [← hW0]; exact blk_alloc (blk_alloc (blk_alloc (blk_new _ _) _) _) _
  have k1 : W0.heap[w.heap.size + 1]? = some (.cells #[.bool a.f0, .string a.f1, .string a.f2] 23 (0, 0)) := by rw [← hW0]; exact blk_alloc (blk_alloc (by have := blk_new (w.alloc (.cells #[.bool false, .func (.func fn) #[] #[]] 80)) (.cells #[.bool a.f0, .string a.f1, .string a.f2] 23); simpa using this) _) _
  have k2 : W0.heap[w.heap.size + 1 + 1]? = some (.cells #[.bool b.f0, .string b.f1, .string b.f2] 23 (0, 0)) := by rw [← hW0]; exact blk_alloc (by have := blk_new ((w.alloc (.cells #[.bool false, .func (.func fn) #[] #[]] 80)).alloc (.cells #[.bool a.f0, .string a.f1, .string a.f2] 23)) (.cells #[.bool b.f0, .string b.f1, .string b.f2] 23); simpa using this) _
  have k3 : W0.heap[w.heap.size + 1 + 1 + 1]? = some (.cells #[.bool false, .string ⟨#[]⟩, .string ⟨#[]⟩] 23 (0, 0)) := by rw [← hW0]; have := blk_new (((w.alloc (.cells #[.bool false, .func (.func fn) #[] #[]] 80)).alloc (.cells #[.bool a.f0, .string a.f1, .string a.f2] 23)).alloc (.cells #[.bool b.f0, .string b.f1, .string b.f2] 23)) (.cells #[.bool false, .string ⟨#[]⟩, .string ⟨#[]⟩] 23); simpa using this
  have hbel : Below w.heap.size w W0 := by rw [← hW0]; exact below_alloc (below_alloc (below_alloc (below_alloc (Below.refl _ _) _) _) _) _
  have HB0 := Aside0.mk hbel
  have HP := Aside0.mk (valid_calls a W0 (HT.out.below hbel))
  have K0 := Aside0.mk k0
  have K1 := Aside0.mk k1
  have K2 := Aside0.mk k2
  have K3 := Aside0.mk k3
  have HW := Aside0.mk hW0
  clear k0 k1 k2 k3 hbel hW0 hT
  go_enter Tryz.func72, Tryz.ntmps72
  go_wp2_with (first
    | (have _ := HB1.out; go_at_call 21; refine (valid_calls b _ (HT.out.below HB1.out)).mono ?_; rintro e w2 ⟨rfl, hb⟩; rw [HVb.out]; have HB2 := Aside0.mk (below_step HB1.out hb); have L0 := Aside0.mk (blk_below J0.out hb); have L1 := Aside0.mk (blk_below J1.out hb); have L2 := Aside0.mk (blk_below J2.out hb); have L3 := Aside0.mk (blk_below J3.out hb); clear hb; have cw200 : w2.cell? ⟨w.heap.size, 0, none⟩ = some (.bool false) := (blk_cell L0.out 0).trans rfl; have cw201 : w2.cell? ⟨w.heap.size, 1, none⟩ = some (.func (.func fn) #[] #[]) := (blk_cell L0.out 1).trans rfl; have cw210 : w2.cell? ⟨w.heap.size + 1, 0, none⟩ = some (.bool a.f0) := (blk_cell L1.out 0).trans rfl; have cw211 : w2.cell? ⟨w.heap.size + 1, 1, none⟩ = some (.string a.f1) := (blk_cell L1.out 1).trans rfl; have cw212 : w2.cell? ⟨w.heap.size + 1, 2, none⟩ = some (.string a.f2) := (blk_cell L1.out 2).trans rfl; have cw220 : w2.cell? ⟨w.heap.size + 1 + 1, 0, none⟩ = some (.bool b.f0) := (blk_cell L2.out 0).trans rfl; have cw221 : w2.cell? ⟨w.heap.size + 1 + 1, 1, none⟩ = some (.string b.f1) := (blk_cell L2.out 1).trans rfl; have cw222 : w2.cell? ⟨w.heap.size + 1 + 1, 2, none⟩ = some (.string b.f2) := (blk_cell L2.out 2).trans rfl; have cw230 : w2.cell? ⟨w.heap.size + 1 + 1 + 1, 0, none⟩ = some (.bool false) := (blk_cell L3.out 0).trans rfl; have cw231 : w2.cell? ⟨w.heap.size + 1 + 1 + 1, 1, none⟩ = some (.string ⟨#[]⟩) := (blk_cell L3.out 1).trans rfl; have cw232 : w2.cell? ⟨w.heap.size + 1 + 1 + 1, 2, none⟩ = some (.string ⟨#[]⟩) := (blk_cell L3.out 2).trans rfl; have fw20 := blk_frozen L3.out 0; have fw21 := blk_frozen L3.out 1; have fw22 := blk_frozen L3.out 2)
    | (go_at_call 21; rw [HW.out]; refine HP.out.mono ?_; rintro e w1 ⟨rfl, hb⟩; rw [HVa.out]; have HB1 := Aside0.mk (below_step HB0.out hb); have J0 := Aside0.mk (blk_below K0.out hb); have J1 := Aside0.mk (blk_below K1.out hb); have J2 := Aside0.mk (blk_below K2.out hb); have J3 := Aside0.mk (blk_below K3.out hb); clear hb; clear HP; have cw100 : w1.cell? ⟨w.heap.size, 0, none⟩ = some (.bool false) := (blk_cell J0.out 0).trans rfl; have cw101 : w1.cell? ⟨w.heap.size, 1, none⟩ = some (.func (.func fn) #[] #[]) := (blk_cell J0.out 1).trans rfl; have cw110 : w1.cell? ⟨w.heap.size + 1, 0, none⟩ = some (.bool a.f0) := (blk_cell J1.out 0).trans rfl; have cw111 : w1.cell? ⟨w.heap.size + 1, 1, none⟩ = some (.string a.f1) := (blk_cell J1.out 1).trans rfl; have cw112 : w1.cell? ⟨w.heap.size + 1, 2, none⟩ = some (.string a.f2) := (blk_cell J1.out 2).trans rfl; have cw120 : w1.cell? ⟨w.heap.size + 1 + 1, 0, none⟩ = some (.bool b.f0) := (blk_cell J2.out 0).trans rfl; have cw121 : w1.cell? ⟨w.heap.size + 1 + 1, 1, none⟩ = some (.string b.f1) := (blk_cell J2.out 1).trans rfl; have cw122 : w1.cell? ⟨w.heap.size + 1 + 1, 2, none⟩ = some (.string b.f2) := (blk_cell J2.out 2).trans rfl; have cw130 : w1.cell? ⟨w.heap.size + 1 + 1 + 1, 0, none⟩ = some (.bool false) := (blk_cell J3.out 0).trans rfl; have cw131 : w1.cell? ⟨w.heap.size + 1 + 1 + 1, 1, none⟩ = some (.string ⟨#[]⟩) := (blk_cell J3.out 1).trans rfl; have cw132 : w1.cell? ⟨w.heap.size + 1 + 1 + 1, 2, none⟩ = some (.string ⟨#[]⟩) := (blk_cell J3.out 2).trans rfl; have fw10 := blk_frozen J3.out 0; have fw11 := blk_frozen J3.out 1; have fw12 := blk_frozen J3.out 2))
  have Q1 := Aside0.mk (blk_put (cs := #[.bool false, .string ⟨#[]⟩, .string ⟨#[]⟩]) (blk_put L3.out 0 (.bool false) rfl) 1 (.string ⟨#[]⟩) rfl)
  have Q2 := Aside0.mk (blk_put (cs := #[.bool false, .string ⟨#[]⟩, .string ⟨#[]⟩]) Q1.out 2 (.string ⟨#[]⟩) rfl)
  have Q5 := Aside0.mk (((HB2.out.setCell (p := ⟨w.heap.size + 1 + 1 + 1, 0, none⟩) (by show w.heap.size ≤ w.heap.size + 1 + 1 + 1; omega) (.bool false)).setCell (p := ⟨w.heap.size + 1 + 1 + 1, 1, none⟩) (by show w.heap.size ≤ w.heap.size + 1 + 1 + 1; omega) (.string ⟨#[]⟩)).setCell (p := ⟨w.heap.size + 1 + 1 + 1, 2, none⟩) (by show w.heap.size ≤ w.heap.size + 1 + 1 + 1; omega) (.string ⟨#[]⟩))
  refine bodyPost_ret (results_ct rfl _ _ (w.heap.size + 1 + 1 + 1) 23 #[.bool false, .string ⟨#[]⟩, .string ⟨#[]⟩] (0, 0) _ rfl Q2.out Tryz.underlying23 rfl (by kernel_rfl)) rfl ?_
  exact ⟨rfl, Q5.out⟩
set_option maxRecDepth 100000 in
set_option maxHeartbeats 2000000 in
theorem run_f3 (fn : FuncId) (z : Bool) (a b : S23) (w : World) (hT : Tabs w) (hva : vld a = true) (hvb : vld b = true) (hz : z = false) (d0 : decide (140 < (a.f1.size : Int)) = false) (d1 : decide (140 < (a.f2.size : Int)) = false) (d2 : decide (140 < (b.f1.size : Int)) = false) (d3 : decide (140 < (b.f2.size : Int)) = true) :
    Calls Tryz.prog 72 #[.agg #[.bool z, .func (.func fn) #[] #[]], .agg #[.bool a.f0, .string a.f1, .string a.f2], .agg #[.bool b.f0, .string b.f1, .string b.f2]] w fun e w' => e = .returned (.tuple #[.agg #[.bool false, .string ⟨#[]⟩, .string ⟨#[]⟩], .int .i64 2]) ∧ Below w.heap.size w w' := by
  subst hz
  have hu23 := Tryz.underlying23
  have hu80 := Tryz.underlying80
  have HT := Aside0.mk hT
  have HVa := Aside0.mk hva
  clear hva
  have HVb := Aside0.mk hvb
  clear hvb
  obtain ⟨W0, hW0⟩ : ∃ W0, (((w.alloc (.cells #[.bool false, .func (.func fn) #[] #[]] 80)).alloc (.cells #[.bool a.f0, .string a.f1, .string a.f2] 23)).alloc (.cells #[.bool b.f0, .string b.f1, .string b.f2] 23)).alloc (.cells #[.bool false, .string ⟨#[]⟩, .string ⟨#[]⟩] 23) = W0 := ⟨_, rfl⟩
  have k0 : W0.heap[w.heap.size]? = some (.cells #[.bool false, .func (.func fn) #[] #[]] 80 (0, 0)) := by rw [← hW0]; exact blk_alloc (blk_alloc (blk_alloc (blk_new _ _) _) _) _
  have k1 : W0.heap[w.heap.size + 1]? = some (.cells #[.bool a.f0, .string a.f1, .string a.f2] 23 (0, 0)) := by rw [← hW0]; exact blk_alloc (blk_alloc (by have := blk_new (w.alloc (.cells #[.bool false, .func (.func fn) #[] #[]] 80)) (.cells #[.bool a.f0, .string a.f1, .string a.f2] 23); simpa using this) _) _
  have k2 : W0.heap[w.heap.size + 1 + 1]? = some (.cells #[.bool b.f0, .string b.f1, .string b.f2] 23 (0, 0)) := by rw [← hW0]; exact blk_alloc (by have := blk_new ((w.alloc (.cells #[.bool false, .func (.func fn) #[] #[]] 80)).alloc (.cells #[.bool a.f0, .string a.f1, .string a.f2] 23)) (.cells #[.bool b.f0, .string b.f1, .string b.f2] 23); simpa using this) _
  have k3 : W0.heap[w.heap.size + 1 + 1 + 1]? = some (.cells #[.bool false, .string ⟨#[]⟩, .string ⟨#[]⟩] 23 (0, 0)) := by rw [← hW0]; have := blk_new (((w.alloc (.cells #[.bool false, .func (.func fn) #[] #[]] 80)).alloc (.cells #[.bool a.f0, .string a.f1, .string a.f2] 23)).alloc (.cells #[.bool b.f0, .string b.f1, .string b.f2] 23)) (.cells #[.bool false, .string ⟨#[]⟩, .string ⟨#[]⟩] 23); simpa using this
  have hbel : Below w.heap.size w W0 := by rw [← hW0]; exact below_alloc (below_alloc (below_alloc (below_alloc (Below.refl _ _) _) _) _) _
  have HB0 := Aside0.mk hbel
  have HP := Aside0.mk (valid_calls a W0 (HT.out.below hbel))
  have K0 := Aside0.mk k0
  have K1 := Aside0.mk k1
  have K2 := Aside0.mk k2
  have K3 := Aside0.mk k3
  have HW := Aside0.mk hW0
  clear k0 k1 k2 k3 hbel hW0 hT
  go_enter Tryz.func72, Tryz.ntmps72
  go_wp2_with (first
    | (have _ := HB1.out; go_at_call 21; refine (valid_calls b _ (HT.out.below HB1.out)).mono ?_; rintro e w2 ⟨rfl, hb⟩; rw [HVb.out]; have HB2 := Aside0.mk (below_step HB1.out hb); have L0 := Aside0.mk (blk_below J0.out hb); have L1 := Aside0.mk (blk_below J1.out hb); have L2 := Aside0.mk (blk_below J2.out hb); have L3 := Aside0.mk (blk_below J3.out hb); clear hb; have cw200 : w2.cell? ⟨w.heap.size, 0, none⟩ = some (.bool false) := (blk_cell L0.out 0).trans rfl; have cw201 : w2.cell? ⟨w.heap.size, 1, none⟩ = some (.func (.func fn) #[] #[]) := (blk_cell L0.out 1).trans rfl; have cw210 : w2.cell? ⟨w.heap.size + 1, 0, none⟩ = some (.bool a.f0) := (blk_cell L1.out 0).trans rfl; have cw211 : w2.cell? ⟨w.heap.size + 1, 1, none⟩ = some (.string a.f1) := (blk_cell L1.out 1).trans rfl; have cw212 : w2.cell? ⟨w.heap.size + 1, 2, none⟩ = some (.string a.f2) := (blk_cell L1.out 2).trans rfl; have cw220 : w2.cell? ⟨w.heap.size + 1 + 1, 0, none⟩ = some (.bool b.f0) := (blk_cell L2.out 0).trans rfl; have cw221 : w2.cell? ⟨w.heap.size + 1 + 1, 1, none⟩ = some (.string b.f1) := (blk_cell L2.out 1).trans rfl; have cw222 : w2.cell? ⟨w.heap.size + 1 + 1, 2, none⟩ = some (.string b.f2) := (blk_cell L2.out 2).trans rfl; have cw230 : w2.cell? ⟨w.heap.size + 1 + 1 + 1, 0, none⟩ = some (.bool false) := (blk_cell L3.out 0).trans rfl; have cw231 : w2.cell? ⟨w.heap.size + 1 + 1 + 1, 1, none⟩ = some (.string ⟨#[]⟩) := (blk_cell L3.out 1).trans rfl; have cw232 : w2.cell? ⟨w.heap.size + 1 + 1 + 1, 2, none⟩ = some (.string ⟨#[]⟩) := (blk_cell L3.out 2).trans rfl; have fw20 := blk_frozen L3.out 0; have fw21 := blk_frozen L3.out 1; have fw22 := blk_frozen L3.out 2)
    | (go_at_call 21; rw [HW.out]; refine HP.out.mono ?_; rintro e w1 ⟨rfl, hb⟩; rw [HVa.out]; have HB1 := Aside0.mk (below_step HB0.out hb); have J0 := Aside0.mk (blk_below K0.out hb); have J1 := Aside0.mk (blk_below K1.out hb); have J2 := Aside0.mk (blk_below K2.out hb); have J3 := Aside0.mk (blk_below K3.out hb); clear hb; clear HP; have cw100 : w1.cell? ⟨w.heap.size, 0, none⟩ = some (.bool false) := (blk_cell J0.out 0).trans rfl; have cw101 : w1.cell? ⟨w.heap.size, 1, none⟩ = some (.func (.func fn) #[] #[]) := (blk_cell J0.out 1).trans rfl; have cw110 : w1.cell? ⟨w.heap.size + 1, 0, none⟩ = some (.bool a.f0) := (blk_cell J1.out 0).trans rfl; have cw111 : w1.cell? ⟨w.heap.size + 1, 1, none⟩ = some (.string a.f1) := (blk_cell J1.out 1).trans rfl; have cw112 : w1.cell? ⟨w.heap.size + 1, 2, none⟩ = some (.string a.f2) := (blk_cell J1.out 2).trans rfl; have cw120 : w1.cell? ⟨w.heap.size + 1 + 1, 0, none⟩ = some (.bool b.f0) := (blk_cell J2.out 0).trans rfl; have cw121 : w1.cell? ⟨w.heap.size + 1 + 1, 1, none⟩ = some (.string b.f1) := (blk_cell J2.out 1).trans rfl; have cw122 : w1.cell? ⟨w.heap.size + 1 + 1, 2, none⟩ = some (.string b.f2) := (blk_cell J2.out 2).trans rfl; have cw130 : w1.cell? ⟨w.heap.size + 1 + 1 + 1, 0, none⟩ = some (.bool false) := (blk_cell J3.out 0).trans rfl; have cw131 : w1.cell? ⟨w.heap.size + 1 + 1 + 1, 1, none⟩ = some (.string ⟨#[]⟩) := (blk_cell J3.out 1).trans rfl; have cw132 : w1.cell? ⟨w.heap.size + 1 + 1 + 1, 2, none⟩ = some (.string ⟨#[]⟩) := (blk_cell J3.out 2).trans rfl; have fw10 := blk_frozen J3.out 0; have fw11 := blk_frozen J3.out 1; have fw12 := blk_frozen J3.out 2))
  have Q1 := Aside0.mk (blk_put (cs := #[.bool false, .string ⟨#[]⟩, .string ⟨#[]⟩]) (blk_put L3.out 0 (.bool false) rfl) 1 (.string ⟨#[]⟩) rfl)
  have Q2 := Aside0.mk (blk_put (cs := #[.bool false, .string ⟨#[]⟩, .string ⟨#[]⟩]) Q1.out 2 (.string ⟨#[]⟩) rfl)
  have Q5 := Aside0.mk (((HB2.out.setCell (p := ⟨w.heap.size + 1 + 1 + 1, 0, none⟩) (by show w.heap.size ≤ w.heap.size + 1 + 1 + 1; omega) (.bool false)).setCell (p := ⟨w.heap.size + 1 + 1 + 1, 1, none⟩) (by show w.heap.size ≤ w.heap.size + 1 + 1 + 1; omega) (.string ⟨#[]⟩)).setCell (p := ⟨w.heap.size + 1 + 1 + 1, 2, none⟩) (by show w.heap.size ≤ w.heap.size + 1 + 1 + 1; omega) (.string ⟨#[]⟩))
  refine bodyPost_ret (results_ct rfl _ _ (w.heap.size + 1 + 1 + 1) 23 #[.bool false, .string ⟨#[]⟩, .string ⟨#[]⟩] (0, 0) _ rfl Q2.out Tryz.underlying23 rfl (by kernel_rfl)) rfl ?_
  exact ⟨rfl, Q5.out⟩
set_option maxRecDepth 100000 in
set_option maxHeartbeats 2000000 in
theorem run_f4 (fn : FuncId) (z : Bool) (a b : S23) (w : World) (hT : Tabs w) (hva : vld a = true) (hvb : vld b = true) (hz : z = false) (d0 : decide (140 < (a.f1.size : Int)) = false) (d1 : decide (140 < (a.f2.size : Int)) = false) (d2 : decide (140 < (b.f1.size : Int)) = false) (d3 : decide (140 < (b.f2.size : Int)) = false) (o : Option R4) (hA : Ans fn a b o) (r1 : Bool) (r2 r3 : ByteArray) (r4 : Int) (h : o = some (r1, r2, r3, r4)) (hf : ∀ args w, (callFunc fn args).run Tryz.prog w = .ok (.enter fn args) w) :
    Calls Tryz.prog 72 #[.agg #[.bool z, .func (.func fn) #[] #[]], .agg #[.bool a.f0, .string a.f1, .string a.f2], .agg #[.bool b.f0, .string b.f1, .string b.f2]] w fun e w' => e = .returned (.tuple #[.agg #[.bool r1, .string r2, .string r3], .int .i64 r4]) ∧ Below w.heap.size w w' := by
  subst hz
  have hu23 := Tryz.underlying23
  have hu80 := Tryz.underlying80
  have HT := Aside0.mk hT
  have HA := Aside0.mk (hA r1 r2 r3 r4)
  have HO := Aside0.mk h
  clear hA h
  have HVa := Aside0.mk hva
  clear hva
  have HVb := Aside0.mk hvb
  clear hvb
  obtain ⟨W0, hW0⟩ : ∃ W0, (((w.alloc (.cells #[.bool false, .func (.func fn) #[] #[]] 80)).alloc (.cells #[.bool a.f0, .string a.f1, .string a.f2] 23)).alloc (.cells #[.bool b.f0, .string b.f1, .string b.f2] 23)).alloc (.cells #[.bool false, .string ⟨#[]⟩, .string ⟨#[]⟩] 23) = W0 := ⟨_, rfl⟩
  have k0 : W0.heap[w.heap.size]? = some (.cells #[.bool false, .func (.func fn) #[] #[]] 80 (0, 0)) := by rw [← hW0]; exact blk_alloc (blk_alloc (blk_alloc (blk_new _ _) _) _) _
  have k1 : W0.heap[w.heap.size + 1]? = some (.cells #[.bool a.f0, .string a.f1, .string a.f2] 23 (0, 0)) := by rw [← hW0]; exact blk_alloc (blk_alloc (by have := blk_new (w.alloc (.cells #[.bool false, .func (.func fn) #[] #[]] 80)) (.cells #[.bool a.f0, .string a.f1, .string a.f2] 23); simpa using this) _) _
  have k2 : W0.heap[w.heap.size + 1 + 1]? = some (.cells #[.bool b.f0, .string b.f1, .string b.f2] 23 (0, 0)) := by rw [← hW0]; exact blk_alloc (by have := blk_new ((w.alloc (.cells #[.bool false, .func (.func fn) #[] #[]] 80)).alloc (.cells #[.bool a.f0, .string a.f1, .string a.f2] 23)) (.cells #[.bool b.f0, .string b.f1, .string b.f2] 23); simpa using this) _
  have k3 : W0.heap[w.heap.size + 1 + 1 + 1]? = some (.cells #[.bool false, .string ⟨#[]⟩, .string ⟨#[]⟩] 23 (0, 0)) := by rw [← hW0]; have := blk_new (((w.alloc (.cells #[.bool false, .func (.func fn) #[] #[]] 80)).alloc (.cells #[.bool a.f0, .string a.f1, .string a.f2] 23)).alloc (.cells #[.bool b.f0, .string b.f1, .string b.f2] 23)) (.cells #[.bool false, .string ⟨#[]⟩, .string ⟨#[]⟩] 23); simpa using this
  have hbel : Below w.heap.size w W0 := by rw [← hW0]; exact below_alloc (below_alloc (below_alloc (below_alloc (Below.refl _ _) _) _) _) _
  have HB0 := Aside0.mk hbel
  have HP := Aside0.mk (valid_calls a W0 (HT.out.below hbel))
  have K0 := Aside0.mk k0
  have K1 := Aside0.mk k1
  have K2 := Aside0.mk k2
  have K3 := Aside0.mk k3
  have HW := Aside0.mk hW0
  clear k0 k1 k2 k3 hbel hW0 hT
  go_enter Tryz.func72, Tryz.ntmps72
  go_wp2_with (first
    | (have _ := HB2.out; go_at_fn fn; refine (HA.out _ HO.out (HT.out.below HB2.out)).mono ?_; rintro e w3 ⟨rfl, hb⟩; have HB3 := Aside0.mk (below_step HB2.out hb); have M0 := Aside0.mk (blk_below L0.out hb); have M1 := Aside0.mk (blk_below L1.out hb); have M2 := Aside0.mk (blk_below L2.out hb); have M3 := Aside0.mk (blk_below L3.out hb); clear hb; have cw300 : w3.cell? ⟨w.heap.size, 0, none⟩ = some (.bool false) := (blk_cell M0.out 0).trans rfl; have cw301 : w3.cell? ⟨w.heap.size, 1, none⟩ = some (.func (.func fn) #[] #[]) := (blk_cell M0.out 1).trans rfl; have cw310 : w3.cell? ⟨w.heap.size + 1, 0, none⟩ = some (.bool a.f0) := (blk_cell M1.out 0).trans rfl; have cw311 : w3.cell? ⟨w.heap.size + 1, 1, none⟩ = some (.string a.f1) := (blk_cell M1.out 1).trans rfl; have cw312 : w3.cell? ⟨w.heap.size + 1, 2, none⟩ = some (.string a.f2) := (blk_cell M1.out 2).trans rfl; have cw320 : w3.cell? ⟨w.heap.size + 1 + 1, 0, none⟩ = some (.bool b.f0) := (blk_cell M2.out 0).trans rfl; have cw321 : w3.cell? ⟨w.heap.size + 1 + 1, 1, none⟩ = some (.string b.f1) := (blk_cell M2.out 1).trans rfl; have cw322 : w3.cell? ⟨w.heap.size + 1 + 1, 2, none⟩ = some (.string b.f2) := (blk_cell M2.out 2).trans rfl; have cw330 : w3.cell? ⟨w.heap.size + 1 + 1 + 1, 0, none⟩ = some (.bool false) := (blk_cell M3.out 0).trans rfl; have cw331 : w3.cell? ⟨w.heap.size + 1 + 1 + 1, 1, none⟩ = some (.string ⟨#[]⟩) := (blk_cell M3.out 1).trans rfl; have cw332 : w3.cell? ⟨w.heap.size + 1 + 1 + 1, 2, none⟩ = some (.string ⟨#[]⟩) := (blk_cell M3.out 2).trans rfl; have fw30 := blk_frozen M3.out 0; have fw31 := blk_frozen M3.out 1; have fw32 := blk_frozen M3.out 2)
    | (have _ := HB1.out; go_at_call 21; refine (valid_calls b _ (HT.out.below HB1.out)).mono ?_; rintro e w2 ⟨rfl, hb⟩; rw [HVb.out]; have HB2 := Aside0.mk (below_step HB1.out hb); have L0 := Aside0.mk (blk_below J0.out hb); have L1 := Aside0.mk (blk_below J1.out hb); have L2 := Aside0.mk (blk_below J2.out hb); have L3 := Aside0.mk (blk_below J3.out hb); clear hb; have cw200 : w2.cell? ⟨w.heap.size, 0, none⟩ = some (.bool false) := (blk_cell L0.out 0).trans rfl; have cw201 : w2.cell? ⟨w.heap.size, 1, none⟩ = some (.func (.func fn) #[] #[]) := (blk_cell L0.out 1).trans rfl; have cw210 : w2.cell? ⟨w.heap.size + 1, 0, none⟩ = some (.bool a.f0) := (blk_cell L1.out 0).trans rfl; have cw211 : w2.cell? ⟨w.heap.size + 1, 1, none⟩ = some (.string a.f1) := (blk_cell L1.out 1).trans rfl; have cw212 : w2.cell? ⟨w.heap.size + 1, 2, none⟩ = some (.string a.f2) := (blk_cell L1.out 2).trans rfl; have cw220 : w2.cell? ⟨w.heap.size + 1 + 1, 0, none⟩ = some (.bool b.f0) := (blk_cell L2.out 0).trans rfl; have cw221 : w2.cell? ⟨w.heap.size + 1 + 1, 1, none⟩ = some (.string b.f1) := (blk_cell L2.out 1).trans rfl; have cw222 : w2.cell? ⟨w.heap.size + 1 + 1, 2, none⟩ = some (.string b.f2) := (blk_cell L2.out 2).trans rfl; have cw230 : w2.cell? ⟨w.heap.size + 1 + 1 + 1, 0, none⟩ = some (.bool false) := (blk_cell L3.out 0).trans rfl; have cw231 : w2.cell? ⟨w.heap.size + 1 + 1 + 1, 1, none⟩ = some (.string ⟨#[]⟩) := (blk_cell L3.out 1).trans rfl; have cw232 : w2.cell? ⟨w.heap.size + 1 + 1 + 1, 2, none⟩ = some (.string ⟨#[]⟩) := (blk_cell L3.out 2).trans rfl; have fw20 := blk_frozen L3.out 0; have fw21 := blk_frozen L3.out 1; have fw22 := blk_frozen L3.out 2)
    | (go_at_call 21; rw [HW.out]; refine HP.out.mono ?_; rintro e w1 ⟨rfl, hb⟩; rw [HVa.out]; have HB1 := Aside0.mk (below_step HB0.out hb); have J0 := Aside0.mk (blk_below K0.out hb); have J1 := Aside0.mk (blk_below K1.out hb); have J2 := Aside0.mk (blk_below K2.out hb); have J3 := Aside0.mk (blk_below K3.out hb); clear hb; clear HP; have cw100 : w1.cell? ⟨w.heap.size, 0, none⟩ = some (.bool false) := (blk_cell J0.out 0).trans rfl; have cw101 : w1.cell? ⟨w.heap.size, 1, none⟩ = some (.func (.func fn) #[] #[]) := (blk_cell J0.out 1).trans rfl; have cw110 : w1.cell? ⟨w.heap.size + 1, 0, none⟩ = some (.bool a.f0) := (blk_cell J1.out 0).trans rfl; have cw111 : w1.cell? ⟨w.heap.size + 1, 1, none⟩ = some (.string a.f1) := (blk_cell J1.out 1).trans rfl; have cw112 : w1.cell? ⟨w.heap.size + 1, 2, none⟩ = some (.string a.f2) := (blk_cell J1.out 2).trans rfl; have cw120 : w1.cell? ⟨w.heap.size + 1 + 1, 0, none⟩ = some (.bool b.f0) := (blk_cell J2.out 0).trans rfl; have cw121 : w1.cell? ⟨w.heap.size + 1 + 1, 1, none⟩ = some (.string b.f1) := (blk_cell J2.out 1).trans rfl; have cw122 : w1.cell? ⟨w.heap.size + 1 + 1, 2, none⟩ = some (.string b.f2) := (blk_cell J2.out 2).trans rfl; have cw130 : w1.cell? ⟨w.heap.size + 1 + 1 + 1, 0, none⟩ = some (.bool false) := (blk_cell J3.out 0).trans rfl; have cw131 : w1.cell? ⟨w.heap.size + 1 + 1 + 1, 1, none⟩ = some (.string ⟨#[]⟩) := (blk_cell J3.out 1).trans rfl; have cw132 : w1.cell? ⟨w.heap.size + 1 + 1 + 1, 2, none⟩ = some (.string ⟨#[]⟩) := (blk_cell J3.out 2).trans rfl; have fw10 := blk_frozen J3.out 0; have fw11 := blk_frozen J3.out 1; have fw12 := blk_frozen J3.out 2))
  have Q1 := Aside0.mk (blk_put (cs := #[.bool r1, .string ⟨#[]⟩, .string ⟨#[]⟩]) (blk_put M3.out 0 (.bool r1) rfl) 1 (.string r2) rfl)
  have Q2 := Aside0.mk (blk_put (cs := #[.bool r1, .string r2, .string ⟨#[]⟩]) Q1.out 2 (.string r3) rfl)
  have Q5 := Aside0.mk (((HB3.out.setCell (p := ⟨w.heap.size + 1 + 1 + 1, 0, none⟩) (by show w.heap.size ≤ w.heap.size + 1 + 1 + 1; omega) (.bool r1)).setCell (p := ⟨w.heap.size + 1 + 1 + 1, 1, none⟩) (by show w.heap.size ≤ w.heap.size + 1 + 1 + 1; omega) (.string r2)).setCell (p := ⟨w.heap.size + 1 + 1 + 1, 2, none⟩) (by show w.heap.size ≤ w.heap.size + 1 + 1 + 1; omega) (.string r3))
  refine bodyPost_ret (results_ct rfl _ _ (w.heap.size + 1 + 1 + 1) 23 #[.bool r1, .string r2, .string r3] (0, 0) _ rfl Q2.out Tryz.underlying23 rfl (by kernel_rfl)) rfl ?_
  exact ⟨rfl, Q5.out⟩
set_option maxRecDepth 100000 in
set_option maxHeartbeats 2000000 in
theorem run_t0 (fn : FuncId) (z : Bool) (a b : S23) (w : World) (hT : Tabs w) (hva : vld a = true) (hvb : vld b = true) (hz : z = true) (h0 : (b.f1.toList == [48]) = false) (d0 : decide (140 < (a.f1.size : Int)) = true) :
    Calls Tryz.prog 72 #[.agg #[.bool z, .func (.func fn) #[] #[]], .agg #[.bool a.f0, .string a.f1, .string a.f2], .agg #[.bool b.f0, .string b.f1, .string b.f2]] w fun e w' => e = .returned (.tuple #[.agg #[.bool false, .string ⟨#[]⟩, .string ⟨#[]⟩], .int .i64 2]) ∧ Below w.heap.size w w' := by
  subst hz
  have hu23 := Tryz.underlying23
  have hu80 := Tryz.underlying80
  have HT := Aside0.mk hT
  have HVa := Aside0.mk hva
  clear hva
  have HVb := Aside0.mk hvb
  clear hvb
  obtain ⟨W0, hW0⟩ : ∃ W0, (((w.alloc (.cells #[.bool true, .func (.func fn) #[] #[]] 80)).alloc (.cells #[.bool a.f0, .string a.f1, .string a.f2] 23)).alloc (.cells #[.bool b.f0, .string b.f1, .string b.f2] 23)).alloc (.cells #[.bool false, .string ⟨#[]⟩, .string ⟨#[]⟩] 23) = W0 := ⟨_, rfl⟩
  have k0 : W0.heap[w.heap.size]? = some (.cells #[.bool true, .func (.func fn) #[] #[]] 80 (0, 0)) := by rw [← hW0]; exact blk_alloc (blk_alloc (blk_alloc (blk_new _ _) _) _) _
  have k1 : W0.heap[w.heap.size + 1]? = some (.cells #[.bool a.f0, .string a.f1, .string a.f2] 23 (0, 0)) := by rw [← hW0]; exact blk_alloc (blk_alloc (by have := blk_new (w.alloc (.cells #[.bool true, .func (.func fn) #[] #[]] 80)) (.cells #[.bool a.f0, .string a.f1, .string a.f2] 23); simpa using this) _) _
  have k2 : W0.heap[w.heap.size + 1 + 1]? = some (.cells #[.bool b.f0, .string b.f1, .string b.f2] 23 (0, 0)) := by rw [← hW0]; exact blk_alloc (by have := blk_new ((w.alloc (.cells #[.bool true, .func (.func fn) #[] #[]] 80)).alloc (.cells #[.bool a.f0, .string a.f1, .string a.f2] 23)) (.cells #[.bool b.f0, .string b.f1, .string b.f2] 23); simpa using this) _
  have k3 : W0.heap[w.heap.size + 1 + 1 + 1]? = some (.cells #[.bool false, .string ⟨#[]⟩, .string ⟨#[]⟩] 23 (0, 0)) := by rw [← hW0]; have := blk_new (((w.alloc (.cells #[.bool true, .func (.func fn) #[] #[]] 80)).alloc (.cells #[.bool a.f0, .string a.f1, .string a.f2] 23)).alloc (.cells #[.bool b.f0, .string b.f1, .string b.f2] 23)) (.cells #[.bool false, .string ⟨#[]⟩, .string ⟨#[]⟩] 23); simpa using this
  have hbel : Below w.heap.size w W0 := by rw [← hW0]; exact below_alloc (below_alloc (below_alloc (below_alloc (Below.refl _ _) _) _) _) _
  have HB0 := Aside0.mk hbel
  have HP := Aside0.mk (valid_calls a W0 (HT.out.below hbel))
  have K0 := Aside0.mk k0
  have K1 := Aside0.mk k1
  have K2 := Aside0.mk k2
  have K3 := Aside0.mk k3
  have HW := Aside0.mk hW0
  clear k0 k1 k2 k3 hbel hW0 hT
  go_enter Tryz.func72, Tryz.ntmps72
  go_wp2_with (first
    | (have _ := HB1.out; go_at_call 21; refine (valid_calls b _ (HT.out.below HB1.out)).mono ?_; rintro e w2 ⟨rfl, hb⟩; rw [HVb.out]; have HB2 := Aside0.mk (below_step HB1.out hb); have L0 := Aside0.mk (blk_below J0.out hb); have L1 := Aside0.mk (blk_below J1.out hb); have L2 := Aside0.mk (blk_below J2.out hb); have L3 := Aside0.mk (blk_below J3.out hb); clear hb; have cw200 : w2.cell? ⟨w.heap.size, 0, none⟩ = some (.bool true) := (blk_cell L0.out 0).trans rfl; have cw201 : w2.cell? ⟨w.heap.size, 1, none⟩ = some (.func (.func fn) #[] #[]) := (blk_cell L0.out 1).trans rfl; have cw210 : w2.cell? ⟨w.heap.size + 1, 0, none⟩ = some (.bool a.f0) := (blk_cell L1.out 0).trans rfl; have cw211 : w2.cell? ⟨w.heap.size + 1, 1, none⟩ = some (.string a.f1) := (blk_cell L1.out 1).trans rfl; have cw212 : w2.cell? ⟨w.heap.size + 1, 2, none⟩ = some (.string a.f2) := (blk_cell L1.out 2).trans rfl; have cw220 : w2.cell? ⟨w.heap.size + 1 + 1, 0, none⟩ = some (.bool b.f0) := (blk_cell L2.out 0).trans rfl; have cw221 : w2.cell? ⟨w.heap.size + 1 + 1, 1, none⟩ = some (.string b.f1) := (blk_cell L2.out 1).trans rfl; have cw222 : w2.cell? ⟨w.heap.size + 1 + 1, 2, none⟩ = some (.string b.f2) := (blk_cell L2.out 2).trans rfl; have cw230 : w2.cell? ⟨w.heap.size + 1 + 1 + 1, 0, none⟩ = some (.bool false) := (blk_cell L3.out 0).trans rfl; have cw231 : w2.cell? ⟨w.heap.size + 1 + 1 + 1, 1, none⟩ = some (.string ⟨#[]⟩) := (blk_cell L3.out 1).trans rfl; have cw232 : w2.cell? ⟨w.heap.size + 1 + 1 + 1, 2, none⟩ = some (.string ⟨#[]⟩) := (blk_cell L3.out 2).trans rfl; have fw20 := blk_frozen L3.out 0; have fw21 := blk_frozen L3.out 1; have fw22 := blk_frozen L3.out 2)
    | (go_at_call 21; rw [HW.out]; refine HP.out.mono ?_; rintro e w1 ⟨rfl, hb⟩; rw [HVa.out]; have HB1 := Aside0.mk (below_step HB0.out hb); have J0 := Aside0.mk (blk_below K0.out hb); have J1 := Aside0.mk (blk_below K1.out hb); have J2 := Aside0.mk (blk_below K2.out hb); have J3 := Aside0.mk (blk_below K3.out hb); clear hb; clear HP; have cw100 : w1.cell? ⟨w.heap.size, 0, none⟩ = some (.bool true) := (blk_cell J0.out 0).trans rfl; have cw101 : w1.cell? ⟨w.heap.size, 1, none⟩ = some (.func (.func fn) #[] #[]) := (blk_cell J0.out 1).trans rfl; have cw110 : w1.cell? ⟨w.heap.size + 1, 0, none⟩ = some (.bool a.f0) := (blk_cell J1.out 0).trans rfl; have cw111 : w1.cell? ⟨w.heap.size + 1, 1, none⟩ = some (.string a.f1) := (blk_cell J1.out 1).trans rfl; have cw112 : w1.cell? ⟨w.heap.size + 1, 2, none⟩ = some (.string a.f2) := (blk_cell J1.out 2).trans rfl; have cw120 : w1.cell? ⟨w.heap.size + 1 + 1, 0, none⟩ = some (.bool b.f0) := (blk_cell J2.out 0).trans rfl; have cw121 : w1.cell? ⟨w.heap.size + 1 + 1, 1, none⟩ = some (.string b.f1) := (blk_cell J2.out 1).trans rfl; have cw122 : w1.cell? ⟨w.heap.size + 1 + 1, 2, none⟩ = some (.string b.f2) := (blk_cell J2.out 2).trans rfl; have cw130 : w1.cell? ⟨w.heap.size + 1 + 1 + 1, 0, none⟩ = some (.bool false) := (blk_cell J3.out 0).trans rfl; have cw131 : w1.cell? ⟨w.heap.size + 1 + 1 + 1, 1, none⟩ = some (.string ⟨#[]⟩) := (blk_cell J3.out 1).trans rfl; have cw132 : w1.cell? ⟨w.heap.size + 1 + 1 + 1, 2, none⟩ = some (.string ⟨#[]⟩) := (blk_cell J3.out 2).trans rfl; have fw10 := blk_frozen J3.out 0; have fw11 := blk_frozen J3.out 1; have fw12 := blk_frozen J3.out 2))
  have Q1 := Aside0.mk (blk_put (cs := #[.bool false, .string ⟨#[]⟩, .string ⟨#[]⟩]) (blk_put L3.out 0 (.bool false) rfl) 1 (.string ⟨#[]⟩) rfl)
  have Q2 := Aside0.mk (blk_put (cs := #[.bool false, .string ⟨#[]⟩, .string ⟨#[]⟩]) Q1.out 2 (.string ⟨#[]⟩) rfl)
  have Q5 := Aside0.mk (((HB2.out.setCell (p := ⟨w.heap.size + 1 + 1 + 1, 0, none⟩) (by show w.heap.size ≤ w.heap.size + 1 + 1 + 1; omega) (.bool false)).setCell (p := ⟨w.heap.size + 1 + 1 + 1, 1, none⟩) (by show w.heap.size ≤ w.heap.size + 1 + 1 + 1; omega) (.string ⟨#[]⟩)).setCell (p := ⟨w.heap.size + 1 + 1 + 1, 2, none⟩) (by show w.heap.size ≤ w.heap.size + 1 + 1 + 1; omega) (.string ⟨#[]⟩))
  refine bodyPost_ret (results_ct rfl _ _ (w.heap.size + 1 + 1 + 1) 23 #[.bool false, .string ⟨#[]⟩, .string ⟨#[]⟩] (0, 0) _ rfl Q2.out Tryz.underlying23 rfl (by kernel_rfl)) rfl ?_
  exact ⟨rfl, Q5.out⟩
set_option maxRecDepth 100000 in
set_option maxHeartbeats 2000000 in
theorem run_t1 (fn : FuncId) (z : Bool) (a b : S23) (w : World) (hT : Tabs w) (hva : vld a = true) (hvb : vld b = true) (hz : z = true) (h0 : (b.f1.toList == [48]) = false) (d0 : decide (140 < (a.f1.size : Int)) = false) (d1 : decide (140 < (a.f2.size : Int)) = true) :
    Calls Tryz.prog 72 #[.agg #[.bool z, .func (.func fn) #[] #[]], .agg #[.bool a.f0, .string a.f1, .string a.f2], .agg #[.bool b.f0, .string b.f1, .string b.f2]] w fun e w' => e = .returned (.tuple #[.agg #[.bool false, .string ⟨#[]⟩, .string ⟨#[]⟩], .int .i64 2]) ∧ Below w.heap.size w w' := by
  subst hz
  have hu23 := Tryz.underlying23
  have hu80 := Tryz.underlying80
  have HT := Aside0.mk hT
  have HVa := Aside0.mk hva
  clear hva
  have HVb := Aside0.mk hvb
  clear hvb
  obtain ⟨W0, hW0⟩ : ∃ W0, (((w.alloc (.cells #[.bool true, .func (.func fn) #[] #[]] 80)).alloc (.cells #[.bool a.f0, .string a.f1, .string a.f2] 23)).alloc (.cells #[.bool b.f0, .string b.f1, .string b.f2] 23)).alloc (.cells #[.bool false, .string ⟨#[]⟩, .string ⟨#[]⟩] 23) = W0 := ⟨_, rfl⟩
  have k0 : W0.heap[w.heap.size]? = some (.cells #[.bool true, .func (.func fn) #[] #[]] 80 (0, 0)) := by rw [← hW0]; exact blk_alloc (blk_alloc (blk_alloc (blk_new _ _) _) _) _
  have k1 : W0.heap[w.heap.size + 1]? = some (.cells #[.bool a.f0, .string a.f1, .string a.f2] 23 (0, 0)) := by rw [← hW0]; exact blk_alloc (blk_alloc (by have := blk_new (w.alloc (.cells #[.bool true, .func (.func fn) #[] #[]] 80)) (.cells #[.bool a.f0, .string a.f1, .string a.f2] 23); simpa using this) _) _
  have k2 : W0.heap[w.heap.size + 1 + 1]? = some (.cells #[.bool b.f0, .string b.f1, .string b.f2] 23 (0, 0)) := by rw [← hW0]; exact blk_alloc (by have := blk_new ((w.alloc (.cells #[.bool true, .func (.func fn) #[] #[]] 80)).alloc (.cells #[.bool a.f0, .string a.f1, .string a.f2] 23)) (.cells #[.bool b.f0, .string b.f1, .string b.f2] 23); simpa using this) _
  have k3 : W0.heap[w.heap.size + 1 + 1 + 1]? = some (.cells #[.bool false, .string ⟨#[]⟩, .string ⟨#[]⟩] 23 (0, 0)) := by rw [← hW0]; have := blk_new (((w.alloc (.cells #[.bool true, .func (.func fn) #[] #[]] 80)).alloc (.cells #[.bool a.f0, .string a.f1, .string a.f2] 23)).alloc (.cells #[.bool b.f0, .string b.f1, .string b.f2] 23)) (.cells #[.bool false, .string ⟨#[]⟩, .string ⟨#[]⟩] 23); simpa using this
  have hbel : Below w.heap.size w W0 := by rw [← hW0]; exact below_alloc (below_alloc (below_alloc (below_alloc (Below.refl _ _) _) _) _) _
  have HB0 := Aside0.mk hbel
  have HP := Aside0.mk (valid_calls a W0 (HT.out.below hbel))
  have K0 := Aside0.mk k0
  have K1 := Aside0.mk k1
  have K2 := Aside0.mk k2
  have K3 := Aside0.mk k3
  have HW := Aside0.mk hW0
  clear k0 k1 k2 k3 hbel hW0 hT
  go_enter Tryz.func72, Tryz.ntmps72
  go_wp2_with (first
    | (have _ := HB1.out; go_at_call 21; refine (valid_calls b _ (HT.out.below HB1.out)).mono ?_; rintro e w2 ⟨rfl, hb⟩; rw [HVb.out]; have HB2 := Aside0.mk (below_step HB1.out hb); have L0 := Aside0.mk (blk_below J0.out hb); have L1 := Aside0.mk (blk_below J1.out hb); have L2 := Aside0.mk (blk_below J2.out hb); have L3 := Aside0.mk (blk_below J3.out hb); clear hb; have cw200 : w2.cell? ⟨w.heap.size, 0, none⟩ = some (.bool true) := (blk_cell L0.out 0).trans rfl; have cw201 : w2.cell? ⟨w.heap.size, 1, none⟩ = some (.func (.func fn) #[] #[]) := (blk_cell L0.out 1).trans rfl; have cw210 : w2.cell? ⟨w.heap.size + 1, 0, none⟩ = some (.bool a.f0) := (blk_cell L1.out 0).trans rfl; have cw211 : w2.cell? ⟨w.heap.size + 1, 1, none⟩ = some (.string a.f1) := (blk_cell L1.out 1).trans rfl; have cw212 : w2.cell? ⟨w.heap.size + 1, 2, none⟩ = some (.string a.f2) := (blk_cell L1.out 2).trans rfl; have cw220 : w2.cell? ⟨w.heap.size + 1 + 1, 0, none⟩ = some (.bool b.f0) := (blk_cell L2.out 0).trans rfl; have cw221 : w2.cell? ⟨w.heap.size + 1 + 1, 1, none⟩ = some (.string b.f1) := (blk_cell L2.out 1).trans rfl; have cw222 : w2.cell? ⟨w.heap.size + 1 + 1, 2, none⟩ = some (.string b.f2) := (blk_cell L2.out 2).trans rfl; have cw230 : w2.cell? ⟨w.heap.size + 1 + 1 + 1, 0, none⟩ = some (.bool false) := (blk_cell L3.out 0).trans rfl; have cw231 : w2.cell? ⟨w.heap.size + 1 + 1 + 1, 1, none⟩ = some (.string ⟨#[]⟩) := (blk_cell L3.out 1).trans rfl; have cw232 : w2.cell? ⟨w.heap.size + 1 + 1 + 1, 2, none⟩ = some (.string ⟨#[]⟩) := (blk_cell L3.out 2).trans rfl; have fw20 := blk_frozen L3.out 0; have fw21 := blk_frozen L3.out 1; have fw22 := blk_frozen L3.out 2)
    | (go_at_call 21; rw [HW.out]; refine HP.out.mono ?_; rintro e w1 ⟨rfl, hb⟩; rw [HVa.out]; have HB1 := Aside0.mk (below_step HB0.out hb); have J0 := Aside0.mk (blk_below K0.out hb); have J1 := Aside0.mk (blk_below K1.out hb); have J2 := Aside0.mk (blk_below K2.out hb); have J3 := Aside0.mk (blk_below K3.out hb); clear hb; clear HP; have cw100 : w1.cell? ⟨w.heap.size, 0, none⟩ = some (.bool true) := (blk_cell J0.out 0).trans rfl; have cw101 : w1.cell? ⟨w.heap.size, 1, none⟩ = some (.func (.func fn) #[] #[]) := (blk_cell J0.out 1).trans rfl; have cw110 : w1.cell? ⟨w.heap.size + 1, 0, none⟩ = some (.bool a.f0) := (blk_cell J1.out 0).trans rfl; have cw111 : w1.cell? ⟨w.heap.size + 1, 1, none⟩ = some (.string a.f1) := (blk_cell J1.out 1).trans rfl; have cw112 : w1.cell? ⟨w.heap.size + 1, 2, none⟩ = some (.string a.f2) := (blk_cell J1.out 2).trans rfl; have cw120 : w1.cell? ⟨w.heap.size + 1 + 1, 0, none⟩ = some (.bool b.f0) := (blk_cell J2.out 0).trans rfl; have cw121 : w1.cell? ⟨w.heap.size + 1 + 1, 1, none⟩ = some (.string b.f1) := (blk_cell J2.out 1).trans rfl; have cw122 : w1.cell? ⟨w.heap.size + 1 + 1, 2, none⟩ = some (.string b.f2) := (blk_cell J2.out 2).trans rfl; have cw130 : w1.cell? ⟨w.heap.size + 1 + 1 + 1, 0, none⟩ = some (.bool false) := (blk_cell J3.out 0).trans rfl; have cw131 : w1.cell? ⟨w.heap.size + 1 + 1 + 1, 1, none⟩ = some (.string ⟨#[]⟩) := (blk_cell J3.out 1).trans rfl; have cw132 : w1.cell? ⟨w.heap.size + 1 + 1 + 1, 2, none⟩ = some (.string ⟨#[]⟩) := (blk_cell J3.out 2).trans rfl; have fw10 := blk_frozen J3.out 0; have fw11 := blk_frozen J3.out 1; have fw12 := blk_frozen J3.out 2))
  have Q1 := Aside0.mk (blk_put (cs := #[.bool false, .string ⟨#[]⟩, .string ⟨#[]⟩]) (blk_put L3.out 0 (.bool false) rfl) 1 (.string ⟨#[]⟩) rfl)
  have Q2 := Aside0.mk (blk_put (cs := #[.bool false, .string ⟨#[]⟩, .string ⟨#[]⟩]) Q1.out 2 (.string ⟨#[]⟩) rfl)
  have Q5 := Aside0.mk (((HB2.out.setCell (p := ⟨w.heap.size + 1 + 1 + 1, 0, none⟩) (by show w.heap.size ≤ w.heap.size + 1 + 1 + 1; omega) (.bool false)).setCell (p := ⟨w.heap.size + 1 + 1 + 1, 1, none⟩) (by show w.heap.size ≤ w.heap.size + 1 + 1 + 1; omega) (.string ⟨#[]⟩)).setCell (p := ⟨w.heap.size + 1 + 1 + 1, 2, none⟩) (by show w.heap.size ≤ w.heap.size + 1 + 1 + 1; omega) (.string ⟨#[]⟩))
  refine bodyPost_ret (results_ct rfl _ _ (w.heap.size + 1 + 1 + 1) 23 #[.bool false, .string ⟨#[]⟩, .string ⟨#[]⟩] (0, 0) _ rfl Q2.out Tryz.underlying23 rfl (by kernel_rfl)) rfl ?_
  exact ⟨rfl, Q5.out⟩
set_option maxRecDepth 100000 in
set_option maxHeartbeats 2000000 in
theorem run_t2 (fn : FuncId) (z : Bool) (a b : S23) (w : World) (hT : Tabs w) (hva : vld a = true) (hvb : vld b = true) (hz : z = true) (h0 : (b.f1.toList == [48]) = false) (d0 : decide (140 < (a.f1.size : Int)) = false) (d1 : decide (140 < (a.f2.size : Int)) = false) (d2 : decide (140 < (b.f1.size : Int)) = true) :
    Calls Tryz.prog 72 #[.agg #[.bool z, .func (.func fn) #[] #[]], .agg #[.bool a.f0, .string a.f1, .string a.f2], .agg #[.bool b.f0, .string b.f1, .string b.f2]] w fun e w' => e = .returned (.tuple #[.agg #[.bool false, .string ⟨#[]⟩, .string ⟨#[]⟩], .int .i64 2]) ∧ Below w.heap.size w w' := by
  subst hz
  have hu23 := Tryz.underlying23
  have hu80 := Tryz.underlying80
  have HT := Aside0.mk hT
  have HVa := Aside0.mk hva
  clear hva
  have HVb := Aside0.mk hvb
  clear hvb
  obtain ⟨W0, hW0⟩ : ∃ W0, (((w.alloc (.cells #[.bool true, .func (.func fn) #[] #[]] 80)).alloc (.cells #[.bool a.f0, .string a.f1, .string a.f2] 23)).alloc (.cells #[.bool b.f0, .string b.f1, .string b.f2] 23)).alloc (.cells #[.bool false, .string ⟨#[]⟩, .string ⟨#[]⟩] 23) = W0 := ⟨_, rfl⟩
  have k0 : W0.heap[w.heap.size]? = some (.cells #[.bool true, .func (.func fn) #[] #[]] 80 (0, 0)) := by rw [← hW0]; exact blk_alloc (blk_alloc (blk_alloc (blk_new _ _) _) _) _
  have k1 : W0.heap[w.heap.size + 1]? = some (.cells #[.bool a.f0, .string a.f1, .string a.f2] 23 (0, 0)) := by rw [← hW0]; exact blk_alloc (blk_alloc (by have := blk_new (w.alloc (.cells #[.bool true, .func (.func fn) #[] #[]] 80)) (.cells #[.bool a.f0, .string a.f1, .string a.f2] 23); simpa using this) _) _
  have k2 : W0.heap[w.heap.size + 1 + 1]? = some (.cells #[.bool b.f0, .string b.f1, .string b.f2] 23 (0, 0)) := by rw [← hW0]; exact blk_alloc (by have := blk_new ((w.alloc (.cells #[.bool true, .func (.func fn) #[] #[]] 80)).alloc (.cells #[.bool a.f0, .string a.f1, .string a.f2] 23)) (.cells #[.bool b.f0, .string b.f1, .string b.f2] 23); simpa using this) _
  have k3 : W0.heap[w.heap.size + 1 + 1 + 1]? = some (.cells #[.bool false, .string ⟨#[]⟩, .string ⟨#[]⟩] 23 (0, 0)) := by rw [← hW0]; have := blk_new (((w.alloc (.cells #[.bool true, .func (.func fn) #[] #[]] 80)).alloc (.cells #[.bool a.f0, .string a.f1, .string a.f2] 23)).alloc (.cells #[.bool b.f0, .string b.f1, .string b.f2] 23)) (.cells #[.bool false, .string ⟨#[]⟩, .string ⟨#[]⟩] 23); simpa using this
  have hbel : Below w.heap.size w W0 := by rw [← hW0]; exact below_alloc (below_alloc (below_alloc (below_alloc (Below.refl _ _) _) _) _) _
  have HB0 := Aside0.mk hbel
  have HP := Aside0.mk (valid_calls a W0 (HT.out.below hbel))
  have K0 := Aside0.mk k0
  have K1 := Aside0.mk k1
  have K2 := Aside0.mk k2
  have K3 := Aside0.mk k3
  have HW := Aside0.mk hW0
  clear k0 k1 k2 k3 hbel hW0 hT
  go_enter Tryz.func72, Tryz.ntmps72
  go_wp2_with (first
    | (have _ := HB1.out; go_at_call 21; refine (valid_calls b _ (HT.out.below HB1.out)).mono ?_; rintro e w2 ⟨rfl, hb⟩; rw [HVb.out]; have HB2 := Aside0.mk (below_step HB1.out hb); have L0 := Aside0.mk (blk_below J0.out hb); have L1 := Aside0.mk (blk_below J1.out hb); have L2 := Aside0.mk (blk_below J2.out hb); have L3 := Aside0.mk (blk_below J3.out hb); clear hb; have cw200 : w2.cell? ⟨w.heap.size, 0, none⟩ = some (.bool true) := (blk_cell L0.out 0).trans rfl; have cw201 : w2.cell? ⟨w.heap.size, 1, none⟩ = some (.func (.func fn) #[] #[]) := (blk_cell L0.out 1).trans rfl; have cw210 : w2.cell? ⟨w.heap.size + 1, 0, none⟩ = some (.bool a.f0) := (blk_cell L1.out 0).trans rfl; have cw211 : w2.cell? ⟨w.heap.size + 1, 1, none⟩ = some (.string a.f1) := (blk_cell L1.out 1).trans rfl; have cw212 : w2.cell? ⟨w.heap.size + 1, 2, none⟩ = some (.string a.f2) := (blk_cell L1.out 2).trans rfl; have cw220 : w2.cell? ⟨w.heap.size + 1 + 1, 0, none⟩ = some (.bool b.f0) := (blk_cell L2.out 0).trans rfl; have cw221 : w2.cell? ⟨w.heap.size + 1 + 1, 1, none⟩ = some (.string b.f1) := (blk_cell L2.out 1).trans rfl; have cw222 : w2.cell? ⟨w.heap.size + 1 + 1, 2, none⟩ = some (.string b.f2) := (blk_cell L2.out 2).trans rfl; have cw230 : w2.cell? ⟨w.heap.size + 1 + 1 + 1, 0, none⟩ = some (.bool false) := (blk_cell L3.out 0).trans rfl; have cw231 : w2.cell? ⟨w.heap.size + 1 + 1 + 1, 1, none⟩ = some (.string ⟨#[]⟩) := (blk_cell L3.out 1).trans rfl; have cw232 : w2.cell? ⟨w.heap.size + 1 + 1 + 1, 2, none⟩ = some (.string ⟨#[]⟩) := (blk_cell L3.out 2).trans rfl; have fw20 := blk_frozen L3.out 0; have fw21 := blk_frozen L3.out 1; have fw22 := blk_frozen L3.out 2)
    | (go_at_call 21; rw [HW.out]; refine HP.out.mono ?_; rintro e w1 ⟨rfl, hb⟩; rw [HVa.out]; have HB1 := Aside0.mk (below_step HB0.out hb); have J0 := Aside0.mk (blk_below K0.out hb); have J1 := Aside0.mk (blk_below K1.out hb); have J2 := Aside0.mk (blk_below K2.out hb); have J3 := Aside0.mk (blk_below K3.out hb); clear hb; clear HP; have cw100 : w1.cell? ⟨w.heap.size, 0, none⟩ = some (.bool true) := (blk_cell J0.out 0).trans rfl; have cw101 : w1.cell? ⟨w.heap.size, 1, none⟩ = some (.func (.func fn) #[] #[]) := (blk_cell J0.out 1).trans rfl; have cw110 : w1.cell? ⟨w.heap.size + 1, 0, none⟩ = some (.bool a.f0) := (blk_cell J1.out 0).trans rfl; have cw111 : w1.cell? ⟨w.heap.size + 1, 1, none⟩ = some (.string a.f1) := (blk_cell J1.out 1).trans rfl; have cw112 : w1.cell? ⟨w.heap.size + 1, 2, none⟩ = some (.string a.f2) := (blk_cell J1.out 2).trans rfl; have cw120 : w1.cell? ⟨w.heap.size + 1 + 1, 0, none⟩ = some (.bool b.f0) := (blk_cell J2.out 0).trans rfl; have cw121 : w1.cell? ⟨w.heap.size + 1 + 1, 1, none⟩ = some (.string b.f1) := (blk_cell J2.out 1).trans rfl; have cw122 : w1.cell? ⟨w.heap.size + 1 + 1, 2, none⟩ = some (.string b.f2) := (blk_cell J2.out 2).trans rfl; have cw130 : w1.cell? ⟨w.heap.size + 1 + 1 + 1, 0, none⟩ = some (.bool false) := (blk_cell J3.out 0).trans rfl; have cw131 : w1.cell? ⟨w.heap.size + 1 + 1 + 1, 1, none⟩ = some (.string ⟨#[]⟩) := (blk_cell J3.out 1).trans rfl; have cw132 : w1.cell? ⟨w.heap.size + 1 + 1 + 1, 2, none⟩ = some (.string ⟨#[]⟩) := (blk_cell J3.out 2).trans rfl; have fw10 := blk_frozen J3.out 0; have fw11 := blk_frozen J3.out 1; have fw12 := blk_frozen J3.out 2))
  have Q1 := Aside0.mk (blk_put (cs := #[.bool false, .string ⟨#[]⟩, .string ⟨#[]⟩]) (blk_put L3.out 0 (.bool false) rfl) 1 (.string ⟨#[]⟩) rfl)
  have Q2 := Aside0.mk (blk_put (cs := #[.bool false, .string ⟨#[]⟩, .string ⟨#[]⟩]) Q1.out 2 (.string ⟨#[]⟩) rfl)
  have Q5 := Aside0.mk (((HB2.out.setCell (p := ⟨w.heap.size + 1 + 1 + 1, 0, none⟩) (by show w.heap.size ≤ w.heap.size + 1 + 1 + 1; omega) (.bool false)).setCell (p := ⟨w.heap.size + 1 + 1 + 1, 1, none⟩) (by show w.heap.size ≤ w.heap.size + 1 + 1 + 1; omega) (.string ⟨#[]⟩)).setCell (p := ⟨w.heap.size + 1 + 1 + 1, 2, none⟩) (by show w.heap.size ≤ w.heap.size + 1 + 1 + 1; omega) (.string ⟨#[]⟩))
  refine bodyPost_ret (results_ct rfl _ _ (w.heap.size + 1 + 1 + 1) 23 #[.bool false, .string ⟨#[]⟩, .string ⟨#[]⟩] (0, 0) _ rfl Q2.out Tryz.underlying23 rfl (by kernel_rfl)) rfl ?_
  exact ⟨rfl, Q5.out⟩
set_option maxRecDepth 100000 in
set_option maxHeartbeats 2000000 in
theorem run_t3 (fn : FuncId) (z : Bool) (a b : S23) (w : World) (hT : Tabs w) (hva : vld a = true) (hvb : vld b = true) (hz : z = true) (h0 : (b.f1.toList == [48]) = false) (d0 : decide (140 < (a.f1.size : Int)) = false) (d1 : decide (140 < (a.f2.size : Int)) = false) (d2 : decide (140 < (b.f1.size : Int)) = false) (d3 : decide (140 < (b.f2.size : Int)) = true) :
    Calls Tryz.prog 72 #[.agg #[.bool z, .func (.func fn) #[] #[]], .agg #[.bool a.f0, .string a.f1, .string a.f2], .agg #[.bool b.f0, .string b.f1, .string b.f2]] w fun e w' => e = .returned (.tuple #[.agg #[.bool false, .string ⟨#[]⟩, .string ⟨#[]⟩], .int .i64 2]) ∧ Below w.heap.size w w' := by
  subst hz
  have hu23 := Tryz.underlying23
  have hu80 := Tryz.underlying80
  have HT := Aside0.mk hT
  have HVa := Aside0.mk hva
  clear hva
  have HVb := Aside0.mk hvb
  clear hvb
  obtain ⟨W0, hW0⟩ : ∃ W0, (((w.alloc (.cells #[.bool true, .func (.func fn) #[] #[]] 80)).alloc (.cells #[.bool a.f0, .string a.f1, .string a.f2] 23)).alloc (.cells #[.bool b.f0, .string b.f1, .string b.f2] 23)).alloc (.cells #[.bool false, .string ⟨#[]⟩, .string ⟨#[]⟩] 23) = W0 := ⟨_, rfl⟩
  have k0 : W0.heap[w.heap.size]? = some (.cells #[.bool true, .func (.func fn) #[] #[]] 80 (0, 0)) := by rw [← hW0]; exact blk_alloc (blk_alloc (blk_alloc (blk_new _ _) _) _) _
  have k1 : W0.heap[w.heap.size + 1]? = some (.cells #[.bool a.f0, .string a.f1, .string a.f2] 23 (0, 0)) := by rw [← hW0]; exact blk_alloc (blk_alloc (by have := blk_new (w.alloc (.cells #[.bool true, .func (.func fn) #[] #[]] 80)) (.cells #[.bool a.f0, .string a.f1, .string a.f2] 23); simpa using this) _) _
  have k2 : W0.heap[w.heap.size + 1 + 1]? = some (.cells #[.bool b.f0, .string b.f1, .string b.f2] 23 (0, 0)) := by rw [← hW0]; exact blk_alloc (by have := blk_new ((w.alloc (.cells #[.bool true, .func (.func fn) #[] #[]] 80)).alloc (.cells #[.bool a.f0, .string a.f1, .string a.f2] 23)) (.cells #[.bool b.f0, .string b.f1, .string b.f2] 23); simpa using this) _
  have k3 : W0.heap[w.heap.size + 1 + 1 + 1]? = some (.cells #[.bool false, .string ⟨#[]⟩, .string ⟨#[]⟩] 23 (0, 0)) := by rw [← hW0]; have := blk_new (((w.alloc (.cells #[.bool true, .func (.func fn) #[] #[]] 80)).alloc (.cells #[.bool a.f0, .string a.f1, .string a.f2] 23)).alloc (.cells #[.bool b.f0, .string b.f1, .string b.f2] 23)) (.cells #[.bool false, .string ⟨#[]⟩, .string ⟨#[]⟩] 23); simpa using this
  have hbel : Below w.heap.size w W0 := by rw [← hW0]; exact below_alloc (below_alloc (below_alloc (below_alloc (Below.refl _ _) _) _) _) _
  have HB0 := Aside0.mk hbel
  have HP := Aside0.mk (valid_calls a W0 (HT.out.below hbel))
  have K0 := Aside0.mk k0
  have K1 := Aside0.mk k1
  have K2 := Aside0.mk k2
  have K3 := Aside0.mk k3
  have HW := Aside0.mk hW0
  clear k0 k1 k2 k3 hbel hW0 hT
  go_enter Tryz.func72, Tryz.ntmps72
  go_wp2_with (first
    | (have _ := HB1.out; go_at_call 21; refine (valid_calls b _ (HT.out.below HB1.out)).mono ?_; rintro e w2 ⟨rfl, hb⟩; rw [HVb.out]; have HB2 := Aside0.mk (below_step HB1.out hb); have L0 := Aside0.mk (blk_below J0.out hb); have L1 := Aside0.mk (blk_below J1.out hb); have L2 := Aside0.mk (blk_below J2.out hb); have L3 := Aside0.mk (blk_below J3.out hb); clear hb; have cw200 : w2.cell? ⟨w.heap.size, 0, none⟩ = some (.bool true) := (blk_cell L0.out 0).trans rfl; have cw201 : w2.cell? ⟨w.heap.size, 1, none⟩ = some (.func (.func fn) #[] #[]) := (blk_cell L0.out 1).trans rfl; have cw210 : w2.cell? ⟨w.heap.size + 1, 0, none⟩ = some (.bool a.f0) := (blk_cell L1.out 0).trans rfl; have cw211 : w2.cell? ⟨w.heap.size + 1, 1, none⟩ = some (.string a.f1) := (blk_cell L1.out 1).trans rfl; have cw212 : w2.cell? ⟨w.heap.size + 1, 2, none⟩ = some (.string a.f2) := (blk_cell L1.out 2).trans rfl; have cw220 : w2.cell? ⟨w.heap.size + 1 + 1, 0, none⟩ = some (.bool b.f0) := (blk_cell L2.out 0).trans rfl; have cw221 : w2.cell? ⟨w.heap.size + 1 + 1, 1, none⟩ = some (.string b.f1) := (blk_cell L2.out 1).trans rfl; have cw222 : w2.cell? ⟨w.heap.size + 1 + 1, 2, none⟩ = some (.string b.f2) := (blk_cell L2.out 2).trans rfl; have cw230 : w2.cell? ⟨w.heap.size + 1 + 1 + 1, 0, none⟩ = some (.bool false) := (blk_cell L3.out 0).trans rfl; have cw231 : w2.cell? ⟨w.heap.size + 1 + 1 + 1, 1, none⟩ = some (.string ⟨#[]⟩) := (blk_cell L3.out 1).trans rfl; have cw232 : w2.cell? ⟨w.heap.size + 1 + 1 + 1, 2, none⟩ = some (.string ⟨#[]⟩) := (blk_cell L3.out 2).trans rfl; have fw20 := blk_frozen L3.out 0; have fw21 := blk_frozen L3.out 1; have fw22 := blk_frozen L3.out 2)
    | (go_at_call 21; rw [HW.out]; refine HP.out.mono ?_; rintro e w1 ⟨rfl, hb⟩; rw [HVa.out]; have HB1 := Aside0.mk (below_step HB0.out hb); have J0 := Aside0.mk (blk_below K0.out hb); have J1 := Aside0.mk (blk_below K1.out hb); have J2 := Aside0.mk (blk_below K2.out hb); have J3 := Aside0.mk (blk_below K3.out hb); clear hb; clear HP; have cw100 : w1.cell? ⟨w.heap.size, 0, none⟩ = some (.bool true) := (blk_cell J0.out 0).trans rfl; have cw101 : w1.cell? ⟨w.heap.size, 1, none⟩ = some (.func (.func fn) #[] #[]) := (blk_cell J0.out 1).trans rfl; have cw110 : w1.cell? ⟨w.heap.size + 1, 0, none⟩ = some (.bool a.f0) := (blk_cell J1.out 0).trans rfl; have cw111 : w1.cell? ⟨w.heap.size + 1, 1, none⟩ = some (.string a.f1) := (blk_cell J1.out 1).trans rfl; have cw112 : w1.cell? ⟨w.heap.size + 1, 2, none⟩ = some (.string a.f2) := (blk_cell J1.out 2).trans rfl; have cw120 : w1.cell? ⟨w.heap.size + 1 + 1, 0, none⟩ = some (.bool b.f0) := (blk_cell J2.out 0).trans rfl; have cw121 : w1.cell? ⟨w.heap.size + 1 + 1, 1, none⟩ = some (.string b.f1) := (blk_cell J2.out 1).trans rfl; have cw122 : w1.cell? ⟨w.heap.size + 1 + 1, 2, none⟩ = some (.string b.f2) := (blk_cell J2.out 2).trans rfl; have cw130 : w1.cell? ⟨w.heap.size + 1 + 1 + 1, 0, none⟩ = some (.bool false) := (blk_cell J3.out 0).trans rfl; have cw131 : w1.cell? ⟨w.heap.size + 1 + 1 + 1, 1, none⟩ = some (.string ⟨#[]⟩) := (blk_cell J3.out 1).trans rfl; have cw132 : w1.cell? ⟨w.heap.size + 1 + 1 + 1, 2, none⟩ = some (.string ⟨#[]⟩) := (blk_cell J3.out 2).trans rfl; have fw10 := blk_frozen J3.out 0; have fw11 := blk_frozen J3.out 1; have fw12 := blk_frozen J3.out 2))
  have Q1 := Aside0.mk (blk_put (cs := #[.bool false, .string ⟨#[]⟩, .string ⟨#[]⟩]) (blk_put L3.out 0 (.bool false) rfl) 1 (.string ⟨#[]⟩) rfl)
  have Q2 := Aside0.mk (blk_put (cs := #[.bool false, .string ⟨#[]⟩, .string ⟨#[]⟩]) Q1.out 2 (.string ⟨#[]⟩) rfl)
  have Q5 := Aside0.mk (((HB2.out.setCell (p := ⟨w.heap.size + 1 + 1 + 1, 0, none⟩) (by show w.heap.size ≤ w.heap.size + 1 + 1 + 1; omega) (.bool false)).setCell (p := ⟨w.heap.size + 1 + 1 + 1, 1, none⟩) (by show w.heap.size ≤ w.heap.size + 1 + 1 + 1; omega) (.string ⟨#[]⟩)).setCell (p := ⟨w.heap.size + 1 + 1 + 1, 2, none⟩) (by show w.heap.size ≤ w.heap.size + 1 + 1 + 1; omega) (.string ⟨#[]⟩))
  refine bodyPost_ret (results_ct rfl _ _ (w.heap.size + 1 + 1 + 1) 23 #[.bool false, .string ⟨#[]⟩, .string ⟨#[]⟩] (0, 0) _ rfl Q2.out Tryz.underlying23 rfl (by kernel_rfl)) rfl ?_
  exact ⟨rfl, Q5.out⟩
set_option maxRecDepth 100000 in
set_option maxHeartbeats 2000000 in
theorem run_t4 (fn : FuncId) (z : Bool) (a b : S23) (w : World) (hT : Tabs w) (hva : vld a = true) (hvb : vld b = true) (hz : z = true) (h0 : (b.f1.toList == [48]) = false) (d0 : decide (140 < (a.f1.size : Int)) = false) (d1 : decide (140 < (a.f2.size : Int)) = false) (d2 : decide (140 < (b.f1.size : Int)) = false) (d3 : decide (140 < (b.f2.size : Int)) = false) (o : Option R4) (hA : Ans fn a b o) (r1 : Bool) (r2 r3 : ByteArray) (r4 : Int) (h : o = some (r1, r2, r3, r4)) (hf : ∀ args w, (callFunc fn args).run Tryz.prog w = .ok (.enter fn args) w) :
    Calls Tryz.prog 72 #[.agg #[.bool z, .func (.func fn) #[] #[]], .agg #[.bool a.f0, .string a.f1, .string a.f2], .agg #[.bool b.f0, .string b.f1, .string b.f2]] w fun e w' => e = .returned (.tuple #[.agg #[.bool r1, .string r2, .string r3], .int .i64 r4]) ∧ Below w.heap.size w w' := by
  subst hz
  have hu23 := Tryz.underlying23
  have hu80 := Tryz.underlying80
  have HT := Aside0.mk hT
  have HA := Aside0.mk (hA r1 r2 r3 r4)
  have HO := Aside0.mk h
  clear hA h
  have HVa := Aside0.mk hva
  clear hva
  have HVb := Aside0.mk hvb
  clear hvb
  obtain ⟨W0, hW0⟩ : ∃ W0, (((w.alloc (.cells #[.bool true, .func (.func fn) #[] #[]] 80)).alloc (.cells #[.bool a.f0, .string a.f1, .string a.f2] 23)).alloc (.cells #[.bool b.f0, .string b.f1, .string b.f2] 23)).alloc (.cells #[.bool false, .string ⟨#[]⟩, .string ⟨#[]⟩] 23) = W0 := ⟨_, rfl⟩
  have k0 : W0.heap[w.heap.size]? = some (.cells #[.bool true, .func (.func fn) #[] #[]] 80 (0, 0)) := by rw [← hW0]; exact blk_alloc (blk_alloc (blk_alloc (blk_new _ _) _) _) _
  have k1 : W0.heap[w.heap.size + 1]? = some (.cells #[.bool a.f0, .string a.f1, .string a.f2] 23 (0, 0)) := by rw [← hW0]; exact blk_alloc (blk_alloc (by have := blk_new (w.alloc (.cells #[.bool true, .func (.func fn) #[] #[]] 80)) (.cells #[.bool a.f0, .string a.f1, .string a.f2] 23); simpa using this) _) _
  have k2 : W0.heap[w.heap.size + 1 + 1]? = some (.cells #[.bool b.f0, .string b.f1, .string b.f2] 23 (0, 0)) := by rw [← hW0]; exact blk_alloc (by have := blk_new ((w.alloc (.cells #[.bool true, .func (.func fn) #[] #[]] 80)).alloc (.cells #[.bool a.f0, .string a.f1, .string a.f2] 23)) (.cells #[.bool b.f0, .string b.f1, .string b.f2] 23); simpa using this) _
  have k3 : W0.heap[w.heap.size + 1 + 1 + 1]? = some (.cells #[.bool false, .string ⟨#[]⟩, .string ⟨#[]⟩] 23 (0, 0)) := by rw [← hW0]; have := blk_new (((w.alloc (.cells #[.bool true, .func (.func fn) #[] #[]] 80)).alloc (.cells #[.bool a.f0, .string a.f1, .string a.f2] 23)).alloc (.cells #[.bool b.f0, .string b.f1, .string b.f2] 23)) (.cells #[.bool false, .string ⟨#[]⟩, .string ⟨#[]⟩] 23); simpa using this
  have hbel : Below w.heap.size w W0 := by rw [← hW0]; exact below_alloc (below_alloc (below_alloc (below_alloc (Below.refl _ _) _) _) _) _
  have HB0 := Aside0.mk hbel
  have HP := Aside0.mk (valid_calls a W0 (HT.out.below hbel))
  have K0 := Aside0.mk k0
  have K1 := Aside0.mk k1
  have K2 := Aside0.mk k2
  have K3 := Aside0.mk k3
  have HW := Aside0.mk hW0
  clear k0 k1 k2 k3 hbel hW0 hT
  go_enter Tryz.func72, Tryz.ntmps72
  go_wp2_with (first
    | (have _ := HB2.out; go_at_fn fn; refine (HA.out _ HO.out (HT.out.below HB2.out)).mono ?_; rintro e w3 ⟨rfl, hb⟩; have HB3 := Aside0.mk (below_step HB2.out hb); have M0 := Aside0.mk (blk_below L0.out hb); have M1 := Aside0.mk (blk_below L1.out hb); have M2 := Aside0.mk (blk_below L2.out hb); have M3 := Aside0.mk (blk_below L3.out hb); clear hb; have cw300 : w3.cell? ⟨w.heap.size, 0, none⟩ = some (.bool true) := (blk_cell M0.out 0).trans rfl; have cw301 : w3.cell? ⟨w.heap.size, 1, none⟩ = some (.func (.func fn) #[] #[]) := (blk_cell M0.out 1).trans rfl; have cw310 : w3.cell? ⟨w.heap.size + 1, 0, none⟩ = some (.bool a.f0) := (blk_cell M1.out 0).trans rfl; have cw311 : w3.cell? ⟨w.heap.size + 1, 1, none⟩ = some (.string a.f1) := (blk_cell M1.out 1).trans rfl; have cw312 : w3.cell? ⟨w.heap.size + 1, 2, none⟩ = some (.string a.f2) := (blk_cell M1.out 2).trans rfl; have cw320 : w3.cell? ⟨w.heap.size + 1 + 1, 0, none⟩ = some (.bool b.f0) := (blk_cell M2.out 0).trans rfl; have cw321 : w3.cell? ⟨w.heap.size + 1 + 1, 1, none⟩ = some (.string b.f1) := (blk_cell M2.out 1).trans rfl; have cw322 : w3.cell? ⟨w.heap.size + 1 + 1, 2, none⟩ = some (.string b.f2) := (blk_cell M2.out 2).trans rfl; have cw330 : w3.cell? ⟨w.heap.size + 1 + 1 + 1, 0, none⟩ = some (.bool false) := (blk_cell M3.out 0).trans rfl; have cw331 : w3.cell? ⟨w.heap.size + 1 + 1 + 1, 1, none⟩ = some (.string ⟨#[]⟩) := (blk_cell M3.out 1).trans rfl; have cw332 : w3.cell? ⟨w.heap.size + 1 + 1 + 1, 2, none⟩ = some (.string ⟨#[]⟩) := (blk_cell M3.out 2).trans rfl; have fw30 := blk_frozen M3.out 0; have fw31 := blk_frozen M3.out 1; have fw32 := blk_frozen M3.out 2)
    | (have _ := HB1.out; go_at_call 21; refine (valid_calls b _ (HT.out.below HB1.out)).mono ?_; rintro e w2 ⟨rfl, hb⟩; rw [HVb.out]; have HB2 := Aside0.mk (below_step HB1.out hb); have L0 := Aside0.mk (blk_below J0.out hb); have L1 := Aside0.mk (blk_below J1.out hb); have L2 := Aside0.mk (blk_below J2.out hb); have L3 := Aside0.mk (blk_below J3.out hb); clear hb; have cw200 : w2.cell? ⟨w.heap.size, 0, none⟩ = some (.bool true) := (blk_cell L0.out 0).trans rfl; have cw201 : w2.cell? ⟨w.heap.size, 1, none⟩ = some (.func (.func fn) #[] #[]) := (blk_cell L0.out 1).trans rfl; have cw210 : w2.cell? ⟨w.heap.size + 1, 0, none⟩ = some (.bool a.f0) := (blk_cell L1.out 0).trans rfl; have cw211 : w2.cell? ⟨w.heap.size + 1, 1, none⟩ = some (.string a.f1) := (blk_cell L1.out 1).trans rfl; have cw212 : w2.cell? ⟨w.heap.size + 1, 2, none⟩ = some (.string a.f2) := (blk_cell L1.out 2).trans rfl; have cw220 : w2.cell? ⟨w.heap.size + 1 + 1, 0, none⟩ = some (.bool b.f0) := (blk_cell L2.out 0).trans rfl; have cw221 : w2.cell? ⟨w.heap.size + 1 + 1, 1, none⟩ = some (.string b.f1) := (blk_cell L2.out 1).trans rfl; have cw222 : w2.cell? ⟨w.heap.size + 1 + 1, 2, none⟩ = some (.string b.f2) := (blk_cell L2.out 2).trans rfl; have cw230 : w2.cell? ⟨w.heap.size + 1 + 1 + 1, 0, none⟩ = some (.bool false) := (blk_cell L3.out 0).trans rfl; have cw231 : w2.cell? ⟨w.heap.size + 1 + 1 + 1, 1, none⟩ = some (.string ⟨#[]⟩) := (blk_cell L3.out 1).trans rfl; have cw232 : w2.cell? ⟨w.heap.size + 1 + 1 + 1, 2, none⟩ = some (.string ⟨#[]⟩) := (blk_cell L3.out 2).trans rfl; have fw20 := blk_frozen L3.out 0; have fw21 := blk_frozen L3.out 1; have fw22 := blk_frozen L3.out 2)
    | (go_at_call 21; rw [HW.out]; refine HP.out.mono ?_; rintro e w1 ⟨rfl, hb⟩; rw [HVa.out]; have HB1 := Aside0.mk (below_step HB0.out hb); have J0 := Aside0.mk (blk_below K0.out hb); have J1 := Aside0.mk (blk_below K1.out hb); have J2 := Aside0.mk (blk_below K2.out hb); have J3 := Aside0.mk (blk_below K3.out hb); clear hb; clear HP; have cw100 : w1.cell? ⟨w.heap.size, 0, none⟩ = some (.bool true) := (blk_cell J0.out 0).trans rfl; have cw101 : w1.cell? ⟨w.heap.size, 1, none⟩ = some (.func (.func fn) #[] #[]) := (blk_cell J0.out 1).trans rfl; have cw110 : w1.cell? ⟨w.heap.size + 1, 0, none⟩ = some (.bool a.f0) := (blk_cell J1.out 0).trans rfl; have cw111 : w1.cell? ⟨w.heap.size + 1, 1, none⟩ = some (.string a.f1) := (blk_cell J1.out 1).trans rfl; have cw112 : w1.cell? ⟨w.heap.size + 1, 2, none⟩ = some (.string a.f2) := (blk_cell J1.out 2).trans rfl; have cw120 : w1.cell? ⟨w.heap.size + 1 + 1, 0, none⟩ = some (.bool b.f0) := (blk_cell J2.out 0).trans rfl; have cw121 : w1.cell? ⟨w.heap.size + 1 + 1, 1, none⟩ = some (.string b.f1) := (blk_cell J2.out 1).trans rfl; have cw122 : w1.cell? ⟨w.heap.size + 1 + 1, 2, none⟩ = some (.string b.f2) := (blk_cell J2.out 2).trans rfl; have cw130 : w1.cell? ⟨w.heap.size + 1 + 1 + 1, 0, none⟩ = some (.bool false) := (blk_cell J3.out 0).trans rfl; have cw131 : w1.cell? ⟨w.heap.size + 1 + 1 + 1, 1, none⟩ = some (.string ⟨#[]⟩) := (blk_cell J3.out 1).trans rfl; have cw132 : w1.cell? ⟨w.heap.size + 1 + 1 + 1, 2, none⟩ = some (.string ⟨#[]⟩) := (blk_cell J3.out 2).trans rfl; have fw10 := blk_frozen J3.out 0; have fw11 := blk_frozen J3.out 1; have fw12 := blk_frozen J3.out 2))
  have Q1 := Aside0.mk (blk_put (cs := #[.bool r1, .string ⟨#[]⟩, .string ⟨#[]⟩]) (blk_put M3.out 0 (.bool r1) rfl) 1 (.string r2) rfl)
  have Q2 := Aside0.mk (blk_put (cs := #[.bool r1, .string r2, .string ⟨#[]⟩]) Q1.out 2 (.string r3) rfl)
  have Q5 := Aside0.mk (((HB3.out.setCell (p := ⟨w.heap.size + 1 + 1 + 1, 0, none⟩) (by show w.heap.size ≤ w.heap.size + 1 + 1 + 1; omega) (.bool r1)).setCell (p := ⟨w.heap.size + 1 + 1 + 1, 1, none⟩) (by show w.heap.size ≤ w.heap.size + 1 + 1 + 1; omega) (.string r2)).setCell (p := ⟨w.heap.size + 1 + 1 + 1, 2, none⟩) (by show w.heap.size ≤ w.heap.size + 1 + 1 + 1; omega) (.string r3))
  refine bodyPost_ret (results_ct rfl _ _ (w.heap.size + 1 + 1 + 1) 23 #[.bool r1, .string r2, .string r3] (0, 0) _ rfl Q2.out Tryz.underlying23 rfl (by kernel_rfl)) rfl ?_
  exact ⟨rfl, Q5.out⟩
theorem run_calls (fn : FuncId) (z : Bool) (a b : S23) (w : World) (hT : Tabs w) (o : Option R4) (hA : Ans fn a b o) (r1 : Bool) (r2 r3 : ByteArray) (r4 : Int) (h : runF z a b o = some (r1, r2, r3, r4)) (hf : ∀ args w, (callFunc fn args).run Tryz.prog w = .ok (.enter fn args) w) :
    Calls Tryz.prog 72 #[.agg #[.bool z, .func (.func fn) #[] #[]], .agg #[.bool a.f0, .string a.f1, .string a.f2], .agg #[.bool b.f0, .string b.f1, .string b.f2]] w fun e w' => e = .returned (.tuple #[.agg #[.bool r1, .string r2, .string r3], .int .i64 r4]) ∧ Below w.heap.size w w' := by
  unfold runF at h
  by_cases hva : vld a = true
  · rw [if_pos hva] at h
    by_cases hvb : vld b = true
    · rw [if_pos hvb] at h
      by_cases hz : (z && (b.f1.toList == [48])) = true
      · rw [if_pos hz] at h
        cases h
        rw [Bool.and_eq_true] at hz
        exact run_z fn z a b w hT hva hvb hz.1 hz.2
      · rw [if_neg hz] at h
        have hz2 : z = false ∨ (z = true ∧ (b.f1.toList == [48]) = false) := by
          cases z with
          | false => exact .inl rfl
          | true => exact .inr ⟨rfl, by simpa using hz⟩
        have D : ∀ s : ByteArray, s.size ≤ 140 → decide (140 < (s.size : Int)) = false := fun s h => decide_eq_false (by omega)
        have E : ∀ s : ByteArray, ¬ s.size ≤ 140 → decide (140 < (s.size : Int)) = true := fun s h => decide_eq_true (by omega)
        by_cases h0 : a.f1.size ≤ 140
        · rw [if_pos h0] at h
          by_cases h1 : a.f2.size ≤ 140
          · rw [if_pos h1] at h
            by_cases h2 : b.f1.size ≤ 140
            · rw [if_pos h2] at h
              by_cases h3 : b.f2.size ≤ 140
              · rw [if_pos h3] at h
                rcases hz2 with hz2 | ⟨hz2, hz3⟩
                · exact run_f4 fn z a b w hT hva hvb hz2 (D _ h0) (D _ h1) (D _ h2) (D _ h3) o hA r1 r2 r3 r4 h hf
                · exact run_t4 fn z a b w hT hva hvb hz2 hz3 (D _ h0) (D _ h1) (D _ h2) (D _ h3) o hA r1 r2 r3 r4 h hf
              · rw [if_neg h3] at h
                cases h
                rcases hz2 with hz2 | ⟨hz2, hz3⟩
                · exact run_f3 fn z a b w hT hva hvb hz2 (D _ h0) (D _ h1) (D _ h2) (E _ h3)
                · exact run_t3 fn z a b w hT hva hvb hz2 hz3 (D _ h0) (D _ h1) (D _ h2) (E _ h3)
            · rw [if_neg h2] at h
              cases h
              rcases hz2 with hz2 | ⟨hz2, hz3⟩
              · exact run_f2 fn z a b w hT hva hvb hz2 (D _ h0) (D _ h1) (E _ h2)
              · exact run_t2 fn z a b w hT hva hvb hz2 hz3 (D _ h0) (D _ h1) (E _ h2)
          · rw [if_neg h1] at h
            cases h
            rcases hz2 with hz2 | ⟨hz2, hz3⟩
            · exact run_f1 fn z a b w hT hva hvb hz2 (D _ h0) (E _ h1)
            · exact run_t1 fn z a b w hT hva hvb hz2 hz3 (D _ h0) (E _ h1)
        · rw [if_neg h0] at h
          cases h
          rcases hz2 with hz2 | ⟨hz2, hz3⟩
          · exact run_f0 fn z a b w hT hva hvb hz2 (E _ h0)
          · exact run_t0 fn z a b w hT hva hvb hz2 hz3 (E _ h0)
    · rw [if_neg hvb] at h
      cases h
      exact run_b fn z a b w hT hva (Bool.eq_false_iff.2 hvb)
  · rw [if_neg hva] at h
    cases h
    exact run_a fn z a b w hT (Bool.eq_false_iff.2 hva)
end Go.Proofs.YtfaibifilpfikaaGreatDoor.N14
