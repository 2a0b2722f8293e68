/- The statement RatioValid walked, given what its calls answer; conditions: Go's tables. -/
import Derived.Test.YtfaibifilpfikaaGreatDoorF0
import Derived.Test.YtfaibifilpfikaaGreatDoorWp
import Derived.Test.YtfaibifilpfikaaGreatDoorX7
namespace Go.Proofs.YtfaibifilpfikaaGreatDoor.F7
open Go.RowKit Go.Shelf Go.Lib Go.Proofs.YtfaibifilpfikaaGreatDoorW.PrintWords Go.Proofs.YtfaibifilpfikaaGreatDoorW.PrintLast Go.Proofs.YtfaibifilpfikaaGreatDoorW.PrintMore Go.Proofs.YtfaibifilpfikaaGreatDoor.A Go.Proofs.YtfaibifilpfikaaGreatDoor.N14 Go.Proofs.YtfaibifilpfikaaGreatDoor.N15 Go.Proofs.YtfaibifilpfikaaGreatDoor.N16 Go.Proofs.YtfaibifilpfikaaGreatDoor.N18 Go.Proofs.YtfaibifilpfikaaGreatDoor.X2 Go.Proofs.YtfaibifilpfikaaGreatDoor.X7 Go.Proofs.YtfaibifilpfikaaGreatDoor.C Go.Proofs.YtfaibifilpfikaaGreatDoor.D Go.Proofs.YtfaibifilpfikaaGreatDoor.F0
set_option linter.unusedVariables false
set_option linter.unusedSimpArgs false
attribute [local go_sem high] eqA23
set_option maxRecDepth 100000 in
set_option maxHeartbeats 8000000 in
theorem valid_long (sa sb : Bool) (na da nb db : ByteArray) (raw : Int) (hH : customhouselaw05_head.f = some true) (hS : customhouselaw05_short.f 200 160 [⟨sa, na, da⟩, ⟨sb, nb, db⟩] = some false) (w : World) (hT : Tabs w) :
    Calls Tryz.prog 7 #[.agg #[.bool sa, .string na, .string da], .agg #[.bool sb, .string nb, .string db], .int .u8 raw] w fun e w' => e = .returned (.bool true) ∧ Below w.heap.size w w' := by
  have HT := Aside0.mk hT
  clear hT
  have hu23 := Tryz.underlying23
  obtain ⟨W0, hW0⟩ : ∃ W0, ((w.alloc (.cells #[.bool sa, .string na, .string da] 23)).alloc (.cells #[.bool sb, .string nb, .string db] 23)) = W0 := ⟨_, rfl⟩
  have b0 : W0.heap[w.heap.size]? = some (.cells #[.bool sa, .string na, .string da] 23 (0, 0)) := by rw [← hW0]; exact blk_alloc (blk_new w (.cells #[.bool sa, .string na, .string da] 23)) _
  have Ba_0 := Aside0.mk b0
  clear b0
  have b1 : W0.heap[w.heap.size + 1]? = some (.cells #[.bool sb, .string nb, .string db] 23 (0, 0)) := by rw [← hW0]; exact (by have := blk_new (w.alloc (.cells #[.bool sa, .string na, .string da] 23)) (.cells #[.bool sb, .string nb, .string db] 23); simpa using this)
  have Bb_0 := Aside0.mk b1
  clear b1
  have HB0 : Aside0 (Below w.heap.size w W0) := Aside0.mk (by rw [← hW0]; exact below_alloc (below_alloc (Below.refl _ _) _) _)
  have HW := Aside0.mk hW0
  clear hW0
  have HH := Aside0.mk hH
  have HS := Aside0.mk hS
  clear hH hS
  go_enter Tryz.func7, Tryz.ntmps7
  go_wp2_with (first
    | (go_at_call 17; rw [HW.out]; refine (customhouselaw05_head.calls true _ HH.out (HT.out.below (HB0.out))).mono ?_; rintro e w1 ⟨rfl, hb⟩; have HB1 := Aside0.mk (below_step (HB0.out) hb); have Ba_1 := Aside0.mk (blk_below (Ba_0.out) hb); clear Ba_0; have Bb_1 := Aside0.mk (blk_below (Bb_0.out) hb); clear Bb_0; clear hb HB0; have za0_1 : w1.cell? ⟨w.heap.size, 0, none⟩ = some (.bool sa) := (blk_cell (Ba_1.out) 0).trans rfl; have za1_1 : w1.cell? ⟨w.heap.size, 1, none⟩ = some (.string na) := (blk_cell (Ba_1.out) 1).trans rfl; have za2_1 : w1.cell? ⟨w.heap.size, 2, none⟩ = some (.string da) := (blk_cell (Ba_1.out) 2).trans rfl; have zb0_1 : w1.cell? ⟨w.heap.size + 1, 0, none⟩ = some (.bool sb) := (blk_cell (Bb_1.out) 0).trans rfl; have zb1_1 : w1.cell? ⟨w.heap.size + 1, 1, none⟩ = some (.string nb) := (blk_cell (Bb_1.out) 1).trans rfl; have zb2_1 : w1.cell? ⟨w.heap.size + 1, 2, none⟩ = some (.string db) := (blk_cell (Bb_1.out) 2).trans rfl)
    | (go_at_call 20; refine (customhouselaw05_short.calls 200 160 (some ⟨w1.heap.size, 0, none⟩) 2 [⟨sa, na, da⟩, ⟨sb, nb, db⟩] false _ (lit23 w1 [⟨sa, na, da⟩, ⟨sb, nb, db⟩] (by simp) _ rfl) (Nat.le_refl _) HS.out).mono ?_; rintro e w2 ⟨rfl, hb0⟩; have hb := hb0.below; clear hb0; have HB2 := Aside0.mk (below_step (below_alloc (HB1.out) _) hb); have Ba_2 := Aside0.mk (blk_below (blk_alloc (Ba_1.out) _) hb); clear Ba_1; have Bb_2 := Aside0.mk (blk_below (blk_alloc (Bb_1.out) _) hb); clear Bb_1; clear hb HB1; clear za0_1 za1_1 za2_1 zb0_1 zb1_1 zb2_1))
  go_ret
  exact ⟨rfl, HB2.out⟩
set_option maxRecDepth 100000 in
set_option maxHeartbeats 8000000 in
theorem valid_badA (sa sb : Bool) (na da nb db : ByteArray) (raw : Int) (hH : customhouselaw05_head.f = some true) (hS : customhouselaw05_short.f 200 160 [⟨sa, na, da⟩, ⟨sb, nb, db⟩] = some true) (r1 : Bool) (r2 r3 : ByteArray) (r4 : Int) (i : Nat) (hi0 : (0 ≤ (i : Int)) = True) (hi1 : ((i : Int) < 4) = True) (F : FuncId) (hF : (#[.func (.func 25) #[] #[], .func (.func 28) #[] #[], .func (.func 30) #[] #[], .func (.func 32) #[] #[]] : Array Value)[i]? = some (.func (.func F) #[] #[])) (hent : ∀ args w, (callFunc F args).run Tryz.prog w = .ok (.enter F args) w) (hr : (wrap64 raw).tmod 4 = (i : Int)) (hC : ∀ W, Tabs W → Calls Tryz.prog F #[.agg #[.bool sa, .string na, .string da], .agg #[.bool sb, .string nb, .string db]] W fun e w' => e = .returned (.tuple #[.agg #[.bool false, .string ⟨#[]⟩, .string ⟨#[]⟩], .int .i64 1]) ∧ Below W.heap.size W w') (hVA : ratio_Valid.f 1 sa na da = some false) (w : World) (hT : Tabs w) :
    Calls Tryz.prog 7 #[.agg #[.bool sa, .string na, .string da], .agg #[.bool sb, .string nb, .string db], .int .u8 raw] w fun e w' => e = .returned (.bool true) ∧ Below w.heap.size w w' := by
  have HT := Aside0.mk hT
  clear hT
  have hu23 := Tryz.underlying23
  obtain ⟨W0, hW0⟩ : ∃ W0, ((w.alloc (.cells #[.bool sa, .string na, .string da] 23)).alloc (.cells #[.bool sb, .string nb, .string db] 23)) = W0 := ⟨_, rfl⟩
  have b0 : W0.heap[w.heap.size]? = some (.cells #[.bool sa, .string na, .string da] 23 (0, 0)) := by rw [← hW0]; exact blk_alloc (blk_new w (.cells #[.bool sa, .string na, .string da] 23)) _
  have Ba_0 := Aside0.mk b0
  clear b0
  have b1 : W0.heap[w.heap.size + 1]? = some (.cells #[.bool sb, .string nb, .string db] 23 (0, 0)) := by rw [← hW0]; exact (by have := blk_new (w.alloc (.cells #[.bool sa, .string na, .string da] 23)) (.cells #[.bool sb, .string nb, .string db] 23); simpa using this)
  have Bb_0 := Aside0.mk b1
  clear b1
  have HB0 : Aside0 (Below w.heap.size w W0) := Aside0.mk (by rw [← hW0]; exact below_alloc (below_alloc (Below.refl _ _) _) _)
  have HW := Aside0.mk hW0
  clear hW0
  have HH := Aside0.mk hH
  have HS := Aside0.mk hS
  clear hH hS
  have HC := Aside0.mk hC
  clear hC
  have HF := Aside0.mk hF
  clear hF
  have HVA := Aside0.mk hVA
  clear hVA
  go_enter Tryz.func7, Tryz.ntmps7
  go_wp2_with (first
    | (go_at_call 17; rw [HW.out]; refine (customhouselaw05_head.calls true _ HH.out (HT.out.below (HB0.out))).mono ?_; rintro e w1 ⟨rfl, hb⟩; have HB1 := Aside0.mk (below_step (HB0.out) hb); have Ba_1 := Aside0.mk (blk_below (Ba_0.out) hb); clear Ba_0; have Bb_1 := Aside0.mk (blk_below (Bb_0.out) hb); clear Bb_0; clear hb HB0; have za0_1 : w1.cell? ⟨w.heap.size, 0, none⟩ = some (.bool sa) := (blk_cell (Ba_1.out) 0).trans rfl; have za1_1 : w1.cell? ⟨w.heap.size, 1, none⟩ = some (.string na) := (blk_cell (Ba_1.out) 1).trans rfl; have za2_1 : w1.cell? ⟨w.heap.size, 2, none⟩ = some (.string da) := (blk_cell (Ba_1.out) 2).trans rfl; have zb0_1 : w1.cell? ⟨w.heap.size + 1, 0, none⟩ = some (.bool sb) := (blk_cell (Bb_1.out) 0).trans rfl; have zb1_1 : w1.cell? ⟨w.heap.size + 1, 1, none⟩ = some (.string nb) := (blk_cell (Bb_1.out) 1).trans rfl; have zb2_1 : w1.cell? ⟨w.heap.size + 1, 2, none⟩ = some (.string db) := (blk_cell (Bb_1.out) 2).trans rfl)
    | (go_at_call 20; refine (customhouselaw05_short.calls 200 160 (some ⟨w1.heap.size, 0, none⟩) 2 [⟨sa, na, da⟩, ⟨sb, nb, db⟩] true _ (lit23 w1 [⟨sa, na, da⟩, ⟨sb, nb, db⟩] (by simp) _ rfl) (Nat.le_refl _) HS.out).mono ?_; rintro e w2 ⟨rfl, hb0⟩; have hb := hb0.below; clear hb0; have HB2 := Aside0.mk (below_step (below_alloc (HB1.out) _) hb); have Ba_2 := Aside0.mk (blk_below (blk_alloc (Ba_1.out) _) hb); clear Ba_1; have Bb_2 := Aside0.mk (blk_below (blk_alloc (Bb_1.out) _) hb); clear Bb_1; clear hb HB1; clear za0_1 za1_1 za2_1 zb0_1 zb1_1 zb2_1; have za0_2 : w2.cell? ⟨w.heap.size, 0, none⟩ = some (.bool sa) := (blk_cell (Ba_2.out) 0).trans rfl; have za1_2 : w2.cell? ⟨w.heap.size, 1, none⟩ = some (.string na) := (blk_cell (Ba_2.out) 1).trans rfl; have za2_2 : w2.cell? ⟨w.heap.size, 2, none⟩ = some (.string da) := (blk_cell (Ba_2.out) 2).trans rfl; have zb0_2 : w2.cell? ⟨w.heap.size + 1, 0, none⟩ = some (.bool sb) := (blk_cell (Bb_2.out) 0).trans rfl; have zb1_2 : w2.cell? ⟨w.heap.size + 1, 1, none⟩ = some (.string nb) := (blk_cell (Bb_2.out) 1).trans rfl; have zb2_2 : w2.cell? ⟨w.heap.size + 1, 2, none⟩ = some (.string db) := (blk_cell (Bb_2.out) 2).trans rfl))
  have BO := Aside0.mk (blk_new w2 (.cells #[.func (.func 25) #[] #[], .func (.func 28) #[] #[], .func (.func 30) #[] #[], .func (.func 32) #[] #[]] 35))
  have HB3 := Aside0.mk (below_step HB2.out (below_drew (below_alloc (Below.refl _ _) (.cells #[.func (.func 25) #[] #[], .func (.func 28) #[] #[], .func (.func 30) #[] #[], .func (.func 32) #[] #[]] 35))))
  have JA := Aside0.mk (blk_drew (blk_alloc Ba_2.out (.cells #[.func (.func 25) #[] #[], .func (.func 28) #[] #[], .func (.func 30) #[] #[], .func (.func 32) #[] #[]] 35)))
  have JB := Aside0.mk (blk_drew (blk_alloc Bb_2.out (.cells #[.func (.func 25) #[] #[], .func (.func 28) #[] #[], .func (.func 30) #[] #[], .func (.func 32) #[] #[]] 35)))
  have JO := Aside0.mk (blk_drew BO.out)
  refine start_ (n := 15) (S := fun w' => w'.cell? ⟨w.heap.size, 0, none⟩ = some (.bool sa) ∧ w'.cell? ⟨w.heap.size, 1, none⟩ = some (.string na) ∧ w'.cell? ⟨w.heap.size, 2, none⟩ = some (.string da) ∧ w'.cell? ⟨w.heap.size + 1, 0, none⟩ = some (.bool sb) ∧ w'.cell? ⟨w.heap.size + 1, 1, none⟩ = some (.string nb) ∧ w'.cell? ⟨w.heap.size + 1, 2, none⟩ = some (.string db) ∧ w'.cell? ⟨w2.heap.size, i, none⟩ = some (.func (.func F) #[] #[])) (ds := []) #[false, false, false, false, false, false, false, false, false, false, false, false, false, false, false] (by kernel_rfl) rfl rfl ⟨(blk_cell JA.out 0).trans rfl, (blk_cell JA.out 1).trans rfl, (blk_cell JA.out 2).trans rfl, (blk_cell JB.out 0).trans rfl, (blk_cell JB.out 1).trans rfl, (blk_cell JB.out 2).trans rfl, (blk_cell JO.out i).trans HF.out⟩ (fun hHeld => ?_)
  clear BO Ba_2 Bb_2 HB2
  generalize (w2.alloc (.cells #[.func (.func 25) #[] #[], .func (.func 28) #[] #[], .func (.func 30) #[] #[], .func (.func 32) #[] #[]] 35)).drew = w3 at *
  refine pure_ (i := 0) (N := some 20) (v := ?_) (a' := ?_) #[true, false, false, false, false, false, false, false, false, false, false, false, false, false, false] rfl rfl (by kernel_rfl) (fun _ _ _ h => h) (Or.inl ⟨by rfl, ?_⟩) ?_ ?_
  rotate_left
  · intro w'
    go_simp
    with_reducible rfl
  rotate_left
  · simp only [Act.put, List.setIfInBounds_toArray, List.set_cons_zero, List.set_cons_succ, i64_w, i32_w]
    rfl
  refine pure_ (i := 1) (N := some 21) (v := ?_) (a' := ?_) #[true, true, false, false, false, false, false, false, false, false, false, false, false, false, false] rfl rfl (by kernel_rfl) (fun _ _ _ h => h) (Or.inl ⟨by rfl, ?_⟩) ?_ ?_
  rotate_left
  · intro w'
    go_simp
    with_reducible rfl
  rotate_left
  · simp only [Act.put, List.setIfInBounds_toArray, List.set_cons_zero, List.set_cons_succ, i64_w, i32_w]
    rfl
  refine pure_ (i := 2) (N := some 22) (v := ?_) (a' := ?_) #[true, true, true, false, false, false, false, false, false, false, false, false, false, false, false] rfl rfl (by kernel_rfl) (fun _ _ _ h => h) (Or.inl ⟨by rfl, ?_⟩) ?_ ?_
  rotate_left
  · intro w'
    go_simp
    with_reducible rfl
  rotate_left
  · simp only [Act.put, List.setIfInBounds_toArray, List.set_cons_zero, List.set_cons_succ, i64_w, i32_w]
    rfl
  refine pure_ (i := 3) (N := some 23) (v := ?_) (a' := ?_) #[true, true, true, true, false, false, false, false, false, false, false, false, false, false, false] rfl rfl (by kernel_rfl) (fun _ _ _ h => h) (Or.inl ⟨by rfl, ?_⟩) ?_ ?_
  rotate_left
  · intro w'
    go_simp
    with_reducible rfl
  rotate_left
  · simp only [Act.put, List.setIfInBounds_toArray, List.set_cons_zero, List.set_cons_succ, i64_w, i32_w]
    rfl
  refine pure_ (i := 4) (N := some 24) (v := ?_) (a' := ?_) #[true, true, true, true, true, false, false, false, false, false, false, false, false, false, false] rfl rfl (by kernel_rfl) (fun _ _ _ h => h) (Or.inl ⟨by rfl, ?_⟩) ?_ ?_
  rotate_left
  · intro w'
    go_simp
    with_reducible rfl
  rotate_left
  · simp only [Act.put, List.setIfInBounds_toArray, List.set_cons_zero, List.set_cons_succ, i64_w, i32_w]
    rfl
  refine take_ (i := 5) (N := some 25) (v := ?_) (a' := ?_) #[true, true, true, true, true, true, false, false, false, false, false, false, false, false, false] rfl rfl (by kernel_rfl) (fun _ _ _ h => h) (Or.inl ⟨by rfl, ?_⟩) hHeld ?_ ?_
  rotate_left
  · rintro w' ⟨s0, s1, s2, s3, s4, s5, s6⟩
    go_simp
    with_reducible rfl
  rotate_left
  · simp only [Act.put, List.setIfInBounds_toArray, List.set_cons_zero, List.set_cons_succ, i64_w, i32_w]
    rfl
  refine take_ (i := 6) (N := some 26) (v := ?_) (a' := ?_) #[true, true, true, true, true, true, true, false, false, false, false, false, false, false, false] rfl rfl (by kernel_rfl) (fun _ _ _ h => h) (Or.inl ⟨by rfl, ?_⟩) hHeld ?_ ?_
  rotate_left
  · rintro w' ⟨s0, s1, s2, s3, s4, s5, s6⟩
    go_simp
    with_reducible rfl
  rotate_left
  · simp only [Act.put, List.setIfInBounds_toArray, List.set_cons_zero, List.set_cons_succ, i64_w, i32_w]
    rfl
  refine take_ (i := 7) (N := some 27) (v := ?_) (a' := ?_) #[true, true, true, true, true, true, true, true, false, false, false, false, false, false, false] rfl rfl (by kernel_rfl) (fun _ _ _ h => h) (Or.inl ⟨by rfl, ?_⟩) hHeld ?_ ?_
  rotate_left
  · rintro w' ⟨s0, s1, s2, s3, s4, s5, s6⟩
    go_simp
    with_reducible rfl
  rotate_left
  · simp only [Act.put, List.setIfInBounds_toArray, List.set_cons_zero, List.set_cons_succ, i64_w, i32_w]
    rfl
  have lo : w2.heap.size < w3.heap.size := (Array.getElem?_eq_some_iff.1 JO.out).1
  have lb : w.heap.size + 1 < w3.heap.size := (Array.getElem?_eq_some_iff.1 JB.out).1
  have LOo := Aside0.mk lo
  have LBb := Aside0.mk lb
  clear lo lb
  refine join_ (σ := Nat) 2 #[true, true, true, true, true, true, true, true, true, true, true, true, true, false, false] (fun g => [(28, .tuple #[.agg #[.bool false, .string ⟨#[]⟩, .string ⟨#[]⟩], .int .i64 1]), (19, .tuple #[.agg #[.bool false, .string ⟨#[]⟩, .string ⟨#[]⟩], .int .i64 1]), (29, .agg #[.bool false, .string ⟨#[]⟩, .string ⟨#[]⟩]), (30, .int .i64 1), (9, .pointer (some ⟨g, 0, none⟩))]) (fun g w' => w2.heap.size < g ∧ w.heap.size + 1 < g ∧ w'.heap[g]? = some (.cells #[.bool false, .string ⟨#[]⟩, .string ⟨#[]⟩] 23 (0, 0)) ∧ w.heap.size ≤ g ∧ Below w.heap.size w w' ∧ w'.heap[w.heap.size]? = some (.cells #[.bool sa, .string na, .string da] 23 (0, 0)) ∧ w'.heap[w.heap.size + 1]? = some (.cells #[.bool sb, .string nb, .string db] 23 (0, 0)) ∧ w'.heap[w2.heap.size]? = some (.cells #[.func (.func 25) #[] #[], .func (.func 28) #[] #[], .func (.func 30) #[] #[], .func (.func 32) #[] #[]] 35 (0, 0))) ?cont ?arms
  case arms =>
    intro hcont
    refine two_ (i := 8) (j := 12) (Ni := some 28) (Nj := some 9) #[true, true, true, true, true, true, true, true, true, false, false, false, false, false, false] #[true, true, true, true, true, true, true, true, false, false, false, false, true, false, false] rfl rfl rfl rfl (by kernel_rfl) (by decide) (by decide) (fun K hK => ?c1) (fun K hK => ?c2)
    case c1 =>
      refine call_ F #[.agg #[.bool sa, .string na, .string da], .agg #[.bool sb, .string nb, .string db]] (by rfl) rfl (by unfold execOp; simp [resolve, Deferred.ofValue, invoke, Act.eval, hent]) ?_
      refine (HC.out _ (HT.out.below HB3.out)).mono ?_
      rintro e w4 ⟨rfl, hb⟩
      refine ⟨_, rfl, ?_⟩
      have HS4 := Aside0.mk (below_size hb)
      have HB4 := Aside0.mk (below_step HB3.out hb)
      have KA := Aside0.mk (blk_below JA.out hb)
      have KB := Aside0.mk (blk_below JB.out hb)
      have KO := Aside0.mk (blk_below JO.out hb)
      clear hb
      refine hK.out _ _ ⟨(blk_cell KA.out 0).trans rfl, (blk_cell KA.out 1).trans rfl, (blk_cell KA.out 2).trans rfl, (blk_cell KB.out 0).trans rfl, (blk_cell KB.out 1).trans rfl, (blk_cell KB.out 2).trans rfl, (blk_cell KO.out i).trans HF.out⟩ (fun hHeld => ?_)
      clear hK K
      refine norm_ (a' := ?_) ?_ ?_
      rotate_left
      · show Act.put _ (some 28) _ = _
        simp only [Act.put, List.setIfInBounds_toArray, List.set_cons_zero, List.set_cons_succ, i64_w, i32_w]
        rfl
      refine pure_ (i := 9) (N := some 19) (v := ?_) (a' := ?_) #[true, true, true, true, true, true, true, true, true, true, false, false, false, false, false] rfl rfl (by kernel_rfl) (fun _ _ _ h => h) (Or.inl ⟨by rfl, ?_⟩) ?_ ?_
      rotate_left
      · intro w'
        go_simp
        with_reducible rfl
      rotate_left
      · simp only [Act.put, List.setIfInBounds_toArray, List.set_cons_zero, List.set_cons_succ, i64_w, i32_w]
        rfl
      refine pure_ (i := 10) (N := some 29) (v := ?_) (a' := ?_) #[true, true, true, true, true, true, true, true, true, true, true, false, false, false, false] rfl rfl (by kernel_rfl) (fun _ _ _ h => h) (Or.inl ⟨by rfl, ?_⟩) ?_ ?_
      rotate_left
      · intro w'
        go_simp
        with_reducible rfl
      rotate_left
      · simp only [Act.put, List.setIfInBounds_toArray, List.set_cons_zero, List.set_cons_succ, i64_w, i32_w]
        rfl
      refine pure_ (i := 11) (N := some 30) (v := ?_) (a' := ?_) #[true, true, true, true, true, true, true, true, true, true, true, true, false, false, false] rfl rfl (by kernel_rfl) (fun _ _ _ h => h) (Or.inl ⟨by rfl, ?_⟩) ?_ ?_
      rotate_left
      · intro w'
        go_simp
        with_reducible rfl
      rotate_left
      · simp only [Act.put, List.setIfInBounds_toArray, List.set_cons_zero, List.set_cons_succ, i64_w, i32_w]
        rfl
      refine one_ (i := 12) (N := some 9) #[true, true, true, true, true, true, true, true, true, true, true, true, true, false, false] rfl rfl (by kernel_rfl) (by decide) (fun K hK => ?_)
      refine value_ (w1 := ?_) (v := ?_) (by rfl) rfl ?_ ?_
      rotate_left 2
      · go_simp
        first | rfl | (constructor <;> rfl)
      have HB5 := Aside0.mk (below_alloc HB4.out (.cells #[.bool false, .string ⟨#[]⟩, .string ⟨#[]⟩] 23))
      refine hK.out _ _ ⟨(blk_cell (blk_alloc KA.out _) 0).trans rfl, (blk_cell (blk_alloc KA.out _) 1).trans rfl, (blk_cell (blk_alloc KA.out _) 2).trans rfl, (blk_cell (blk_alloc KB.out _) 0).trans rfl, (blk_cell (blk_alloc KB.out _) 1).trans rfl, (blk_cell (blk_alloc KB.out _) 2).trans rfl, (blk_cell (blk_alloc KO.out _) i).trans HF.out⟩ (fun hHeld => ?_)
      clear hK K
      refine norm_ ?_ (hcont w4.heap.size _ ⟨Nat.lt_of_lt_of_le LOo.out HS4.out, Nat.lt_of_lt_of_le LBb.out HS4.out, blk_new w4 _, below_size HB4.out, HB5.out, blk_alloc KA.out _, blk_alloc KB.out _, blk_alloc KO.out _⟩)
      simp only [putAll, Act.put, List.setIfInBounds_toArray, List.set_cons_zero, List.set_cons_succ, i64_w, i32_w]
    case c2 =>
      refine value_ (w1 := ?_) (v := ?_) (by rfl) rfl ?_ ?_
      rotate_left 2
      · go_simp
        first | rfl | (constructor <;> rfl)
      have HB4 := Aside0.mk (below_alloc HB3.out (.cells #[.bool false, .string ⟨#[]⟩, .string ⟨#[]⟩] 23))
      have KA := Aside0.mk (blk_alloc JA.out (.cells #[.bool false, .string ⟨#[]⟩, .string ⟨#[]⟩] 23))
      have KB := Aside0.mk (blk_alloc JB.out (.cells #[.bool false, .string ⟨#[]⟩, .string ⟨#[]⟩] 23))
      have KO := Aside0.mk (blk_alloc JO.out (.cells #[.bool false, .string ⟨#[]⟩, .string ⟨#[]⟩] 23))
      have KX := Aside0.mk (blk_new w3 (.cells #[.bool false, .string ⟨#[]⟩, .string ⟨#[]⟩] 23))
      refine hK.out _ _ ⟨(blk_cell KA.out 0).trans rfl, (blk_cell KA.out 1).trans rfl, (blk_cell KA.out 2).trans rfl, (blk_cell KB.out 0).trans rfl, (blk_cell KB.out 1).trans rfl, (blk_cell KB.out 2).trans rfl, (blk_cell KO.out i).trans HF.out⟩ (fun hHeld => ?_)
      clear hK K
      refine norm_ (a' := ?_) ?_ ?_
      rotate_left
      · show Act.put _ (some 9) _ = _
        simp only [Act.put, List.setIfInBounds_toArray, List.set_cons_zero, List.set_cons_succ, i64_w, i32_w]
        rfl
      refine one_ (i := 8) (N := some 28) #[true, true, true, true, true, true, true, true, true, false, false, false, true, false, false] rfl rfl (by kernel_rfl) (by decide) (fun K hK => ?_)
      refine call_ F #[.agg #[.bool sa, .string na, .string da], .agg #[.bool sb, .string nb, .string db]] (by rfl) rfl (by unfold execOp; simp [resolve, Deferred.ofValue, invoke, Act.eval, hent]) ?_
      refine (HC.out _ (HT.out.below HB4.out)).mono ?_
      rintro e w5 ⟨rfl, hb⟩
      refine ⟨_, rfl, ?_⟩
      have HB5 := Aside0.mk (below_step HB4.out hb)
      have LA := Aside0.mk (blk_below KA.out hb)
      have LB := Aside0.mk (blk_below KB.out hb)
      have LO := Aside0.mk (blk_below KO.out hb)
      have LX := Aside0.mk (blk_below KX.out hb)
      clear hb
      refine hK.out _ _ ⟨(blk_cell LA.out 0).trans rfl, (blk_cell LA.out 1).trans rfl, (blk_cell LA.out 2).trans rfl, (blk_cell LB.out 0).trans rfl, (blk_cell LB.out 1).trans rfl, (blk_cell LB.out 2).trans rfl, (blk_cell LO.out i).trans HF.out⟩ (fun hHeld => ?_)
      clear hK K
      refine norm_ (a' := ?_) ?_ ?_
      rotate_left
      · show Act.put _ (some 28) _ = _
        simp only [Act.put, List.setIfInBounds_toArray, List.set_cons_zero, List.set_cons_succ, i64_w, i32_w]
        rfl
      refine pure_ (i := 9) (N := some 19) (v := ?_) (a' := ?_) #[true, true, true, true, true, true, true, true, true, true, false, false, true, false, false] rfl rfl (by kernel_rfl) (fun _ _ _ h => h) (Or.inl ⟨by rfl, ?_⟩) ?_ ?_
      rotate_left
      · intro w'
        go_simp
        with_reducible rfl
      rotate_left
      · simp only [Act.put, List.setIfInBounds_toArray, List.set_cons_zero, List.set_cons_succ, i64_w, i32_w]
        rfl
      refine pure_ (i := 10) (N := some 29) (v := ?_) (a' := ?_) #[true, true, true, true, true, true, true, true, true, true, true, false, true, false, false] rfl rfl (by kernel_rfl) (fun _ _ _ h => h) (Or.inl ⟨by rfl, ?_⟩) ?_ ?_
      rotate_left
      · intro w'
        go_simp
        with_reducible rfl
      rotate_left
      · simp only [Act.put, List.setIfInBounds_toArray, List.set_cons_zero, List.set_cons_succ, i64_w, i32_w]
        rfl
      refine pure_ (i := 11) (N := some 30) (v := ?_) (a' := ?_) #[true, true, true, true, true, true, true, true, true, true, true, true, true, false, false] rfl rfl (by kernel_rfl) (fun _ _ _ h => h) (Or.inl ⟨by rfl, ?_⟩) ?_ ?_
      rotate_left
      · intro w'
        go_simp
        with_reducible rfl
      rotate_left
      · simp only [Act.put, List.setIfInBounds_toArray, List.set_cons_zero, List.set_cons_succ, i64_w, i32_w]
        rfl
      refine norm_ ?_ (hcont w3.heap.size _ ⟨LOo.out, LBb.out, LX.out, below_size HB3.out, HB5.out, LA.out, LB.out, LO.out⟩)
      simp only [putAll, Act.put, List.setIfInBounds_toArray, List.set_cons_zero, List.set_cons_succ, i64_w, i32_w]
  case cont =>
    rintro g w4 ⟨hgo, hgb, hg, hgs, hb, ha, hbb, ho⟩
    have GX := Aside0.mk hg
    have GS := Aside0.mk hgs
    have HB4 := Aside0.mk hb
    have KA := Aside0.mk ha
    have KB := Aside0.mk hbb
    have KO := Aside0.mk ho
    clear hg hgs hb ha hbb ho
    refine norm_ (a' := ?_) ?_ ?_
    rotate_left
    · simp only [putAll, Act.put, List.setIfInBounds_toArray, List.set_cons_zero, List.set_cons_succ, i64_w, i32_w]
      rfl
    have nothing := trivial
    have zx0 : w4.cell? ⟨g, 0, none⟩ = some (.bool false) := (blk_cell GX.out 0).trans rfl
    have zx1 : w4.cell? ⟨g, 1, none⟩ = some (.string ⟨#[]⟩) := (blk_cell GX.out 1).trans rfl
    have zx2 : w4.cell? ⟨g, 2, none⟩ = some (.string ⟨#[]⟩) := (blk_cell GX.out 2).trans rfl
    have fx0 := blk_frozen GX.out 0
    have fx1 := blk_frozen GX.out 1
    have fx2 := blk_frozen GX.out 2
    refine one_ (i := 13) (N := none) #[true, true, true, true, true, true, true, true, true, true, true, true, true, true, false] rfl rfl (by kernel_rfl) (by decide) (fun K hK => ?_)
    refine skip_ (w1 := ?_) (by rfl) rfl ?_ ?_
    rotate_left
    · go_simp
      rfl
    have NA := Aside0.mk (show w.heap.size ≠ g by omega)
    have NB := Aside0.mk (show w.heap.size + 1 ≠ g by omega)
    have NO := Aside0.mk (show w2.heap.size ≠ g by omega)
    clear hgo hgb
    have Q1 := Aside0.mk (blk_put (cs := #[.bool false, .string ⟨#[]⟩, .string ⟨#[]⟩]) (blk_put GX.out 0 (.bool false) rfl) 1 (.string ⟨#[]⟩) rfl)
    have Bx_5 := Aside0.mk (blk_put (cs := #[.bool false, .string ⟨#[]⟩, .string ⟨#[]⟩]) Q1.out 2 (.string ⟨#[]⟩) rfl)
    have Ba_5 := Aside0.mk (blk_far (p := ⟨g, 2, none⟩) (blk_far (p := ⟨g, 1, none⟩) (blk_far (p := ⟨g, 0, none⟩) KA.out NA.out (.bool false)) NA.out (.string ⟨#[]⟩)) NA.out (.string ⟨#[]⟩))
    have Bb_5 := Aside0.mk (blk_far (p := ⟨g, 2, none⟩) (blk_far (p := ⟨g, 1, none⟩) (blk_far (p := ⟨g, 0, none⟩) KB.out NB.out (.bool false)) NB.out (.string ⟨#[]⟩)) NB.out (.string ⟨#[]⟩))
    have BO_5 := Aside0.mk (blk_far (p := ⟨g, 2, none⟩) (blk_far (p := ⟨g, 1, none⟩) (blk_far (p := ⟨g, 0, none⟩) KO.out NO.out (.bool false)) NO.out (.string ⟨#[]⟩)) NO.out (.string ⟨#[]⟩))
    have HB5 := Aside0.mk (((HB4.out.setCell (p := ⟨g, 0, none⟩) GS.out (.bool false)).setCell (p := ⟨g, 1, none⟩) GS.out (.string ⟨#[]⟩)).setCell (p := ⟨g, 2, none⟩) GS.out (.string ⟨#[]⟩))
    clear Q1 KA KB KO GX zx0 zx1 zx2 fx0 fx1 fx2 nothing HB4
    refine hK.out _ _ ⟨(blk_cell Ba_5.out 0).trans rfl, (blk_cell Ba_5.out 1).trans rfl, (blk_cell Ba_5.out 2).trans rfl, (blk_cell Bb_5.out 0).trans rfl, (blk_cell Bb_5.out 1).trans rfl, (blk_cell Bb_5.out 2).trans rfl, (blk_cell BO_5.out i).trans HF.out⟩ (fun hHeld => ?_)
    clear hK K BO_5 NA NB NO
    generalize (((w4.setCell ⟨g, 0, none⟩ (.bool false)).setCell ⟨g, 1, none⟩ (.string ⟨#[]⟩)).setCell ⟨g, 2, none⟩ (.string ⟨#[]⟩)) = w5 at *
    refine pure_ (i := 14) (N := some 10) (v := ?_) (a' := ?_) #[true, true, true, true, true, true, true, true, true, true, true, true, true, true, true] rfl rfl (by kernel_rfl) (fun _ _ _ h => h) (Or.inl ⟨by rfl, ?_⟩) ?_ ?_
    rotate_left
    · intro w'
      go_simp
      with_reducible rfl
    rotate_left
    · simp only [Act.put, List.setIfInBounds_toArray, List.set_cons_zero, List.set_cons_succ, i64_w, i32_w]
      rfl
    refine done_ (by kernel_rfl) ?_
    have za0 : w5.cell? ⟨w.heap.size, 0, none⟩ = some (.bool sa) := (blk_cell Ba_5.out 0).trans rfl
    have za1 : w5.cell? ⟨w.heap.size, 1, none⟩ = some (.string na) := (blk_cell Ba_5.out 1).trans rfl
    have za2 : w5.cell? ⟨w.heap.size, 2, none⟩ = some (.string da) := (blk_cell Ba_5.out 2).trans rfl
    go_wp2_with (first
      | (go_at_call 21; refine (ratio_Valid.calls 1 sa na da false _ HVA.out (HT.out.below (HB5.out))).mono ?_; rintro e w6 ⟨rfl, hb⟩; have HB6 := Aside0.mk (below_step (HB5.out) hb); have Ba_6 := Aside0.mk (blk_below (Ba_5.out) hb); clear Ba_5; have Bb_6 := Aside0.mk (blk_below (Bb_5.out) hb); clear Bb_5; have Bx_6 := Aside0.mk (blk_below (Bx_5.out) hb); clear Bx_5; clear hb HB5 za0 za1 za2; have zx0_6 : w6.cell? ⟨g, 0, none⟩ = some (.bool false) := (blk_cell (Bx_6.out) 0).trans rfl; have zx1_6 : w6.cell? ⟨g, 1, none⟩ = some (.string ⟨#[]⟩) := (blk_cell (Bx_6.out) 1).trans rfl; have zx2_6 : w6.cell? ⟨g, 2, none⟩ = some (.string ⟨#[]⟩) := (blk_cell (Bx_6.out) 2).trans rfl))
    go_ret
    exact ⟨rfl, HB6.out⟩
set_option maxRecDepth 100000 in
set_option maxHeartbeats 8000000 in
theorem valid_badB (sa sb : Bool) (na da nb db : ByteArray) (raw : Int) (hH : customhouselaw05_head.f = some true) (hS : customhouselaw05_short.f 200 160 [⟨sa, na, da⟩, ⟨sb, nb, db⟩] = some true) (r1 : Bool) (r2 r3 : ByteArray) (r4 : Int) (i : Nat) (hi0 : (0 ≤ (i : Int)) = True) (hi1 : ((i : Int) < 4) = True) (F : FuncId) (hF : (#[.func (.func 25) #[] #[], .func (.func 28) #[] #[], .func (.func 30) #[] #[], .func (.func 32) #[] #[]] : Array Value)[i]? = some (.func (.func F) #[] #[])) (hent : ∀ args w, (callFunc F args).run Tryz.prog w = .ok (.enter F args) w) (hr : (wrap64 raw).tmod 4 = (i : Int)) (hC : ∀ W, Tabs W → Calls Tryz.prog F #[.agg #[.bool sa, .string na, .string da], .agg #[.bool sb, .string nb, .string db]] W fun e w' => e = .returned (.tuple #[.agg #[.bool false, .string ⟨#[]⟩, .string ⟨#[]⟩], .int .i64 1]) ∧ Below W.heap.size W w') (hVA : ratio_Valid.f 1 sa na da = some true) (hVB : ratio_Valid.f 1 sb nb db = some false) (w : World) (hT : Tabs w) :
    Calls Tryz.prog 7 #[.agg #[.bool sa, .string na, .string da], .agg #[.bool sb, .string nb, .string db], .int .u8 raw] w fun e w' => e = .returned (.bool true) ∧ Below w.heap.size w w' := by
  have HT := Aside0.mk hT
  clear hT
  have hu23 := Tryz.underlying23
  obtain ⟨W0, hW0⟩ : ∃ W0, ((w.alloc (.cells #[.bool sa, .string na, .string da] 23)).alloc (.cells #[.bool sb, .string nb, .string db] 23)) = W0 := ⟨_, rfl⟩
  have b0 : W0.heap[w.heap.size]? = some (.cells #[.bool sa, .string na, .string da] 23 (0, 0)) := by rw [← hW0]; exact blk_alloc (blk_new w (.cells #[.bool sa, .string na, .string da] 23)) _
  have Ba_0 := Aside0.mk b0
  clear b0
  have b1 : W0.heap[w.heap.size + 1]? = some (.cells #[.bool sb, .string nb, .string db] 23 (0, 0)) := by rw [← hW0]; exact (by have := blk_new (w.alloc (.cells #[.bool sa, .string na, .string da] 23)) (.cells #[.bool sb, .string nb, .string db] 23); simpa using this)
  have Bb_0 := Aside0.mk b1
  clear b1
  have HB0 : Aside0 (Below w.heap.size w W0) := Aside0.mk (by rw [← hW0]; exact below_alloc (below_alloc (Below.refl _ _) _) _)
  have HW := Aside0.mk hW0
  clear hW0
  have HH := Aside0.mk hH
  have HS := Aside0.mk hS
  clear hH hS
  have HC := Aside0.mk hC
  clear hC
  have HF := Aside0.mk hF
  clear hF
  have HVA := Aside0.mk hVA
  clear hVA
  have HVB := Aside0.mk hVB
  clear hVB
  go_enter Tryz.func7, Tryz.ntmps7
  go_wp2_with (first
    | (go_at_call 17; rw [HW.out]; refine (customhouselaw05_head.calls true _ HH.out (HT.out.below (HB0.out))).mono ?_; rintro e w1 ⟨rfl, hb⟩; have HB1 := Aside0.mk (below_step (HB0.out) hb); have Ba_1 := Aside0.mk (blk_below (Ba_0.out) hb); clear Ba_0; have Bb_1 := Aside0.mk (blk_below (Bb_0.out) hb); clear Bb_0; clear hb HB0; have za0_1 : w1.cell? ⟨w.heap.size, 0, none⟩ = some (.bool sa) := (blk_cell (Ba_1.out) 0).trans rfl; have za1_1 : w1.cell? ⟨w.heap.size, 1, none⟩ = some (.string na) := (blk_cell (Ba_1.out) 1).trans rfl; have za2_1 : w1.cell? ⟨w.heap.size, 2, none⟩ = some (.string da) := (blk_cell (Ba_1.out) 2).trans rfl; have zb0_1 : w1.cell? ⟨w.heap.size + 1, 0, none⟩ = some (.bool sb) := (blk_cell (Bb_1.out) 0).trans rfl; have zb1_1 : w1.cell? ⟨w.heap.size + 1, 1, none⟩ = some (.string nb) := (blk_cell (Bb_1.out) 1).trans rfl; have zb2_1 : w1.cell? ⟨w.heap.size + 1, 2, none⟩ = some (.string db) := (blk_cell (Bb_1.out) 2).trans rfl)
    | (go_at_call 20; refine (customhouselaw05_short.calls 200 160 (some ⟨w1.heap.size, 0, none⟩) 2 [⟨sa, na, da⟩, ⟨sb, nb, db⟩] true _ (lit23 w1 [⟨sa, na, da⟩, ⟨sb, nb, db⟩] (by simp) _ rfl) (Nat.le_refl _) HS.out).mono ?_; rintro e w2 ⟨rfl, hb0⟩; have hb := hb0.below; clear hb0; have HB2 := Aside0.mk (below_step (below_alloc (HB1.out) _) hb); have Ba_2 := Aside0.mk (blk_below (blk_alloc (Ba_1.out) _) hb); clear Ba_1; have Bb_2 := Aside0.mk (blk_below (blk_alloc (Bb_1.out) _) hb); clear Bb_1; clear hb HB1; clear za0_1 za1_1 za2_1 zb0_1 zb1_1 zb2_1; have za0_2 : w2.cell? ⟨w.heap.size, 0, none⟩ = some (.bool sa) := (blk_cell (Ba_2.out) 0).trans rfl; have za1_2 : w2.cell? ⟨w.heap.size, 1, none⟩ = some (.string na) := (blk_cell (Ba_2.out) 1).trans rfl; have za2_2 : w2.cell? ⟨w.heap.size, 2, none⟩ = some (.string da) := (blk_cell (Ba_2.out) 2).trans rfl; have zb0_2 : w2.cell? ⟨w.heap.size + 1, 0, none⟩ = some (.bool sb) := (blk_cell (Bb_2.out) 0).trans rfl; have zb1_2 : w2.cell? ⟨w.heap.size + 1, 1, none⟩ = some (.string nb) := (blk_cell (Bb_2.out) 1).trans rfl; have zb2_2 : w2.cell? ⟨w.heap.size + 1, 2, none⟩ = some (.string db) := (blk_cell (Bb_2.out) 2).trans rfl))
  have BO := Aside0.mk (blk_new w2 (.cells #[.func (.func 25) #[] #[], .func (.func 28) #[] #[], .func (.func 30) #[] #[], .func (.func 32) #[] #[]] 35))
  have HB3 := Aside0.mk (below_step HB2.out (below_drew (below_alloc (Below.refl _ _) (.cells #[.func (.func 25) #[] #[], .func (.func 28) #[] #[], .func (.func 30) #[] #[], .func (.func 32) #[] #[]] 35))))
  have JA := Aside0.mk (blk_drew (blk_alloc Ba_2.out (.cells #[.func (.func 25) #[] #[], .func (.func 28) #[] #[], .func (.func 30) #[] #[], .func (.func 32) #[] #[]] 35)))
  have JB := Aside0.mk (blk_drew (blk_alloc Bb_2.out (.cells #[.func (.func 25) #[] #[], .func (.func 28) #[] #[], .func (.func 30) #[] #[], .func (.func 32) #[] #[]] 35)))
  have JO := Aside0.mk (blk_drew BO.out)
  refine start_ (n := 15) (S := fun w' => w'.cell? ⟨w.heap.size, 0, none⟩ = some (.bool sa) ∧ w'.cell? ⟨w.heap.size, 1, none⟩ = some (.string na) ∧ w'.cell? ⟨w.heap.size, 2, none⟩ = some (.string da) ∧ w'.cell? ⟨w.heap.size + 1, 0, none⟩ = some (.bool sb) ∧ w'.cell? ⟨w.heap.size + 1, 1, none⟩ = some (.string nb) ∧ w'.cell? ⟨w.heap.size + 1, 2, none⟩ = some (.string db) ∧ w'.cell? ⟨w2.heap.size, i, none⟩ = some (.func (.func F) #[] #[])) (ds := []) #[false, false, false, false, false, false, false, false, false, false, false, false, false, false, false] (by kernel_rfl) rfl rfl ⟨(blk_cell JA.out 0).trans rfl, (blk_cell JA.out 1).trans rfl, (blk_cell JA.out 2).trans rfl, (blk_cell JB.out 0).trans rfl, (blk_cell JB.out 1).trans rfl, (blk_cell JB.out 2).trans rfl, (blk_cell JO.out i).trans HF.out⟩ (fun hHeld => ?_)
  clear BO Ba_2 Bb_2 HB2
  generalize (w2.alloc (.cells #[.func (.func 25) #[] #[], .func (.func 28) #[] #[], .func (.func 30) #[] #[], .func (.func 32) #[] #[]] 35)).drew = w3 at *
  refine pure_ (i := 0) (N := some 20) (v := ?_) (a' := ?_) #[true, false, false, false, false, false, false, false, false, false, false, false, false, false, false] rfl rfl (by kernel_rfl) (fun _ _ _ h => h) (Or.inl ⟨by rfl, ?_⟩) ?_ ?_
  rotate_left
  · intro w'
    go_simp
    with_reducible rfl
  rotate_left
  · simp only [Act.put, List.setIfInBounds_toArray, List.set_cons_zero, List.set_cons_succ, i64_w, i32_w]
    rfl
  refine pure_ (i := 1) (N := some 21) (v := ?_) (a' := ?_) #[true, true, false, false, false, false, false, false, false, false, false, false, false, false, false] rfl rfl (by kernel_rfl) (fun _ _ _ h => h) (Or.inl ⟨by rfl, ?_⟩) ?_ ?_
  rotate_left
  · intro w'
    go_simp
    with_reducible rfl
  rotate_left
  · simp only [Act.put, List.setIfInBounds_toArray, List.set_cons_zero, List.set_cons_succ, i64_w, i32_w]
    rfl
  refine pure_ (i := 2) (N := some 22) (v := ?_) (a' := ?_) #[true, true, true, false, false, false, false, false, false, false, false, false, false, false, false] rfl rfl (by kernel_rfl) (fun _ _ _ h => h) (Or.inl ⟨by rfl, ?_⟩) ?_ ?_
  rotate_left
  · intro w'
    go_simp
    with_reducible rfl
  rotate_left
  · simp only [Act.put, List.setIfInBounds_toArray, List.set_cons_zero, List.set_cons_succ, i64_w, i32_w]
    rfl
  refine pure_ (i := 3) (N := some 23) (v := ?_) (a' := ?_) #[true, true, true, true, false, false, false, false, false, false, false, false, false, false, false] rfl rfl (by kernel_rfl) (fun _ _ _ h => h) (Or.inl ⟨by rfl, ?_⟩) ?_ ?_
  rotate_left
  · intro w'
    go_simp
    with_reducible rfl
  rotate_left
  · simp only [Act.put, List.setIfInBounds_toArray, List.set_cons_zero, List.set_cons_succ, i64_w, i32_w]
    rfl
  refine pure_ (i := 4) (N := some 24) (v := ?_) (a' := ?_) #[true, true, true, true, true, false, false, false, false, false, false, false, false, false, false] rfl rfl (by kernel_rfl) (fun _ _ _ h => h) (Or.inl ⟨by rfl, ?_⟩) ?_ ?_
  rotate_left
  · intro w'
    go_simp
    with_reducible rfl
  rotate_left
  · simp only [Act.put, List.setIfInBounds_toArray, List.set_cons_zero, List.set_cons_succ, i64_w, i32_w]
    rfl
  refine take_ (i := 5) (N := some 25) (v := ?_) (a' := ?_) #[true, true, true, true, true, true, false, false, false, false, false, false, false, false, false] rfl rfl (by kernel_rfl) (fun _ _ _ h => h) (Or.inl ⟨by rfl, ?_⟩) hHeld ?_ ?_
  rotate_left
  · rintro w' ⟨s0, s1, s2, s3, s4, s5, s6⟩
    go_simp
    with_reducible rfl
  rotate_left
  · simp only [Act.put, List.setIfInBounds_toArray, List.set_cons_zero, List.set_cons_succ, i64_w, i32_w]
    rfl
  refine take_ (i := 6) (N := some 26) (v := ?_) (a' := ?_) #[true, true, true, true, true, true, true, false, false, false, false, false, false, false, false] rfl rfl (by kernel_rfl) (fun _ _ _ h => h) (Or.inl ⟨by rfl, ?_⟩) hHeld ?_ ?_
  rotate_left
  · rintro w' ⟨s0, s1, s2, s3, s4, s5, s6⟩
    go_simp
    with_reducible rfl
  rotate_left
  · simp only [Act.put, List.setIfInBounds_toArray, List.set_cons_zero, List.set_cons_succ, i64_w, i32_w]
    rfl
  refine take_ (i := 7) (N := some 27) (v := ?_) (a' := ?_) #[true, true, true, true, true, true, true, true, false, false, false, false, false, false, false] rfl rfl (by kernel_rfl) (fun _ _ _ h => h) (Or.inl ⟨by rfl, ?_⟩) hHeld ?_ ?_
  rotate_left
  · rintro w' ⟨s0, s1, s2, s3, s4, s5, s6⟩
    go_simp
    with_reducible rfl
  rotate_left
  · simp only [Act.put, List.setIfInBounds_toArray, List.set_cons_zero, List.set_cons_succ, i64_w, i32_w]
    rfl
  have lo : w2.heap.size < w3.heap.size := (Array.getElem?_eq_some_iff.1 JO.out).1
  have lb : w.heap.size + 1 < w3.heap.size := (Array.getElem?_eq_some_iff.1 JB.out).1
  have LOo := Aside0.mk lo
  have LBb := Aside0.mk lb
  clear lo lb
  refine join_ (σ := Nat) 2 #[true, true, true, true, true, true, true, true, true, true, true, true, true, false, false] (fun g => [(28, .tuple #[.agg #[.bool false, .string ⟨#[]⟩, .string ⟨#[]⟩], .int .i64 1]), (19, .tuple #[.agg #[.bool false, .string ⟨#[]⟩, .string ⟨#[]⟩], .int .i64 1]), (29, .agg #[.bool false, .string ⟨#[]⟩, .string ⟨#[]⟩]), (30, .int .i64 1), (9, .pointer (some ⟨g, 0, none⟩))]) (fun g w' => w2.heap.size < g ∧ w.heap.size + 1 < g ∧ w'.heap[g]? = some (.cells #[.bool false, .string ⟨#[]⟩, .string ⟨#[]⟩] 23 (0, 0)) ∧ w.heap.size ≤ g ∧ Below w.heap.size w w' ∧ w'.heap[w.heap.size]? = some (.cells #[.bool sa, .string na, .string da] 23 (0, 0)) ∧ w'.heap[w.heap.size + 1]? = some (.cells #[.bool sb, .string nb, .string db] 23 (0, 0)) ∧ w'.heap[w2.heap.size]? = some (.cells #[.func (.func 25) #[] #[], .func (.func 28) #[] #[], .func (.func 30) #[] #[], .func (.func 32) #[] #[]] 35 (0, 0))) ?cont ?arms
  case arms =>
    intro hcont
    refine two_ (i := 8) (j := 12) (Ni := some 28) (Nj := some 9) #[true, true, true, true, true, true, true, true, true, false, false, false, false, false, false] #[true, true, true, true, true, true, true, true, false, false, false, false, true, false, false] rfl rfl rfl rfl (by kernel_rfl) (by decide) (by decide) (fun K hK => ?c1) (fun K hK => ?c2)
    case c1 =>
      refine call_ F #[.agg #[.bool sa, .string na, .string da], .agg #[.bool sb, .string nb, .string db]] (by rfl) rfl (by unfold execOp; simp [resolve, Deferred.ofValue, invoke, Act.eval, hent]) ?_
      refine (HC.out _ (HT.out.below HB3.out)).mono ?_
      rintro e w4 ⟨rfl, hb⟩
      refine ⟨_, rfl, ?_⟩
      have HS4 := Aside0.mk (below_size hb)
      have HB4 := Aside0.mk (below_step HB3.out hb)
      have KA := Aside0.mk (blk_below JA.out hb)
      have KB := Aside0.mk (blk_below JB.out hb)
      have KO := Aside0.mk (blk_below JO.out hb)
      clear hb
      refine hK.out _ _ ⟨(blk_cell KA.out 0).trans rfl, (blk_cell KA.out 1).trans rfl, (blk_cell KA.out 2).trans rfl, (blk_cell KB.out 0).trans rfl, (blk_cell KB.out 1).trans rfl, (blk_cell KB.out 2).trans rfl, (blk_cell KO.out i).trans HF.out⟩ (fun hHeld => ?_)
      clear hK K
      refine norm_ (a' := ?_) ?_ ?_
      rotate_left
      · show Act.put _ (some 28) _ = _
        simp only [Act.put, List.setIfInBounds_toArray, List.set_cons_zero, List.set_cons_succ, i64_w, i32_w]
        rfl
      refine pure_ (i := 9) (N := some 19) (v := ?_) (a' := ?_) #[true, true, true, true, true, true, true, true, true, true, false, false, false, false, false] rfl rfl (by kernel_rfl) (fun _ _ _ h => h) (Or.inl ⟨by rfl, ?_⟩) ?_ ?_
      rotate_left
      · intro w'
        go_simp
        with_reducible rfl
      rotate_left
      · simp only [Act.put, List.setIfInBounds_toArray, List.set_cons_zero, List.set_cons_succ, i64_w, i32_w]
        rfl
      refine pure_ (i := 10) (N := some 29) (v := ?_) (a' := ?_) #[true, true, true, true, true, true, true, true, true, true, true, false, false, false, false] rfl rfl (by kernel_rfl) (fun _ _ _ h => h) (Or.inl ⟨by rfl, ?_⟩) ?_ ?_
      rotate_left
      · intro w'
        go_simp
        with_reducible rfl
      rotate_left
      · simp only [Act.put, List.setIfInBounds_toArray, List.set_cons_zero, List.set_cons_succ, i64_w, i32_w]
        rfl
      refine pure_ (i := 11) (N := some 30) (v := ?_) (a' := ?_) #[true, true, true, true, true, true, true, true, true, true, true, true, false, false, false] rfl rfl (by kernel_rfl) (fun _ _ _ h => h) (Or.inl ⟨by rfl, ?_⟩) ?_ ?_
      rotate_left
      · intro w'
        go_simp
        with_reducible rfl
      rotate_left
      · simp only [Act.put, List.setIfInBounds_toArray, List.set_cons_zero, List.set_cons_succ, i64_w, i32_w]
        rfl
      refine one_ (i := 12) (N := some 9) #[true, true, true, true, true, true, true, true, true, true, true, true, true, false, false] rfl rfl (by kernel_rfl) (by decide) (fun K hK => ?_)
      refine value_ (w1 := ?_) (v := ?_) (by rfl) rfl ?_ ?_
      rotate_left 2
      · go_simp
        first | rfl | (constructor <;> rfl)
      have HB5 := Aside0.mk (below_alloc HB4.out (.cells #[.bool false, .string ⟨#[]⟩, .string ⟨#[]⟩] 23))
      refine hK.out _ _ ⟨(blk_cell (blk_alloc KA.out _) 0).trans rfl, (blk_cell (blk_alloc KA.out _) 1).trans rfl, (blk_cell (blk_alloc KA.out _) 2).trans rfl, (blk_cell (blk_alloc KB.out _) 0).trans rfl, (blk_cell (blk_alloc KB.out _) 1).trans rfl, (blk_cell (blk_alloc KB.out _) 2).trans rfl, (blk_cell (blk_alloc KO.out _) i).trans HF.out⟩ (fun hHeld => ?_)
      clear hK K
      refine norm_ ?_ (hcont w4.heap.size _ ⟨Nat.lt_of_lt_of_le LOo.out HS4.out, Nat.lt_of_lt_of_le LBb.out HS4.out, blk_new w4 _, below_size HB4.out, HB5.out, blk_alloc KA.out _, blk_alloc KB.out _, blk_alloc KO.out _⟩)
      simp only [putAll, Act.put, List.setIfInBounds_toArray, List.set_cons_zero, List.set_cons_succ, i64_w, i32_w]
    case c2 =>
      refine value_ (w1 := ?_) (v := ?_) (by rfl) rfl ?_ ?_
      rotate_left 2
      · go_simp
        first | rfl | (constructor <;> rfl)
      have HB4 := Aside0.mk (below_alloc HB3.out (.cells #[.bool false, .string ⟨#[]⟩, .string ⟨#[]⟩] 23))
      have KA := Aside0.mk (blk_alloc JA.out (.cells #[.bool false, .string ⟨#[]⟩, .string ⟨#[]⟩] 23))
      have KB := Aside0.mk (blk_alloc JB.out (.cells #[.bool false, .string ⟨#[]⟩, .string ⟨#[]⟩] 23))
      have KO := Aside0.mk (blk_alloc JO.out (.cells #[.bool false, .string ⟨#[]⟩, .string ⟨#[]⟩] 23))
      have KX := Aside0.mk (blk_new w3 (.cells #[.bool false, .string ⟨#[]⟩, .string ⟨#[]⟩] 23))
      refine hK.out _ _ ⟨(blk_cell KA.out 0).trans rfl, (blk_cell KA.out 1).trans rfl, (blk_cell KA.out 2).trans rfl, (blk_cell KB.out 0).trans rfl, (blk_cell KB.out 1).trans rfl, (blk_cell KB.out 2).trans rfl, (blk_cell KO.out i).trans HF.out⟩ (fun hHeld => ?_)
      clear hK K
      refine norm_ (a' := ?_) ?_ ?_
      rotate_left
      · show Act.put _ (some 9) _ = _
        simp only [Act.put, List.setIfInBounds_toArray, List.set_cons_zero, List.set_cons_succ, i64_w, i32_w]
        rfl
      refine one_ (i := 8) (N := some 28) #[true, true, true, true, true, true, true, true, true, false, false, false, true, false, false] rfl rfl (by kernel_rfl) (by decide) (fun K hK => ?_)
      refine call_ F #[.agg #[.bool sa, .string na, .string da], .agg #[.bool sb, .string nb, .string db]] (by rfl) rfl (by unfold execOp; simp [resolve, Deferred.ofValue, invoke, Act.eval, hent]) ?_
      refine (HC.out _ (HT.out.below HB4.out)).mono ?_
      rintro e w5 ⟨rfl, hb⟩
      refine ⟨_, rfl, ?_⟩
      have HB5 := Aside0.mk (below_step HB4.out hb)
      have LA := Aside0.mk (blk_below KA.out hb)
      have LB := Aside0.mk (blk_below KB.out hb)
      have LO := Aside0.mk (blk_below KO.out hb)
      have LX := Aside0.mk (blk_below KX.out hb)
      clear hb
      refine hK.out _ _ ⟨(blk_cell LA.out 0).trans rfl, (blk_cell LA.out 1).trans rfl, (blk_cell LA.out 2).trans rfl, (blk_cell LB.out 0).trans rfl, (blk_cell LB.out 1).trans rfl, (blk_cell LB.out 2).trans rfl, (blk_cell LO.out i).trans HF.out⟩ (fun hHeld => ?_)
      clear hK K
      refine norm_ (a' := ?_) ?_ ?_
      rotate_left
      · show Act.put _ (some 28) _ = _
        simp only [Act.put, List.setIfInBounds_toArray, List.set_cons_zero, List.set_cons_succ, i64_w, i32_w]
        rfl
      refine pure_ (i := 9) (N := some 19) (v := ?_) (a' := ?_) #[true, true, true, true, true, true, true, true, true, true, false, false, true, false, false] rfl rfl (by kernel_rfl) (fun _ _ _ h => h) (Or.inl ⟨by rfl, ?_⟩) ?_ ?_
      rotate_left
      · intro w'
        go_simp
        with_reducible rfl
      rotate_left
      · simp only [Act.put, List.setIfInBounds_toArray, List.set_cons_zero, List.set_cons_succ, i64_w, i32_w]
        rfl
      refine pure_ (i := 10) (N := some 29) (v := ?_) (a' := ?_) #[true, true, true, true, true, true, true, true, true, true, true, false, true, false, false] rfl rfl (by kernel_rfl) (fun _ _ _ h => h) (Or.inl ⟨by rfl, ?_⟩) ?_ ?_
      rotate_left
      · intro w'
        go_simp
        with_reducible rfl
      rotate_left
      · simp only [Act.put, List.setIfInBounds_toArray, List.set_cons_zero, List.set_cons_succ, i64_w, i32_w]
        rfl
      refine pure_ (i := 11) (N := some 30) (v := ?_) (a' := ?_) #[true, true, true, true, true, true, true, true, true, true, true, true, true, false, false] rfl rfl (by kernel_rfl) (fun _ _ _ h => h) (Or.inl ⟨by rfl, ?_⟩) ?_ ?_
      rotate_left
      · intro w'
        go_simp
        with_reducible rfl
      rotate_left
      · simp only [Act.put, List.setIfInBounds_toArray, List.set_cons_zero, List.set_cons_succ, i64_w, i32_w]
        rfl
      refine norm_ ?_ (hcont w3.heap.size _ ⟨LOo.out, LBb.out, LX.out, below_size HB3.out, HB5.out, LA.out, LB.out, LO.out⟩)
      simp only [putAll, Act.put, List.setIfInBounds_toArray, List.set_cons_zero, List.set_cons_succ, i64_w, i32_w]
  case cont =>
    rintro g w4 ⟨hgo, hgb, hg, hgs, hb, ha, hbb, ho⟩
    have GX := Aside0.mk hg
    have GS := Aside0.mk hgs
    have HB4 := Aside0.mk hb
    have KA := Aside0.mk ha
    have KB := Aside0.mk hbb
    have KO := Aside0.mk ho
    clear hg hgs hb ha hbb ho
    refine norm_ (a' := ?_) ?_ ?_
    rotate_left
    · simp only [putAll, Act.put, List.setIfInBounds_toArray, List.set_cons_zero, List.set_cons_succ, i64_w, i32_w]
      rfl
    have nothing := trivial
    have zx0 : w4.cell? ⟨g, 0, none⟩ = some (.bool false) := (blk_cell GX.out 0).trans rfl
    have zx1 : w4.cell? ⟨g, 1, none⟩ = some (.string ⟨#[]⟩) := (blk_cell GX.out 1).trans rfl
    have zx2 : w4.cell? ⟨g, 2, none⟩ = some (.string ⟨#[]⟩) := (blk_cell GX.out 2).trans rfl
    have fx0 := blk_frozen GX.out 0
    have fx1 := blk_frozen GX.out 1
    have fx2 := blk_frozen GX.out 2
    refine one_ (i := 13) (N := none) #[true, true, true, true, true, true, true, true, true, true, true, true, true, true, false] rfl rfl (by kernel_rfl) (by decide) (fun K hK => ?_)
    refine skip_ (w1 := ?_) (by rfl) rfl ?_ ?_
    rotate_left
    · go_simp
      rfl
    have NA := Aside0.mk (show w.heap.size ≠ g by omega)
    have NB := Aside0.mk (show w.heap.size + 1 ≠ g by omega)
    have NO := Aside0.mk (show w2.heap.size ≠ g by omega)
    clear hgo hgb
    have Q1 := Aside0.mk (blk_put (cs := #[.bool false, .string ⟨#[]⟩, .string ⟨#[]⟩]) (blk_put GX.out 0 (.bool false) rfl) 1 (.string ⟨#[]⟩) rfl)
    have Bx_5 := Aside0.mk (blk_put (cs := #[.bool false, .string ⟨#[]⟩, .string ⟨#[]⟩]) Q1.out 2 (.string ⟨#[]⟩) rfl)
    have Ba_5 := Aside0.mk (blk_far (p := ⟨g, 2, none⟩) (blk_far (p := ⟨g, 1, none⟩) (blk_far (p := ⟨g, 0, none⟩) KA.out NA.out (.bool false)) NA.out (.string ⟨#[]⟩)) NA.out (.string ⟨#[]⟩))
    have Bb_5 := Aside0.mk (blk_far (p := ⟨g, 2, none⟩) (blk_far (p := ⟨g, 1, none⟩) (blk_far (p := ⟨g, 0, none⟩) KB.out NB.out (.bool false)) NB.out (.string ⟨#[]⟩)) NB.out (.string ⟨#[]⟩))
    have BO_5 := Aside0.mk (blk_far (p := ⟨g, 2, none⟩) (blk_far (p := ⟨g, 1, none⟩) (blk_far (p := ⟨g, 0, none⟩) KO.out NO.out (.bool false)) NO.out (.string ⟨#[]⟩)) NO.out (.string ⟨#[]⟩))
    have HB5 := Aside0.mk (((HB4.out.setCell (p := ⟨g, 0, none⟩) GS.out (.bool false)).setCell (p := ⟨g, 1, none⟩) GS.out (.string ⟨#[]⟩)).setCell (p := ⟨g, 2, none⟩) GS.out (.string ⟨#[]⟩))
    clear Q1 KA KB KO GX zx0 zx1 zx2 fx0 fx1 fx2 nothing HB4
    refine hK.out _ _ ⟨(blk_cell Ba_5.out 0).trans rfl, (blk_cell Ba_5.out 1).trans rfl, (blk_cell Ba_5.out 2).trans rfl, (blk_cell Bb_5.out 0).trans rfl, (blk_cell Bb_5.out 1).trans rfl, (blk_cell Bb_5.out 2).trans rfl, (blk_cell BO_5.out i).trans HF.out⟩ (fun hHeld => ?_)
    clear hK K BO_5 NA NB NO
    generalize (((w4.setCell ⟨g, 0, none⟩ (.bool false)).setCell ⟨g, 1, none⟩ (.string ⟨#[]⟩)).setCell ⟨g, 2, none⟩ (.string ⟨#[]⟩)) = w5 at *
    refine pure_ (i := 14) (N := some 10) (v := ?_) (a' := ?_) #[true, true, true, true, true, true, true, true, true, true, true, true, true, true, true] rfl rfl (by kernel_rfl) (fun _ _ _ h => h) (Or.inl ⟨by rfl, ?_⟩) ?_ ?_
    rotate_left
    · intro w'
      go_simp
      with_reducible rfl
    rotate_left
    · simp only [Act.put, List.setIfInBounds_toArray, List.set_cons_zero, List.set_cons_succ, i64_w, i32_w]
      rfl
    refine done_ (by kernel_rfl) ?_
    have za0 : w5.cell? ⟨w.heap.size, 0, none⟩ = some (.bool sa) := (blk_cell Ba_5.out 0).trans rfl
    have za1 : w5.cell? ⟨w.heap.size, 1, none⟩ = some (.string na) := (blk_cell Ba_5.out 1).trans rfl
    have za2 : w5.cell? ⟨w.heap.size, 2, none⟩ = some (.string da) := (blk_cell Ba_5.out 2).trans rfl
    go_wp2_with (first
      | (go_at_call 21; refine (ratio_Valid.calls 1 sa na da true _ HVA.out (HT.out.below (HB5.out))).mono ?_; rintro e w6 ⟨rfl, hb⟩; have HB6 := Aside0.mk (below_step (HB5.out) hb); have Ba_6 := Aside0.mk (blk_below (Ba_5.out) hb); clear Ba_5; have Bb_6 := Aside0.mk (blk_below (Bb_5.out) hb); clear Bb_5; have Bx_6 := Aside0.mk (blk_below (Bx_5.out) hb); clear Bx_5; clear hb HB5 za0 za1 za2; have zb0_6 : w6.cell? ⟨w.heap.size + 1, 0, none⟩ = some (.bool sb) := (blk_cell (Bb_6.out) 0).trans rfl; have zb1_6 : w6.cell? ⟨w.heap.size + 1, 1, none⟩ = some (.string nb) := (blk_cell (Bb_6.out) 1).trans rfl; have zb2_6 : w6.cell? ⟨w.heap.size + 1, 2, none⟩ = some (.string db) := (blk_cell (Bb_6.out) 2).trans rfl)
      | (go_at_call 21; refine (ratio_Valid.calls 1 sb nb db false _ HVB.out (HT.out.below (HB6.out))).mono ?_; rintro e w7 ⟨rfl, hb⟩; have HB7 := Aside0.mk (below_step (HB6.out) hb); have Ba_7 := Aside0.mk (blk_below (Ba_6.out) hb); clear Ba_6; have Bb_7 := Aside0.mk (blk_below (Bb_6.out) hb); clear Bb_6; have Bx_7 := Aside0.mk (blk_below (Bx_6.out) hb); clear Bx_6; clear hb HB6; clear zb0_6 zb1_6 zb2_6; have zx0_7 : w7.cell? ⟨g, 0, none⟩ = some (.bool false) := (blk_cell (Bx_7.out) 0).trans rfl; have zx1_7 : w7.cell? ⟨g, 1, none⟩ = some (.string ⟨#[]⟩) := (blk_cell (Bx_7.out) 1).trans rfl; have zx2_7 : w7.cell? ⟨g, 2, none⟩ = some (.string ⟨#[]⟩) := (blk_cell (Bx_7.out) 2).trans rfl))
    go_ret
    exact ⟨rfl, HB7.out⟩
set_option maxRecDepth 100000 in
set_option maxHeartbeats 8000000 in
theorem valid_ok (sa sb : Bool) (na da nb db : ByteArray) (raw : Int) (hH : customhouselaw05_head.f = some true) (hS : customhouselaw05_short.f 200 160 [⟨sa, na, da⟩, ⟨sb, nb, db⟩] = some true) (r1 : Bool) (r2 r3 : ByteArray) (r4 : Int) (i : Nat) (hi0 : (0 ≤ (i : Int)) = True) (hi1 : ((i : Int) < 4) = True) (F : FuncId) (hF : (#[.func (.func 25) #[] #[], .func (.func 28) #[] #[], .func (.func 30) #[] #[], .func (.func 32) #[] #[]] : Array Value)[i]? = some (.func (.func F) #[] #[])) (hent : ∀ args w, (callFunc F args).run Tryz.prog w = .ok (.enter F args) w) (hr : (wrap64 raw).tmod 4 = (i : Int)) (hC : ∀ W, Tabs W → Calls Tryz.prog F #[.agg #[.bool sa, .string na, .string da], .agg #[.bool sb, .string nb, .string db]] W fun e w' => e = .returned (.tuple #[.agg #[.bool r1, .string r2, .string r3], .int .i64 0]) ∧ Below W.heap.size W w') (hVA : ratio_Valid.f 1 sa na da = some true) (hVB : ratio_Valid.f 1 sb nb db = some true) (hVX : ratio_Valid.f 1 r1 r2 r3 = some true) (w : World) (hT : Tabs w) :
    Calls Tryz.prog 7 #[.agg #[.bool sa, .string na, .string da], .agg #[.bool sb, .string nb, .string db], .int .u8 raw] w fun e w' => e = .returned (.bool true) ∧ Below w.heap.size w w' := by
  have HT := Aside0.mk hT
  clear hT
  have hu23 := Tryz.underlying23
  obtain ⟨W0, hW0⟩ : ∃ W0, ((w.alloc (.cells #[.bool sa, .string na, .string da] 23)).alloc (.cells #[.bool sb, .string nb, .string db] 23)) = W0 := ⟨_, rfl⟩
  have b0 : W0.heap[w.heap.size]? = some (.cells #[.bool sa, .string na, .string da] 23 (0, 0)) := by rw [← hW0]; exact blk_alloc (blk_new w (.cells #[.bool sa, .string na, .string da] 23)) _
  have Ba_0 := Aside0.mk b0
  clear b0
  have b1 : W0.heap[w.heap.size + 1]? = some (.cells #[.bool sb, .string nb, .string db] 23 (0, 0)) := by rw [← hW0]; exact (by have := blk_new (w.alloc (.cells #[.bool sa, .string na, .string da] 23)) (.cells #[.bool sb, .string nb, .string db] 23); simpa using this)
  have Bb_0 := Aside0.mk b1
  clear b1
  have HB0 : Aside0 (Below w.heap.size w W0) := Aside0.mk (by rw [← hW0]; exact below_alloc (below_alloc (Below.refl _ _) _) _)
  have HW := Aside0.mk hW0
  clear hW0
  have HH := Aside0.mk hH
  have HS := Aside0.mk hS
  clear hH hS
  have HC := Aside0.mk hC
  clear hC
  have HF := Aside0.mk hF
  clear hF
  have HVA := Aside0.mk hVA
  clear hVA
  have HVB := Aside0.mk hVB
  clear hVB
  have HVX := Aside0.mk hVX
  clear hVX
  go_enter Tryz.func7, Tryz.ntmps7
  go_wp2_with (first
    | (go_at_call 17; rw [HW.out]; refine (customhouselaw05_head.calls true _ HH.out (HT.out.below (HB0.out))).mono ?_; rintro e w1 ⟨rfl, hb⟩; have HB1 := Aside0.mk (below_step (HB0.out) hb); have Ba_1 := Aside0.mk (blk_below (Ba_0.out) hb); clear Ba_0; have Bb_1 := Aside0.mk (blk_below (Bb_0.out) hb); clear Bb_0; clear hb HB0; have za0_1 : w1.cell? ⟨w.heap.size, 0, none⟩ = some (.bool sa) := (blk_cell (Ba_1.out) 0).trans rfl; have za1_1 : w1.cell? ⟨w.heap.size, 1, none⟩ = some (.string na) := (blk_cell (Ba_1.out) 1).trans rfl; have za2_1 : w1.cell? ⟨w.heap.size, 2, none⟩ = some (.string da) := (blk_cell (Ba_1.out) 2).trans rfl; have zb0_1 : w1.cell? ⟨w.heap.size + 1, 0, none⟩ = some (.bool sb) := (blk_cell (Bb_1.out) 0).trans rfl; have zb1_1 : w1.cell? ⟨w.heap.size + 1, 1, none⟩ = some (.string nb) := (blk_cell (Bb_1.out) 1).trans rfl; have zb2_1 : w1.cell? ⟨w.heap.size + 1, 2, none⟩ = some (.string db) := (blk_cell (Bb_1.out) 2).trans rfl)
    | (go_at_call 20; refine (customhouselaw05_short.calls 200 160 (some ⟨w1.heap.size, 0, none⟩) 2 [⟨sa, na, da⟩, ⟨sb, nb, db⟩] true _ (lit23 w1 [⟨sa, na, da⟩, ⟨sb, nb, db⟩] (by simp) _ rfl) (Nat.le_refl _) HS.out).mono ?_; rintro e w2 ⟨rfl, hb0⟩; have hb := hb0.below; clear hb0; have HB2 := Aside0.mk (below_step (below_alloc (HB1.out) _) hb); have Ba_2 := Aside0.mk (blk_below (blk_alloc (Ba_1.out) _) hb); clear Ba_1; have Bb_2 := Aside0.mk (blk_below (blk_alloc (Bb_1.out) _) hb); clear Bb_1; clear hb HB1; clear za0_1 za1_1 za2_1 zb0_1 zb1_1 zb2_1; have za0_2 : w2.cell? ⟨w.heap.size, 0, none⟩ = some (.bool sa) := (blk_cell (Ba_2.out) 0).trans rfl; have za1_2 : w2.cell? ⟨w.heap.size, 1, none⟩ = some (.string na) := (blk_cell (Ba_2.out) 1).trans rfl; have za2_2 : w2.cell? ⟨w.heap.size, 2, none⟩ = some (.string da) := (blk_cell (Ba_2.out) 2).trans rfl; have zb0_2 : w2.cell? ⟨w.heap.size + 1, 0, none⟩ = some (.bool sb) := (blk_cell (Bb_2.out) 0).trans rfl; have zb1_2 : w2.cell? ⟨w.heap.size + 1, 1, none⟩ = some (.string nb) := (blk_cell (Bb_2.out) 1).trans rfl; have zb2_2 : w2.cell? ⟨w.heap.size + 1, 2, none⟩ = some (.string db) := (blk_cell (Bb_2.out) 2).trans rfl))
  have BO := Aside0.mk (blk_new w2 (.cells #[.func (.func 25) #[] #[], .func (.func 28) #[] #[], .func (.func 30) #[] #[], .func (.func 32) #[] #[]] 35))
  have HB3 := Aside0.mk (below_step HB2.out (below_drew (below_alloc (Below.refl _ _) (.cells #[.func (.func 25) #[] #[], .func (.func 28) #[] #[], .func (.func 30) #[] #[], .func (.func 32) #[] #[]] 35))))
  have JA := Aside0.mk (blk_drew (blk_alloc Ba_2.out (.cells #[.func (.func 25) #[] #[], .func (.func 28) #[] #[], .func (.func 30) #[] #[], .func (.func 32) #[] #[]] 35)))
  have JB := Aside0.mk (blk_drew (blk_alloc Bb_2.out (.cells #[.func (.func 25) #[] #[], .func (.func 28) #[] #[], .func (.func 30) #[] #[], .func (.func 32) #[] #[]] 35)))
  have JO := Aside0.mk (blk_drew BO.out)
  refine start_ (n := 15) (S := fun w' => w'.cell? ⟨w.heap.size, 0, none⟩ = some (.bool sa) ∧ w'.cell? ⟨w.heap.size, 1, none⟩ = some (.string na) ∧ w'.cell? ⟨w.heap.size, 2, none⟩ = some (.string da) ∧ w'.cell? ⟨w.heap.size + 1, 0, none⟩ = some (.bool sb) ∧ w'.cell? ⟨w.heap.size + 1, 1, none⟩ = some (.string nb) ∧ w'.cell? ⟨w.heap.size + 1, 2, none⟩ = some (.string db) ∧ w'.cell? ⟨w2.heap.size, i, none⟩ = some (.func (.func F) #[] #[])) (ds := []) #[false, false, false, false, false, false, false, false, false, false, false, false, false, false, false] (by kernel_rfl) rfl rfl ⟨(blk_cell JA.out 0).trans rfl, (blk_cell JA.out 1).trans rfl, (blk_cell JA.out 2).trans rfl, (blk_cell JB.out 0).trans rfl, (blk_cell JB.out 1).trans rfl, (blk_cell JB.out 2).trans rfl, (blk_cell JO.out i).trans HF.out⟩ (fun hHeld => ?_)
  clear BO Ba_2 Bb_2 HB2
  generalize (w2.alloc (.cells #[.func (.func 25) #[] #[], .func (.func 28) #[] #[], .func (.func 30) #[] #[], .func (.func 32) #[] #[]] 35)).drew = w3 at *
  refine pure_ (i := 0) (N := some 20) (v := ?_) (a' := ?_) #[true, false, false, false, false, false, false, false, false, false, false, false, false, false, false] rfl rfl (by kernel_rfl) (fun _ _ _ h => h) (Or.inl ⟨by rfl, ?_⟩) ?_ ?_
  rotate_left
  · intro w'
    go_simp
    with_reducible rfl
  rotate_left
  · simp only [Act.put, List.setIfInBounds_toArray, List.set_cons_zero, List.set_cons_succ, i64_w, i32_w]
    rfl
  refine pure_ (i := 1) (N := some 21) (v := ?_) (a' := ?_) #[true, true, false, false, false, false, false, false, false, false, false, false, false, false, false] rfl rfl (by kernel_rfl) (fun _ _ _ h => h) (Or.inl ⟨by rfl, ?_⟩) ?_ ?_
  rotate_left
  · intro w'
    go_simp
    with_reducible rfl
  rotate_left
  · simp only [Act.put, List.setIfInBounds_toArray, List.set_cons_zero, List.set_cons_succ, i64_w, i32_w]
    rfl
  refine pure_ (i := 2) (N := some 22) (v := ?_) (a' := ?_) #[true, true, true, false, false, false, false, false, false, false, false, false, false, false, false] rfl rfl (by kernel_rfl) (fun _ _ _ h => h) (Or.inl ⟨by rfl, ?_⟩) ?_ ?_
  rotate_left
  · intro w'
    go_simp
    with_reducible rfl
  rotate_left
  · simp only [Act.put, List.setIfInBounds_toArray, List.set_cons_zero, List.set_cons_succ, i64_w, i32_w]
    rfl
  refine pure_ (i := 3) (N := some 23) (v := ?_) (a' := ?_) #[true, true, true, true, false, false, false, false, false, false, false, false, false, false, false] rfl rfl (by kernel_rfl) (fun _ _ _ h => h) (Or.inl ⟨by rfl, ?_⟩) ?_ ?_
  rotate_left
  · intro w'
    go_simp
    with_reducible rfl
  rotate_left
  · simp only [Act.put, List.setIfInBounds_toArray, List.set_cons_zero, List.set_cons_succ, i64_w, i32_w]
    rfl
  refine pure_ (i := 4) (N := some 24) (v := ?_) (a' := ?_) #[true, true, true, true, true, false, false, false, false, false, false, false, false, false, false] rfl rfl (by kernel_rfl) (fun _ _ _ h => h) (Or.inl ⟨by rfl, ?_⟩) ?_ ?_
  rotate_left
  · intro w'
    go_simp
    with_reducible rfl
  rotate_left
  · simp only [Act.put, List.setIfInBounds_toArray, List.set_cons_zero, List.set_cons_succ, i64_w, i32_w]
    rfl
  refine take_ (i := 5) (N := some 25) (v := ?_) (a' := ?_) #[true, true, true, true, true, true, false, false, false, false, false, false, false, false, false] rfl rfl (by kernel_rfl) (fun _ _ _ h => h) (Or.inl ⟨by rfl, ?_⟩) hHeld ?_ ?_
  rotate_left
  · rintro w' ⟨s0, s1, s2, s3, s4, s5, s6⟩
    go_simp
    with_reducible rfl
  rotate_left
  · simp only [Act.put, List.setIfInBounds_toArray, List.set_cons_zero, List.set_cons_succ, i64_w, i32_w]
    rfl
  refine take_ (i := 6) (N := some 26) (v := ?_) (a' := ?_) #[true, true, true, true, true, true, true, false, false, false, false, false, false, false, false] rfl rfl (by kernel_rfl) (fun _ _ _ h => h) (Or.inl ⟨by rfl, ?_⟩) hHeld ?_ ?_
  rotate_left
  · rintro w' ⟨s0, s1, s2, s3, s4, s5, s6⟩
    go_simp
    with_reducible rfl
  rotate_left
  · simp only [Act.put, List.setIfInBounds_toArray, List.set_cons_zero, List.set_cons_succ, i64_w, i32_w]
    rfl
  refine take_ (i := 7) (N := some 27) (v := ?_) (a' := ?_) #[true, true, true, true, true, true, true, true, false, false, false, false, false, false, false] rfl rfl (by kernel_rfl) (fun _ _ _ h => h) (Or.inl ⟨by rfl, ?_⟩) hHeld ?_ ?_
  rotate_left
  · rintro w' ⟨s0, s1, s2, s3, s4, s5, s6⟩
    go_simp
    with_reducible rfl
  rotate_left
  · simp only [Act.put, List.setIfInBounds_toArray, List.set_cons_zero, List.set_cons_succ, i64_w, i32_w]
    rfl
  have lo : w2.heap.size < w3.heap.size := (Array.getElem?_eq_some_iff.1 JO.out).1
  have lb : w.heap.size + 1 < w3.heap.size := (Array.getElem?_eq_some_iff.1 JB.out).1
  have LOo := Aside0.mk lo
  have LBb := Aside0.mk lb
  clear lo lb
  refine join_ (σ := Nat) 2 #[true, true, true, true, true, true, true, true, true, true, true, true, true, false, false] (fun g => [(28, .tuple #[.agg #[.bool r1, .string r2, .string r3], .int .i64 0]), (19, .tuple #[.agg #[.bool r1, .string r2, .string r3], .int .i64 0]), (29, .agg #[.bool r1, .string r2, .string r3]), (30, .int .i64 0), (9, .pointer (some ⟨g, 0, none⟩))]) (fun g w' => w2.heap.size < g ∧ w.heap.size + 1 < g ∧ w'.heap[g]? = some (.cells #[.bool false, .string ⟨#[]⟩, .string ⟨#[]⟩] 23 (0, 0)) ∧ w.heap.size ≤ g ∧ Below w.heap.size w w' ∧ w'.heap[w.heap.size]? = some (.cells #[.bool sa, .string na, .string da] 23 (0, 0)) ∧ w'.heap[w.heap.size + 1]? = some (.cells #[.bool sb, .string nb, .string db] 23 (0, 0)) ∧ w'.heap[w2.heap.size]? = some (.cells #[.func (.func 25) #[] #[], .func (.func 28) #[] #[], .func (.func 30) #[] #[], .func (.func 32) #[] #[]] 35 (0, 0))) ?cont ?arms
  case arms =>
    intro hcont
    refine two_ (i := 8) (j := 12) (Ni := some 28) (Nj := some 9) #[true, true, true, true, true, true, true, true, true, false, false, false, false, false, false] #[true, true, true, true, true, true, true, true, false, false, false, false, true, false, false] rfl rfl rfl rfl (by kernel_rfl) (by decide) (by decide) (fun K hK => ?c1) (fun K hK => ?c2)
    case c1 =>
      refine call_ F #[.agg #[.bool sa, .string na, .string da], .agg #[.bool sb, .string nb, .string db]] (by rfl) rfl (by unfold execOp; simp [resolve, Deferred.ofValue, invoke, Act.eval, hent]) ?_
      refine (HC.out _ (HT.out.below HB3.out)).mono ?_
      rintro e w4 ⟨rfl, hb⟩
      refine ⟨_, rfl, ?_⟩
      have HS4 := Aside0.mk (below_size hb)
      have HB4 := Aside0.mk (below_step HB3.out hb)
      have KA := Aside0.mk (blk_below JA.out hb)
      have KB := Aside0.mk (blk_below JB.out hb)
      have KO := Aside0.mk (blk_below JO.out hb)
      clear hb
      refine hK.out _ _ ⟨(blk_cell KA.out 0).trans rfl, (blk_cell KA.out 1).trans rfl, (blk_cell KA.out 2).trans rfl, (blk_cell KB.out 0).trans rfl, (blk_cell KB.out 1).trans rfl, (blk_cell KB.out 2).trans rfl, (blk_cell KO.out i).trans HF.out⟩ (fun hHeld => ?_)
      clear hK K
      refine norm_ (a' := ?_) ?_ ?_
      rotate_left
      · show Act.put _ (some 28) _ = _
        simp only [Act.put, List.setIfInBounds_toArray, List.set_cons_zero, List.set_cons_succ, i64_w, i32_w]
        rfl
      refine pure_ (i := 9) (N := some 19) (v := ?_) (a' := ?_) #[true, true, true, true, true, true, true, true, true, true, false, false, false, false, false] rfl rfl (by kernel_rfl) (fun _ _ _ h => h) (Or.inl ⟨by rfl, ?_⟩) ?_ ?_
      rotate_left
      · intro w'
        go_simp
        with_reducible rfl
      rotate_left
      · simp only [Act.put, List.setIfInBounds_toArray, List.set_cons_zero, List.set_cons_succ, i64_w, i32_w]
        rfl
      refine pure_ (i := 10) (N := some 29) (v := ?_) (a' := ?_) #[true, true, true, true, true, true, true, true, true, true, true, false, false, false, false] rfl rfl (by kernel_rfl) (fun _ _ _ h => h) (Or.inl ⟨by rfl, ?_⟩) ?_ ?_
      rotate_left
      · intro w'
        go_simp
        with_reducible rfl
      rotate_left
      · simp only [Act.put, List.setIfInBounds_toArray, List.set_cons_zero, List.set_cons_succ, i64_w, i32_w]
        rfl
      refine pure_ (i := 11) (N := some 30) (v := ?_) (a' := ?_) #[true, true, true, true, true, true, true, true, true, true, true, true, false, false, false] rfl rfl (by kernel_rfl) (fun _ _ _ h => h) (Or.inl ⟨by rfl, ?_⟩) ?_ ?_
      rotate_left
      · intro w'
        go_simp
        with_reducible rfl
      rotate_left
      · simp only [Act.put, List.setIfInBounds_toArray, List.set_cons_zero, List.set_cons_succ, i64_w, i32_w]
        rfl
      refine one_ (i := 12) (N := some 9) #[true, true, true, true, true, true, true, true, true, true, true, true, true, false, false] rfl rfl (by kernel_rfl) (by decide) (fun K hK => ?_)
      refine value_ (w1 := ?_) (v := ?_) (by rfl) rfl ?_ ?_
      rotate_left 2
      · go_simp
        first | rfl | (constructor <;> rfl)
      have HB5 := Aside0.mk (below_alloc HB4.out (.cells #[.bool false, .string ⟨#[]⟩, .string ⟨#[]⟩] 23))
      refine hK.out _ _ ⟨(blk_cell (blk_alloc KA.out _) 0).trans rfl, (blk_cell (blk_alloc KA.out _) 1).trans rfl, (blk_cell (blk_alloc KA.out _) 2).trans rfl, (blk_cell (blk_alloc KB.out _) 0).trans rfl, (blk_cell (blk_alloc KB.out _) 1).trans rfl, (blk_cell (blk_alloc KB.out _) 2).trans rfl, (blk_cell (blk_alloc KO.out _) i).trans HF.out⟩ (fun hHeld => ?_)
      clear hK K
      refine norm_ ?_ (hcont w4.heap.size _ ⟨Nat.lt_of_lt_of_le LOo.out HS4.out, Nat.lt_of_lt_of_le LBb.out HS4.out, blk_new w4 _, below_size HB4.out, HB5.out, blk_alloc KA.out _, blk_alloc KB.out _, blk_alloc KO.out _⟩)
      simp only [putAll, Act.put, List.setIfInBounds_toArray, List.set_cons_zero, List.set_cons_succ, i64_w, i32_w]
    case c2 =>
      refine value_ (w1 := ?_) (v := ?_) (by rfl) rfl ?_ ?_
      rotate_left 2
      · go_simp
        first | rfl | (constructor <;> rfl)
      have HB4 := Aside0.mk (below_alloc HB3.out (.cells #[.bool false, .string ⟨#[]⟩, .string ⟨#[]⟩] 23))
      have KA := Aside0.mk (blk_alloc JA.out (.cells #[.bool false, .string ⟨#[]⟩, .string ⟨#[]⟩] 23))
      have KB := Aside0.mk (blk_alloc JB.out (.cells #[.bool false, .string ⟨#[]⟩, .string ⟨#[]⟩] 23))
      have KO := Aside0.mk (blk_alloc JO.out (.cells #[.bool false, .string ⟨#[]⟩, .string ⟨#[]⟩] 23))
      have KX := Aside0.mk (blk_new w3 (.cells #[.bool false, .string ⟨#[]⟩, .string ⟨#[]⟩] 23))
      refine hK.out _ _ ⟨(blk_cell KA.out 0).trans rfl, (blk_cell KA.out 1).trans rfl, (blk_cell KA.out 2).trans rfl, (blk_cell KB.out 0).trans rfl, (blk_cell KB.out 1).trans rfl, (blk_cell KB.out 2).trans rfl, (blk_cell KO.out i).trans HF.out⟩ (fun hHeld => ?_)
      clear hK K
      refine norm_ (a' := ?_) ?_ ?_
      rotate_left
      · show Act.put _ (some 9) _ = _
        simp only [Act.put, List.setIfInBounds_toArray, List.set_cons_zero, List.set_cons_succ, i64_w, i32_w]
        rfl
      refine one_ (i := 8) (N := some 28) #[true, true, true, true, true, true, true, true, true, false, false, false, true, false, false] rfl rfl (by kernel_rfl) (by decide) (fun K hK => ?_)
      refine call_ F #[.agg #[.bool sa, .string na, .string da], .agg #[.bool sb, .string nb, .string db]] (by rfl) rfl (by unfold execOp; simp [resolve, Deferred.ofValue, invoke, Act.eval, hent]) ?_
      refine (HC.out _ (HT.out.below HB4.out)).mono ?_
      rintro e w5 ⟨rfl, hb⟩
      refine ⟨_, rfl, ?_⟩
      have HB5 := Aside0.mk (below_step HB4.out hb)
      have LA := Aside0.mk (blk_below KA.out hb)
      have LB := Aside0.mk (blk_below KB.out hb)
      have LO := Aside0.mk (blk_below KO.out hb)
      have LX := Aside0.mk (blk_below KX.out hb)
      clear hb
      refine hK.out _ _ ⟨(blk_cell LA.out 0).trans rfl, (blk_cell LA.out 1).trans rfl, (blk_cell LA.out 2).trans rfl, (blk_cell LB.out 0).trans rfl, (blk_cell LB.out 1).trans rfl, (blk_cell LB.out 2).trans rfl, (blk_cell LO.out i).trans HF.out⟩ (fun hHeld => ?_)
      clear hK K
      refine norm_ (a' := ?_) ?_ ?_
      rotate_left
      · show Act.put _ (some 28) _ = _
        simp only [Act.put, List.setIfInBounds_toArray, List.set_cons_zero, List.set_cons_succ, i64_w, i32_w]
        rfl
      refine pure_ (i := 9) (N := some 19) (v := ?_) (a' := ?_) #[true, true, true, true, true, true, true, true, true, true, false, false, true, false, false] rfl rfl (by kernel_rfl) (fun _ _ _ h => h) (Or.inl ⟨by rfl, ?_⟩) ?_ ?_
      rotate_left
      · intro w'
        go_simp
        with_reducible rfl
      rotate_left
      · simp only [Act.put, List.setIfInBounds_toArray, List.set_cons_zero, List.set_cons_succ, i64_w, i32_w]
        rfl
      refine pure_ (i := 10) (N := some 29) (v := ?_) (a' := ?_) #[true, true, true, true, true, true, true, true, true, true, true, false, true, false, false] rfl rfl (by kernel_rfl) (fun _ _ _ h => h) (Or.inl ⟨by rfl, ?_⟩) ?_ ?_
      rotate_left
      · intro w'
        go_simp
        with_reducible rfl
      rotate_left
      · simp only [Act.put, List.setIfInBounds_toArray, List.set_cons_zero, List.set_cons_succ, i64_w, i32_w]
        rfl
      refine pure_ (i := 11) (N := some 30) (v := ?_) (a' := ?_) #[true, true, true, true, true, true, true, true, true, true, true, true, true, false, false] rfl rfl (by kernel_rfl) (fun _ _ _ h => h) (Or.inl ⟨by rfl, ?_⟩) ?_ ?_
      rotate_left
      · intro w'
        go_simp
        with_reducible rfl
      rotate_left
      · simp only [Act.put, List.setIfInBounds_toArray, List.set_cons_zero, List.set_cons_succ, i64_w, i32_w]
        rfl
      refine norm_ ?_ (hcont w3.heap.size _ ⟨LOo.out, LBb.out, LX.out, below_size HB3.out, HB5.out, LA.out, LB.out, LO.out⟩)
      simp only [putAll, Act.put, List.setIfInBounds_toArray, List.set_cons_zero, List.set_cons_succ, i64_w, i32_w]
  case cont =>
    rintro g w4 ⟨hgo, hgb, hg, hgs, hb, ha, hbb, ho⟩
    have GX := Aside0.mk hg
    have GS := Aside0.mk hgs
    have HB4 := Aside0.mk hb
    have KA := Aside0.mk ha
    have KB := Aside0.mk hbb
    have KO := Aside0.mk ho
    clear hg hgs hb ha hbb ho
    refine norm_ (a' := ?_) ?_ ?_
    rotate_left
    · simp only [putAll, Act.put, List.setIfInBounds_toArray, List.set_cons_zero, List.set_cons_succ, i64_w, i32_w]
      rfl
    have nothing := trivial
    have zx0 : w4.cell? ⟨g, 0, none⟩ = some (.bool false) := (blk_cell GX.out 0).trans rfl
    have zx1 : w4.cell? ⟨g, 1, none⟩ = some (.string ⟨#[]⟩) := (blk_cell GX.out 1).trans rfl
    have zx2 : w4.cell? ⟨g, 2, none⟩ = some (.string ⟨#[]⟩) := (blk_cell GX.out 2).trans rfl
    have fx0 := blk_frozen GX.out 0
    have fx1 := blk_frozen GX.out 1
    have fx2 := blk_frozen GX.out 2
    refine one_ (i := 13) (N := none) #[true, true, true, true, true, true, true, true, true, true, true, true, true, true, false] rfl rfl (by kernel_rfl) (by decide) (fun K hK => ?_)
    refine skip_ (w1 := ?_) (by rfl) rfl ?_ ?_
    rotate_left
    · go_simp
      rfl
    have NA := Aside0.mk (show w.heap.size ≠ g by omega)
    have NB := Aside0.mk (show w.heap.size + 1 ≠ g by omega)
    have NO := Aside0.mk (show w2.heap.size ≠ g by omega)
    clear hgo hgb
    have Q1 := Aside0.mk (blk_put (cs := #[.bool r1, .string ⟨#[]⟩, .string ⟨#[]⟩]) (blk_put GX.out 0 (.bool r1) rfl) 1 (.string r2) rfl)
    have Bx_5 := Aside0.mk (blk_put (cs := #[.bool r1, .string r2, .string ⟨#[]⟩]) Q1.out 2 (.string r3) rfl)
    have Ba_5 := Aside0.mk (blk_far (p := ⟨g, 2, none⟩) (blk_far (p := ⟨g, 1, none⟩) (blk_far (p := ⟨g, 0, none⟩) KA.out NA.out (.bool r1)) NA.out (.string r2)) NA.out (.string r3))
    have Bb_5 := Aside0.mk (blk_far (p := ⟨g, 2, none⟩) (blk_far (p := ⟨g, 1, none⟩) (blk_far (p := ⟨g, 0, none⟩) KB.out NB.out (.bool r1)) NB.out (.string r2)) NB.out (.string r3))
    have BO_5 := Aside0.mk (blk_far (p := ⟨g, 2, none⟩) (blk_far (p := ⟨g, 1, none⟩) (blk_far (p := ⟨g, 0, none⟩) KO.out NO.out (.bool r1)) NO.out (.string r2)) NO.out (.string r3))
    have HB5 := Aside0.mk (((HB4.out.setCell (p := ⟨g, 0, none⟩) GS.out (.bool r1)).setCell (p := ⟨g, 1, none⟩) GS.out (.string r2)).setCell (p := ⟨g, 2, none⟩) GS.out (.string r3))
    clear Q1 KA KB KO GX zx0 zx1 zx2 fx0 fx1 fx2 nothing HB4
    refine hK.out _ _ ⟨(blk_cell Ba_5.out 0).trans rfl, (blk_cell Ba_5.out 1).trans rfl, (blk_cell Ba_5.out 2).trans rfl, (blk_cell Bb_5.out 0).trans rfl, (blk_cell Bb_5.out 1).trans rfl, (blk_cell Bb_5.out 2).trans rfl, (blk_cell BO_5.out i).trans HF.out⟩ (fun hHeld => ?_)
    clear hK K BO_5 NA NB NO
    generalize (((w4.setCell ⟨g, 0, none⟩ (.bool r1)).setCell ⟨g, 1, none⟩ (.string r2)).setCell ⟨g, 2, none⟩ (.string r3)) = w5 at *
    refine pure_ (i := 14) (N := some 10) (v := ?_) (a' := ?_) #[true, true, true, true, true, true, true, true, true, true, true, true, true, true, true] rfl rfl (by kernel_rfl) (fun _ _ _ h => h) (Or.inl ⟨by rfl, ?_⟩) ?_ ?_
    rotate_left
    · intro w'
      go_simp
      with_reducible rfl
    rotate_left
    · simp only [Act.put, List.setIfInBounds_toArray, List.set_cons_zero, List.set_cons_succ, i64_w, i32_w]
      rfl
    refine done_ (by kernel_rfl) ?_
    have za0 : w5.cell? ⟨w.heap.size, 0, none⟩ = some (.bool sa) := (blk_cell Ba_5.out 0).trans rfl
    have za1 : w5.cell? ⟨w.heap.size, 1, none⟩ = some (.string na) := (blk_cell Ba_5.out 1).trans rfl
    have za2 : w5.cell? ⟨w.heap.size, 2, none⟩ = some (.string da) := (blk_cell Ba_5.out 2).trans rfl
    go_wp2_with (first
      | (go_at_call 21; refine (ratio_Valid.calls 1 sa na da true _ HVA.out (HT.out.below (HB5.out))).mono ?_; rintro e w6 ⟨rfl, hb⟩; have HB6 := Aside0.mk (below_step (HB5.out) hb); have Ba_6 := Aside0.mk (blk_below (Ba_5.out) hb); clear Ba_5; have Bb_6 := Aside0.mk (blk_below (Bb_5.out) hb); clear Bb_5; have Bx_6 := Aside0.mk (blk_below (Bx_5.out) hb); clear Bx_5; clear hb HB5 za0 za1 za2; have zb0_6 : w6.cell? ⟨w.heap.size + 1, 0, none⟩ = some (.bool sb) := (blk_cell (Bb_6.out) 0).trans rfl; have zb1_6 : w6.cell? ⟨w.heap.size + 1, 1, none⟩ = some (.string nb) := (blk_cell (Bb_6.out) 1).trans rfl; have zb2_6 : w6.cell? ⟨w.heap.size + 1, 2, none⟩ = some (.string db) := (blk_cell (Bb_6.out) 2).trans rfl)
      | (go_at_call 21; refine (ratio_Valid.calls 1 sb nb db true _ HVB.out (HT.out.below (HB6.out))).mono ?_; rintro e w7 ⟨rfl, hb⟩; have HB7 := Aside0.mk (below_step (HB6.out) hb); have Ba_7 := Aside0.mk (blk_below (Ba_6.out) hb); clear Ba_6; have Bb_7 := Aside0.mk (blk_below (Bb_6.out) hb); clear Bb_6; have Bx_7 := Aside0.mk (blk_below (Bx_6.out) hb); clear Bx_6; clear hb HB6; clear zb0_6 zb1_6 zb2_6; have zx0_7 : w7.cell? ⟨g, 0, none⟩ = some (.bool r1) := (blk_cell (Bx_7.out) 0).trans rfl; have zx1_7 : w7.cell? ⟨g, 1, none⟩ = some (.string r2) := (blk_cell (Bx_7.out) 1).trans rfl; have zx2_7 : w7.cell? ⟨g, 2, none⟩ = some (.string r3) := (blk_cell (Bx_7.out) 2).trans rfl)
      | (go_at_call 21; refine (ratio_Valid.calls 1 r1 r2 r3 true _ HVX.out (HT.out.below (HB7.out))).mono ?_; rintro e w8 ⟨rfl, hb⟩; have HB8 := Aside0.mk (below_step (HB7.out) hb); have Ba_8 := Aside0.mk (blk_below (Ba_7.out) hb); clear Ba_7; have Bb_8 := Aside0.mk (blk_below (Bb_7.out) hb); clear Bb_7; have Bx_8 := Aside0.mk (blk_below (Bx_7.out) hb); clear Bx_7; clear hb HB7; clear zx0_7 zx1_7 zx2_7; have zx0_8 : w8.cell? ⟨g, 0, none⟩ = some (.bool r1) := (blk_cell (Bx_8.out) 0).trans rfl; have zx1_8 : w8.cell? ⟨g, 1, none⟩ = some (.string r2) := (blk_cell (Bx_8.out) 1).trans rfl; have zx2_8 : w8.cell? ⟨g, 2, none⟩ = some (.string r3) := (blk_cell (Bx_8.out) 2).trans rfl))
    go_ret
    exact ⟨rfl, HB8.out⟩
set_option maxRecDepth 100000 in
set_option maxHeartbeats 8000000 in
theorem valid_err (sa sb : Bool) (na da nb db : ByteArray) (raw : Int) (hH : customhouselaw05_head.f = some true) (hS : customhouselaw05_short.f 200 160 [⟨sa, na, da⟩, ⟨sb, nb, db⟩] = some true) (r1 : Bool) (r2 r3 : ByteArray) (r4 : Int) (i : Nat) (hi0 : (0 ≤ (i : Int)) = True) (hi1 : ((i : Int) < 4) = True) (F : FuncId) (hF : (#[.func (.func 25) #[] #[], .func (.func 28) #[] #[], .func (.func 30) #[] #[], .func (.func 32) #[] #[]] : Array Value)[i]? = some (.func (.func F) #[] #[])) (hent : ∀ args w, (callFunc F args).run Tryz.prog w = .ok (.enter F args) w) (hr : (wrap64 raw).tmod 4 = (i : Int)) (hC : ∀ W, Tabs W → Calls Tryz.prog F #[.agg #[.bool sa, .string na, .string da], .agg #[.bool sb, .string nb, .string db]] W fun e w' => e = .returned (.tuple #[.agg #[.bool false, .string ⟨#[]⟩, .string ⟨#[]⟩], .int .i64 r4]) ∧ Below W.heap.size W w') (hVA : ratio_Valid.f 1 sa na da = some true) (hVB : ratio_Valid.f 1 sb nb db = some true) (hVX : ratio_Valid.f 1 false ⟨#[]⟩ ⟨#[]⟩ = some false) (h4 : (r4 == 0) = false) (w : World) (hT : Tabs w) :
    Calls Tryz.prog 7 #[.agg #[.bool sa, .string na, .string da], .agg #[.bool sb, .string nb, .string db], .int .u8 raw] w fun e w' => e = .returned (.bool true) ∧ Below w.heap.size w w' := by
  have HT := Aside0.mk hT
  clear hT
  have hu23 := Tryz.underlying23
  obtain ⟨W0, hW0⟩ : ∃ W0, ((w.alloc (.cells #[.bool sa, .string na, .string da] 23)).alloc (.cells #[.bool sb, .string nb, .string db] 23)) = W0 := ⟨_, rfl⟩
  have b0 : W0.heap[w.heap.size]? = some (.cells #[.bool sa, .string na, .string da] 23 (0, 0)) := by rw [← hW0]; exact blk_alloc (blk_new w (.cells #[.bool sa, .string na, .string da] 23)) _
  have Ba_0 := Aside0.mk b0
  clear b0
  have b1 : W0.heap[w.heap.size + 1]? = some (.cells #[.bool sb, .string nb, .string db] 23 (0, 0)) := by rw [← hW0]; exact (by have := blk_new (w.alloc (.cells #[.bool sa, .string na, .string da] 23)) (.cells #[.bool sb, .string nb, .string db] 23); simpa using this)
  have Bb_0 := Aside0.mk b1
  clear b1
  have HB0 : Aside0 (Below w.heap.size w W0) := Aside0.mk (by rw [← hW0]; exact below_alloc (below_alloc (Below.refl _ _) _) _)
  have HW := Aside0.mk hW0
  clear hW0
  have HH := Aside0.mk hH
  have HS := Aside0.mk hS
  clear hH hS
  have HC := Aside0.mk hC
  clear hC
  have HF := Aside0.mk hF
  clear hF
  have HVA := Aside0.mk hVA
  clear hVA
  have HVB := Aside0.mk hVB
  clear hVB
  have HVX := Aside0.mk hVX
  clear hVX
  go_enter Tryz.func7, Tryz.ntmps7
  go_wp2_with (first
    | (go_at_call 17; rw [HW.out]; refine (customhouselaw05_head.calls true _ HH.out (HT.out.below (HB0.out))).mono ?_; rintro e w1 ⟨rfl, hb⟩; have HB1 := Aside0.mk (below_step (HB0.out) hb); have Ba_1 := Aside0.mk (blk_below (Ba_0.out) hb); clear Ba_0; have Bb_1 := Aside0.mk (blk_below (Bb_0.out) hb); clear Bb_0; clear hb HB0; have za0_1 : w1.cell? ⟨w.heap.size, 0, none⟩ = some (.bool sa) := (blk_cell (Ba_1.out) 0).trans rfl; have za1_1 : w1.cell? ⟨w.heap.size, 1, none⟩ = some (.string na) := (blk_cell (Ba_1.out) 1).trans rfl; have za2_1 : w1.cell? ⟨w.heap.size, 2, none⟩ = some (.string da) := (blk_cell (Ba_1.out) 2).trans rfl; have zb0_1 : w1.cell? ⟨w.heap.size + 1, 0, none⟩ = some (.bool sb) := (blk_cell (Bb_1.out) 0).trans rfl; have zb1_1 : w1.cell? ⟨w.heap.size + 1, 1, none⟩ = some (.string nb) := (blk_cell (Bb_1.out) 1).trans rfl; have zb2_1 : w1.cell? ⟨w.heap.size + 1, 2, none⟩ = some (.string db) := (blk_cell (Bb_1.out) 2).trans rfl)
    | (go_at_call 20; refine (customhouselaw05_short.calls 200 160 (some ⟨w1.heap.size, 0, none⟩) 2 [⟨sa, na, da⟩, ⟨sb, nb, db⟩] true _ (lit23 w1 [⟨sa, na, da⟩, ⟨sb, nb, db⟩] (by simp) _ rfl) (Nat.le_refl _) HS.out).mono ?_; rintro e w2 ⟨rfl, hb0⟩; have hb := hb0.below; clear hb0; have HB2 := Aside0.mk (below_step (below_alloc (HB1.out) _) hb); have Ba_2 := Aside0.mk (blk_below (blk_alloc (Ba_1.out) _) hb); clear Ba_1; have Bb_2 := Aside0.mk (blk_below (blk_alloc (Bb_1.out) _) hb); clear Bb_1; clear hb HB1; clear za0_1 za1_1 za2_1 zb0_1 zb1_1 zb2_1; have za0_2 : w2.cell? ⟨w.heap.size, 0, none⟩ = some (.bool sa) := (blk_cell (Ba_2.out) 0).trans rfl; have za1_2 : w2.cell? ⟨w.heap.size, 1, none⟩ = some (.string na) := (blk_cell (Ba_2.out) 1).trans rfl; have za2_2 : w2.cell? ⟨w.heap.size, 2, none⟩ = some (.string da) := (blk_cell (Ba_2.out) 2).trans rfl; have zb0_2 : w2.cell? ⟨w.heap.size + 1, 0, none⟩ = some (.bool sb) := (blk_cell (Bb_2.out) 0).trans rfl; have zb1_2 : w2.cell? ⟨w.heap.size + 1, 1, none⟩ = some (.string nb) := (blk_cell (Bb_2.out) 1).trans rfl; have zb2_2 : w2.cell? ⟨w.heap.size + 1, 2, none⟩ = some (.string db) := (blk_cell (Bb_2.out) 2).trans rfl))
  have BO := Aside0.mk (blk_new w2 (.cells #[.func (.func 25) #[] #[], .func (.func 28) #[] #[], .func (.func 30) #[] #[], .func (.func 32) #[] #[]] 35))
  have HB3 := Aside0.mk (below_step HB2.out (below_drew (below_alloc (Below.refl _ _) (.cells #[.func (.func 25) #[] #[], .func (.func 28) #[] #[], .func (.func 30) #[] #[], .func (.func 32) #[] #[]] 35))))
  have JA := Aside0.mk (blk_drew (blk_alloc Ba_2.out (.cells #[.func (.func 25) #[] #[], .func (.func 28) #[] #[], .func (.func 30) #[] #[], .func (.func 32) #[] #[]] 35)))
  have JB := Aside0.mk (blk_drew (blk_alloc Bb_2.out (.cells #[.func (.func 25) #[] #[], .func (.func 28) #[] #[], .func (.func 30) #[] #[], .func (.func 32) #[] #[]] 35)))
  have JO := Aside0.mk (blk_drew BO.out)
  refine start_ (n := 15) (S := fun w' => w'.cell? ⟨w.heap.size, 0, none⟩ = some (.bool sa) ∧ w'.cell? ⟨w.heap.size, 1, none⟩ = some (.string na) ∧ w'.cell? ⟨w.heap.size, 2, none⟩ = some (.string da) ∧ w'.cell? ⟨w.heap.size + 1, 0, none⟩ = some (.bool sb) ∧ w'.cell? ⟨w.heap.size + 1, 1, none⟩ = some (.string nb) ∧ w'.cell? ⟨w.heap.size + 1, 2, none⟩ = some (.string db) ∧ w'.cell? ⟨w2.heap.size, i, none⟩ = some (.func (.func F) #[] #[])) (ds := []) #[false, false, false, false, false, false, false, false, false, false, false, false, false, false, false] (by kernel_rfl) rfl rfl ⟨(blk_cell JA.out 0).trans rfl, (blk_cell JA.out 1).trans rfl, (blk_cell JA.out 2).trans rfl, (blk_cell JB.out 0).trans rfl, (blk_cell JB.out 1).trans rfl, (blk_cell JB.out 2).trans rfl, (blk_cell JO.out i).trans HF.out⟩ (fun hHeld => ?_)
  clear BO Ba_2 Bb_2 HB2
  generalize (w2.alloc (.cells #[.func (.func 25) #[] #[], .func (.func 28) #[] #[], .func (.func 30) #[] #[], .func (.func 32) #[] #[]] 35)).drew = w3 at *
  refine pure_ (i := 0) (N := some 20) (v := ?_) (a' := ?_) #[true, false, false, false, false, false, false, false, false, false, false, false, false, false, false] rfl rfl (by kernel_rfl) (fun _ _ _ h => h) (Or.inl ⟨by rfl, ?_⟩) ?_ ?_
  rotate_left
  · intro w'
    go_simp
    with_reducible rfl
  rotate_left
  · simp only [Act.put, List.setIfInBounds_toArray, List.set_cons_zero, List.set_cons_succ, i64_w, i32_w]
    rfl
  refine pure_ (i := 1) (N := some 21) (v := ?_) (a' := ?_) #[true, true, false, false, false, false, false, false, false, false, false, false, false, false, false] rfl rfl (by kernel_rfl) (fun _ _ _ h => h) (Or.inl ⟨by rfl, ?_⟩) ?_ ?_
  rotate_left
  · intro w'
    go_simp
    with_reducible rfl
  rotate_left
  · simp only [Act.put, List.setIfInBounds_toArray, List.set_cons_zero, List.set_cons_succ, i64_w, i32_w]
    rfl
  refine pure_ (i := 2) (N := some 22) (v := ?_) (a' := ?_) #[true, true, true, false, false, false, false, false, false, false, false, false, false, false, false] rfl rfl (by kernel_rfl) (fun _ _ _ h => h) (Or.inl ⟨by rfl, ?_⟩) ?_ ?_
  rotate_left
  · intro w'
    go_simp
    with_reducible rfl
  rotate_left
  · simp only [Act.put, List.setIfInBounds_toArray, List.set_cons_zero, List.set_cons_succ, i64_w, i32_w]
    rfl
  refine pure_ (i := 3) (N := some 23) (v := ?_) (a' := ?_) #[true, true, true, true, false, false, false, false, false, false, false, false, false, false, false] rfl rfl (by kernel_rfl) (fun _ _ _ h => h) (Or.inl ⟨by rfl, ?_⟩) ?_ ?_
  rotate_left
  · intro w'
    go_simp
    with_reducible rfl
  rotate_left
  · simp only [Act.put, List.setIfInBounds_toArray, List.set_cons_zero, List.set_cons_succ, i64_w, i32_w]
    rfl
  refine pure_ (i := 4) (N := some 24) (v := ?_) (a' := ?_) #[true, true, true, true, true, false, false, false, false, false, false, false, false, false, false] rfl rfl (by kernel_rfl) (fun _ _ _ h => h) (Or.inl ⟨by rfl, ?_⟩) ?_ ?_
  rotate_left
  · intro w'
    go_simp
    with_reducible rfl
  rotate_left
  · simp only [Act.put, List.setIfInBounds_toArray, List.set_cons_zero, List.set_cons_succ, i64_w, i32_w]
    rfl
  refine take_ (i := 5) (N := some 25) (v := ?_) (a' := ?_) #[true, true, true, true, true, true, false, false, false, false, false, false, false, false, false] rfl rfl (by kernel_rfl) (fun _ _ _ h => h) (Or.inl ⟨by rfl, ?_⟩) hHeld ?_ ?_
  rotate_left
  · rintro w' ⟨s0, s1, s2, s3, s4, s5, s6⟩
    go_simp
    with_reducible rfl
  rotate_left
  · simp only [Act.put, List.setIfInBounds_toArray, List.set_cons_zero, List.set_cons_succ, i64_w, i32_w]
    rfl
  refine take_ (i := 6) (N := some 26) (v := ?_) (a' := ?_) #[true, true, true, true, true, true, true, false, false, false, false, false, false, false, false] rfl rfl (by kernel_rfl) (fun _ _ _ h => h) (Or.inl ⟨by rfl, ?_⟩) hHeld ?_ ?_
  rotate_left
  · rintro w' ⟨s0, s1, s2, s3, s4, s5, s6⟩
    go_simp
    with_reducible rfl
  rotate_left
  · simp only [Act.put, List.setIfInBounds_toArray, List.set_cons_zero, List.set_cons_succ, i64_w, i32_w]
    rfl
  refine take_ (i := 7) (N := some 27) (v := ?_) (a' := ?_) #[true, true, true, true, true, true, true, true, false, false, false, false, false, false, false] rfl rfl (by kernel_rfl) (fun _ _ _ h => h) (Or.inl ⟨by rfl, ?_⟩) hHeld ?_ ?_
  rotate_left
  · rintro w' ⟨s0, s1, s2, s3, s4, s5, s6⟩
    go_simp
    with_reducible rfl
  rotate_left
  · simp only [Act.put, List.setIfInBounds_toArray, List.set_cons_zero, List.set_cons_succ, i64_w, i32_w]
    rfl
  have lo : w2.heap.size < w3.heap.size := (Array.getElem?_eq_some_iff.1 JO.out).1
  have lb : w.heap.size + 1 < w3.heap.size := (Array.getElem?_eq_some_iff.1 JB.out).1
  have LOo := Aside0.mk lo
  have LBb := Aside0.mk lb
  clear lo lb
  refine join_ (σ := Nat) 2 #[true, true, true, true, true, true, true, true, true, true, true, true, true, false, false] (fun g => [(28, .tuple #[.agg #[.bool false, .string ⟨#[]⟩, .string ⟨#[]⟩], .int .i64 r4]), (19, .tuple #[.agg #[.bool false, .string ⟨#[]⟩, .string ⟨#[]⟩], .int .i64 r4]), (29, .agg #[.bool false, .string ⟨#[]⟩, .string ⟨#[]⟩]), (30, .int .i64 r4), (9, .pointer (some ⟨g, 0, none⟩))]) (fun g w' => w2.heap.size < g ∧ w.heap.size + 1 < g ∧ w'.heap[g]? = some (.cells #[.bool false, .string ⟨#[]⟩, .string ⟨#[]⟩] 23 (0, 0)) ∧ w.heap.size ≤ g ∧ Below w.heap.size w w' ∧ w'.heap[w.heap.size]? = some (.cells #[.bool sa, .string na, .string da] 23 (0, 0)) ∧ w'.heap[w.heap.size + 1]? = some (.cells #[.bool sb, .string nb, .string db] 23 (0, 0)) ∧ w'.heap[w2.heap.size]? = some (.cells #[.func (.func 25) #[] #[], .func (.func 28) #[] #[], .func (.func 30) #[] #[], .func (.func 32) #[] #[]] 35 (0, 0))) ?cont ?arms
  case arms =>
    intro hcont
    refine two_ (i := 8) (j := 12) (Ni := some 28) (Nj := some 9) #[true, true, true, true, true, true, true, true, true, false, false, false, false, false, false] #[true, true, true, true, true, true, true, true, false, false, false, false, true, false, false] rfl rfl rfl rfl (by kernel_rfl) (by decide) (by decide) (fun K hK => ?c1) (fun K hK => ?c2)
    case c1 =>
      refine call_ F #[.agg #[.bool sa, .string na, .string da], .agg #[.bool sb, .string nb, .string db]] (by rfl) rfl (by unfold execOp; simp [resolve, Deferred.ofValue, invoke, Act.eval, hent]) ?_
      refine (HC.out _ (HT.out.below HB3.out)).mono ?_
      rintro e w4 ⟨rfl, hb⟩
      refine ⟨_, rfl, ?_⟩
      have HS4 := Aside0.mk (below_size hb)
      have HB4 := Aside0.mk (below_step HB3.out hb)
      have KA := Aside0.mk (blk_below JA.out hb)
      have KB := Aside0.mk (blk_below JB.out hb)
      have KO := Aside0.mk (blk_below JO.out hb)
      clear hb
      refine hK.out _ _ ⟨(blk_cell KA.out 0).trans rfl, (blk_cell KA.out 1).trans rfl, (blk_cell KA.out 2).trans rfl, (blk_cell KB.out 0).trans rfl, (blk_cell KB.out 1).trans rfl, (blk_cell KB.out 2).trans rfl, (blk_cell KO.out i).trans HF.out⟩ (fun hHeld => ?_)
      clear hK K
      refine norm_ (a' := ?_) ?_ ?_
      rotate_left
      · show Act.put _ (some 28) _ = _
        simp only [Act.put, List.setIfInBounds_toArray, List.set_cons_zero, List.set_cons_succ, i64_w, i32_w]
        rfl
      refine pure_ (i := 9) (N := some 19) (v := ?_) (a' := ?_) #[true, true, true, true, true, true, true, true, true, true, false, false, false, false, false] rfl rfl (by kernel_rfl) (fun _ _ _ h => h) (Or.inl ⟨by rfl, ?_⟩) ?_ ?_
      rotate_left
      · intro w'
        go_simp
        with_reducible rfl
      rotate_left
      · simp only [Act.put, List.setIfInBounds_toArray, List.set_cons_zero, List.set_cons_succ, i64_w, i32_w]
        rfl
      refine pure_ (i := 10) (N := some 29) (v := ?_) (a' := ?_) #[true, true, true, true, true, true, true, true, true, true, true, false, false, false, false] rfl rfl (by kernel_rfl) (fun _ _ _ h => h) (Or.inl ⟨by rfl, ?_⟩) ?_ ?_
      rotate_left
      · intro w'
        go_simp
        with_reducible rfl
      rotate_left
      · simp only [Act.put, List.setIfInBounds_toArray, List.set_cons_zero, List.set_cons_succ, i64_w, i32_w]
        rfl
      refine pure_ (i := 11) (N := some 30) (v := ?_) (a' := ?_) #[true, true, true, true, true, true, true, true, true, true, true, true, false, false, false] rfl rfl (by kernel_rfl) (fun _ _ _ h => h) (Or.inl ⟨by rfl, ?_⟩) ?_ ?_
      rotate_left
      · intro w'
        go_simp
        with_reducible rfl
      rotate_left
      · simp only [Act.put, List.setIfInBounds_toArray, List.set_cons_zero, List.set_cons_succ, i64_w, i32_w]
        rfl
      refine one_ (i := 12) (N := some 9) #[true, true, true, true, true, true, true, true, true, true, true, true, true, false, false] rfl rfl (by kernel_rfl) (by decide) (fun K hK => ?_)
      refine value_ (w1 := ?_) (v := ?_) (by rfl) rfl ?_ ?_
      rotate_left 2
      · go_simp
        first | rfl | (constructor <;> rfl)
      have HB5 := Aside0.mk (below_alloc HB4.out (.cells #[.bool false, .string ⟨#[]⟩, .string ⟨#[]⟩] 23))
      refine hK.out _ _ ⟨(blk_cell (blk_alloc KA.out _) 0).trans rfl, (blk_cell (blk_alloc KA.out _) 1).trans rfl, (blk_cell (blk_alloc KA.out _) 2).trans rfl, (blk_cell (blk_alloc KB.out _) 0).trans rfl, (blk_cell (blk_alloc KB.out _) 1).trans rfl, (blk_cell (blk_alloc KB.out _) 2).trans rfl, (blk_cell (blk_alloc KO.out _) i).trans HF.out⟩ (fun hHeld => ?_)
      clear hK K
      refine norm_ ?_ (hcont w4.heap.size _ ⟨Nat.lt_of_lt_of_le LOo.out HS4.out, Nat.lt_of_lt_of_le LBb.out HS4.out, blk_new w4 _, below_size HB4.out, HB5.out, blk_alloc KA.out _, blk_alloc KB.out _, blk_alloc KO.out _⟩)
      simp only [putAll, Act.put, List.setIfInBounds_toArray, List.set_cons_zero, List.set_cons_succ, i64_w, i32_w]
    case c2 =>
      refine value_ (w1 := ?_) (v := ?_) (by rfl) rfl ?_ ?_
      rotate_left 2
      · go_simp
        first | rfl | (constructor <;> rfl)
      have HB4 := Aside0.mk (below_alloc HB3.out (.cells #[.bool false, .string ⟨#[]⟩, .string ⟨#[]⟩] 23))
      have KA := Aside0.mk (blk_alloc JA.out (.cells #[.bool false, .string ⟨#[]⟩, .string ⟨#[]⟩] 23))
      have KB := Aside0.mk (blk_alloc JB.out (.cells #[.bool false, .string ⟨#[]⟩, .string ⟨#[]⟩] 23))
      have KO := Aside0.mk (blk_alloc JO.out (.cells #[.bool false, .string ⟨#[]⟩, .string ⟨#[]⟩] 23))
      have KX := Aside0.mk (blk_new w3 (.cells #[.bool false, .string ⟨#[]⟩, .string ⟨#[]⟩] 23))
      refine hK.out _ _ ⟨(blk_cell KA.out 0).trans rfl, (blk_cell KA.out 1).trans rfl, (blk_cell KA.out 2).trans rfl, (blk_cell KB.out 0).trans rfl, (blk_cell KB.out 1).trans rfl, (blk_cell KB.out 2).trans rfl, (blk_cell KO.out i).trans HF.out⟩ (fun hHeld => ?_)
      clear hK K
      refine norm_ (a' := ?_) ?_ ?_
      rotate_left
      · show Act.put _ (some 9) _ = _
        simp only [Act.put, List.setIfInBounds_toArray, List.set_cons_zero, List.set_cons_succ, i64_w, i32_w]
        rfl
      refine one_ (i := 8) (N := some 28) #[true, true, true, true, true, true, true, true, true, false, false, false, true, false, false] rfl rfl (by kernel_rfl) (by decide) (fun K hK => ?_)
      refine call_ F #[.agg #[.bool sa, .string na, .string da], .agg #[.bool sb, .string nb, .string db]] (by rfl) rfl (by unfold execOp; simp [resolve, Deferred.ofValue, invoke, Act.eval, hent]) ?_
      refine (HC.out _ (HT.out.below HB4.out)).mono ?_
      rintro e w5 ⟨rfl, hb⟩
      refine ⟨_, rfl, ?_⟩
      have HB5 := Aside0.mk (below_step HB4.out hb)
      have LA := Aside0.mk (blk_below KA.out hb)
      have LB := Aside0.mk (blk_below KB.out hb)
      have LO := Aside0.mk (blk_below KO.out hb)
      have LX := Aside0.mk (blk_below KX.out hb)
      clear hb
      refine hK.out _ _ ⟨(blk_cell LA.out 0).trans rfl, (blk_cell LA.out 1).trans rfl, (blk_cell LA.out 2).trans rfl, (blk_cell LB.out 0).trans rfl, (blk_cell LB.out 1).trans rfl, (blk_cell LB.out 2).trans rfl, (blk_cell LO.out i).trans HF.out⟩ (fun hHeld => ?_)
      clear hK K
      refine norm_ (a' := ?_) ?_ ?_
      rotate_left
      · show Act.put _ (some 28) _ = _
        simp only [Act.put, List.setIfInBounds_toArray, List.set_cons_zero, List.set_cons_succ, i64_w, i32_w]
        rfl
      refine pure_ (i := 9) (N := some 19) (v := ?_) (a' := ?_) #[true, true, true, true, true, true, true, true, true, true, false, false, true, false, false] rfl rfl (by kernel_rfl) (fun _ _ _ h => h) (Or.inl ⟨by rfl, ?_⟩) ?_ ?_
      rotate_left
      · intro w'
        go_simp
        with_reducible rfl
      rotate_left
      · simp only [Act.put, List.setIfInBounds_toArray, List.set_cons_zero, List.set_cons_succ, i64_w, i32_w]
        rfl
      refine pure_ (i := 10) (N := some 29) (v := ?_) (a' := ?_) #[true, true, true, true, true, true, true, true, true, true, true, false, true, false, false] rfl rfl (by kernel_rfl) (fun _ _ _ h => h) (Or.inl ⟨by rfl, ?_⟩) ?_ ?_
      rotate_left
      · intro w'
        go_simp
        with_reducible rfl
      rotate_left
      · simp only [Act.put, List.setIfInBounds_toArray, List.set_cons_zero, List.set_cons_succ, i64_w, i32_w]
        rfl
      refine pure_ (i := 11) (N := some 30) (v := ?_) (a' := ?_) #[true, true, true, true, true, true, true, true, true, true, true, true, true, false, false] rfl rfl (by kernel_rfl) (fun _ _ _ h => h) (Or.inl ⟨by rfl, ?_⟩) ?_ ?_
      rotate_left
      · intro w'
        go_simp
        with_reducible rfl
      rotate_left
      · simp only [Act.put, List.setIfInBounds_toArray, List.set_cons_zero, List.set_cons_succ, i64_w, i32_w]
        rfl
      refine norm_ ?_ (hcont w3.heap.size _ ⟨LOo.out, LBb.out, LX.out, below_size HB3.out, HB5.out, LA.out, LB.out, LO.out⟩)
      simp only [putAll, Act.put, List.setIfInBounds_toArray, List.set_cons_zero, List.set_cons_succ, i64_w, i32_w]
  case cont =>
    rintro g w4 ⟨hgo, hgb, hg, hgs, hb, ha, hbb, ho⟩
    have GX := Aside0.mk hg
    have GS := Aside0.mk hgs
    have HB4 := Aside0.mk hb
    have KA := Aside0.mk ha
    have KB := Aside0.mk hbb
    have KO := Aside0.mk ho
    clear hg hgs hb ha hbb ho
    refine norm_ (a' := ?_) ?_ ?_
    rotate_left
    · simp only [putAll, Act.put, List.setIfInBounds_toArray, List.set_cons_zero, List.set_cons_succ, i64_w, i32_w]
      rfl
    have nothing := trivial
    have zx0 : w4.cell? ⟨g, 0, none⟩ = some (.bool false) := (blk_cell GX.out 0).trans rfl
    have zx1 : w4.cell? ⟨g, 1, none⟩ = some (.string ⟨#[]⟩) := (blk_cell GX.out 1).trans rfl
    have zx2 : w4.cell? ⟨g, 2, none⟩ = some (.string ⟨#[]⟩) := (blk_cell GX.out 2).trans rfl
    have fx0 := blk_frozen GX.out 0
    have fx1 := blk_frozen GX.out 1
    have fx2 := blk_frozen GX.out 2
    refine one_ (i := 13) (N := none) #[true, true, true, true, true, true, true, true, true, true, true, true, true, true, false] rfl rfl (by kernel_rfl) (by decide) (fun K hK => ?_)
    refine skip_ (w1 := ?_) (by rfl) rfl ?_ ?_
    rotate_left
    · go_simp
      rfl
    have NA := Aside0.mk (show w.heap.size ≠ g by omega)
    have NB := Aside0.mk (show w.heap.size + 1 ≠ g by omega)
    have NO := Aside0.mk (show w2.heap.size ≠ g by omega)
    clear hgo hgb
    have Q1 := Aside0.mk (blk_put (cs := #[.bool false, .string ⟨#[]⟩, .string ⟨#[]⟩]) (blk_put GX.out 0 (.bool false) rfl) 1 (.string ⟨#[]⟩) rfl)
    have Bx_5 := Aside0.mk (blk_put (cs := #[.bool false, .string ⟨#[]⟩, .string ⟨#[]⟩]) Q1.out 2 (.string ⟨#[]⟩) rfl)
    have Ba_5 := Aside0.mk (blk_far (p := ⟨g, 2, none⟩) (blk_far (p := ⟨g, 1, none⟩) (blk_far (p := ⟨g, 0, none⟩) KA.out NA.out (.bool false)) NA.out (.string ⟨#[]⟩)) NA.out (.string ⟨#[]⟩))
    have Bb_5 := Aside0.mk (blk_far (p := ⟨g, 2, none⟩) (blk_far (p := ⟨g, 1, none⟩) (blk_far (p := ⟨g, 0, none⟩) KB.out NB.out (.bool false)) NB.out (.string ⟨#[]⟩)) NB.out (.string ⟨#[]⟩))
    have BO_5 := Aside0.mk (blk_far (p := ⟨g, 2, none⟩) (blk_far (p := ⟨g, 1, none⟩) (blk_far (p := ⟨g, 0, none⟩) KO.out NO.out (.bool false)) NO.out (.string ⟨#[]⟩)) NO.out (.string ⟨#[]⟩))
    have HB5 := Aside0.mk (((HB4.out.setCell (p := ⟨g, 0, none⟩) GS.out (.bool false)).setCell (p := ⟨g, 1, none⟩) GS.out (.string ⟨#[]⟩)).setCell (p := ⟨g, 2, none⟩) GS.out (.string ⟨#[]⟩))
    clear Q1 KA KB KO GX zx0 zx1 zx2 fx0 fx1 fx2 nothing HB4
    refine hK.out _ _ ⟨(blk_cell Ba_5.out 0).trans rfl, (blk_cell Ba_5.out 1).trans rfl, (blk_cell Ba_5.out 2).trans rfl, (blk_cell Bb_5.out 0).trans rfl, (blk_cell Bb_5.out 1).trans rfl, (blk_cell Bb_5.out 2).trans rfl, (blk_cell BO_5.out i).trans HF.out⟩ (fun hHeld => ?_)
    clear hK K BO_5 NA NB NO
    generalize (((w4.setCell ⟨g, 0, none⟩ (.bool false)).setCell ⟨g, 1, none⟩ (.string ⟨#[]⟩)).setCell ⟨g, 2, none⟩ (.string ⟨#[]⟩)) = w5 at *
    refine pure_ (i := 14) (N := some 10) (v := ?_) (a' := ?_) #[true, true, true, true, true, true, true, true, true, true, true, true, true, true, true] rfl rfl (by kernel_rfl) (fun _ _ _ h => h) (Or.inl ⟨by rfl, ?_⟩) ?_ ?_
    rotate_left
    · intro w'
      go_simp
      with_reducible rfl
    rotate_left
    · simp only [Act.put, List.setIfInBounds_toArray, List.set_cons_zero, List.set_cons_succ, i64_w, i32_w]
      rfl
    refine done_ (by kernel_rfl) ?_
    have za0 : w5.cell? ⟨w.heap.size, 0, none⟩ = some (.bool sa) := (blk_cell Ba_5.out 0).trans rfl
    have za1 : w5.cell? ⟨w.heap.size, 1, none⟩ = some (.string na) := (blk_cell Ba_5.out 1).trans rfl
    have za2 : w5.cell? ⟨w.heap.size, 2, none⟩ = some (.string da) := (blk_cell Ba_5.out 2).trans rfl
    go_wp2_with (first
      | (go_at_call 21; refine (ratio_Valid.calls 1 sa na da true _ HVA.out (HT.out.below (HB5.out))).mono ?_; rintro e w6 ⟨rfl, hb⟩; have HB6 := Aside0.mk (below_step (HB5.out) hb); have Ba_6 := Aside0.mk (blk_below (Ba_5.out) hb); clear Ba_5; have Bb_6 := Aside0.mk (blk_below (Bb_5.out) hb); clear Bb_5; have Bx_6 := Aside0.mk (blk_below (Bx_5.out) hb); clear Bx_5; clear hb HB5 za0 za1 za2; have zb0_6 : w6.cell? ⟨w.heap.size + 1, 0, none⟩ = some (.bool sb) := (blk_cell (Bb_6.out) 0).trans rfl; have zb1_6 : w6.cell? ⟨w.heap.size + 1, 1, none⟩ = some (.string nb) := (blk_cell (Bb_6.out) 1).trans rfl; have zb2_6 : w6.cell? ⟨w.heap.size + 1, 2, none⟩ = some (.string db) := (blk_cell (Bb_6.out) 2).trans rfl)
      | (go_at_call 21; refine (ratio_Valid.calls 1 sb nb db true _ HVB.out (HT.out.below (HB6.out))).mono ?_; rintro e w7 ⟨rfl, hb⟩; have HB7 := Aside0.mk (below_step (HB6.out) hb); have Ba_7 := Aside0.mk (blk_below (Ba_6.out) hb); clear Ba_6; have Bb_7 := Aside0.mk (blk_below (Bb_6.out) hb); clear Bb_6; have Bx_7 := Aside0.mk (blk_below (Bx_6.out) hb); clear Bx_6; clear hb HB6; clear zb0_6 zb1_6 zb2_6; have zx0_7 : w7.cell? ⟨g, 0, none⟩ = some (.bool false) := (blk_cell (Bx_7.out) 0).trans rfl; have zx1_7 : w7.cell? ⟨g, 1, none⟩ = some (.string ⟨#[]⟩) := (blk_cell (Bx_7.out) 1).trans rfl; have zx2_7 : w7.cell? ⟨g, 2, none⟩ = some (.string ⟨#[]⟩) := (blk_cell (Bx_7.out) 2).trans rfl)
      | (go_at_call 21; refine (ratio_Valid.calls 1 false ⟨#[]⟩ ⟨#[]⟩ false _ HVX.out (HT.out.below (HB7.out))).mono ?_; rintro e w8 ⟨rfl, hb⟩; have HB8 := Aside0.mk (below_step (HB7.out) hb); have Ba_8 := Aside0.mk (blk_below (Ba_7.out) hb); clear Ba_7; have Bb_8 := Aside0.mk (blk_below (Bb_7.out) hb); clear Bb_7; have Bx_8 := Aside0.mk (blk_below (Bx_7.out) hb); clear Bx_7; clear hb HB7; clear zx0_7 zx1_7 zx2_7; have zx0_8 : w8.cell? ⟨g, 0, none⟩ = some (.bool false) := (blk_cell (Bx_8.out) 0).trans rfl; have zx1_8 : w8.cell? ⟨g, 1, none⟩ = some (.string ⟨#[]⟩) := (blk_cell (Bx_8.out) 1).trans rfl; have zx2_8 : w8.cell? ⟨g, 2, none⟩ = some (.string ⟨#[]⟩) := (blk_cell (Bx_8.out) 2).trans rfl))
    go_ret
    exact ⟨rfl, HB8.out⟩
end Go.Proofs.YtfaibifilpfikaaGreatDoor.F7
