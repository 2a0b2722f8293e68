/- The statement RatioOrder walked, given what its calls answer; conditions: Go's tables. -/
import Derived.Test.YtfaibifilpfikaaGreatDoorF0
import Derived.Test.YtfaibifilpfikaaGreatDoorX7
namespace Go.Proofs.YtfaibifilpfikaaGreatDoor.F6a
open Go.RowKit Go.Lib Go.Proofs.YtfaibifilpfikaaGreatDoorW.PrintWords Go.Proofs.YtfaibifilpfikaaGreatDoorW.PrintLast Go.Proofs.YtfaibifilpfikaaGreatDoorW.PrintMore Go.Proofs.YtfaibifilpfikaaGreatDoor.A Go.Proofs.YtfaibifilpfikaaGreatDoor.N14 Go.Proofs.YtfaibifilpfikaaGreatDoor.N15 Go.Proofs.YtfaibifilpfikaaGreatDoor.N16 Go.Proofs.YtfaibifilpfikaaGreatDoor.N18 Go.Proofs.YtfaibifilpfikaaGreatDoor.X2 Go.Proofs.YtfaibifilpfikaaGreatDoor.X7 Go.Proofs.YtfaibifilpfikaaGreatDoor.C Go.Proofs.YtfaibifilpfikaaGreatDoor.D Go.Proofs.YtfaibifilpfikaaGreatDoor.F0
set_option linter.unusedVariables false
set_option linter.unusedSimpArgs false
attribute [local go_sem high] eqA23
theorem am {p : Prop} (h : p) : Aside0 p := ⟨h⟩
set_option maxRecDepth 100000 in
set_option maxHeartbeats 8000000 in
theorem order_long (sa sb sc : Bool) (na da nb db nc dc : ByteArray) (hH : customhouselaw05_head.f = some true) (hS : customhouselaw05_short.f 200 40 [⟨sa, na, da⟩, ⟨sb, nb, db⟩, ⟨sc, nc, dc⟩] = some false) (w : World) (hT : Tabs w) :
    Calls Tryz.prog 6 #[.agg #[.bool sa, .string na, .string da], .agg #[.bool sb, .string nb, .string db], .agg #[.bool sc, .string nc, .string dc]] w fun e w' => e = .returned (.bool true) ∧ Below w.heap.size w w' := by
  have HT := am hT
  clear hT
  have hu23 := Tryz.underlying23
  obtain ⟨W0, hW0⟩ : ∃ W0, (((w.alloc (.cells #[.bool sa, .string na, .string da] 23)).alloc (.cells #[.bool sb, .string nb, .string db] 23)).alloc (.cells #[.bool sc, .string nc, .string dc] 23)) = W0 := ⟨_, rfl⟩
  have b0 : W0.heap[w.heap.size]? = some (.cells #[.bool sa, .string na, .string da] 23 (0, 0)) := by rw [← hW0]; exact blk_alloc (blk_alloc (blk_new w (.cells #[.bool sa, .string na, .string da] 23)) _) _
  have Ba_0 := am b0
  clear b0
  have b1 : W0.heap[w.heap.size + 1]? = some (.cells #[.bool sb, .string nb, .string db] 23 (0, 0)) := by rw [← hW0]; exact blk_alloc ((by have := blk_new (w.alloc (.cells #[.bool sa, .string na, .string da] 23)) (.cells #[.bool sb, .string nb, .string db] 23); simpa using this)) _
  have Bb_0 := am b1
  clear b1
  have b2 : W0.heap[w.heap.size + 1 + 1]? = some (.cells #[.bool sc, .string nc, .string dc] 23 (0, 0)) := by rw [← hW0]; exact (by have := blk_new ((w.alloc (.cells #[.bool sa, .string na, .string da] 23)).alloc (.cells #[.bool sb, .string nb, .string db] 23)) (.cells #[.bool sc, .string nc, .string dc] 23); simpa using this)
  have Bc_0 := am b2
  clear b2
  have HB0 : Aside0 (Below w.heap.size w W0) := am (by rw [← hW0]; exact below_alloc (below_alloc (below_alloc (Below.refl _ _) _) _) _)
  have HW := am hW0
  clear hW0
  have HH := am hH
  have HS := am hS
  clear hH hS
  go_enter Tryz.func6, Tryz.ntmps6
  go_wp2_with (first
    | (go_at_call 17; rw [HW.out]; refine (customhouselaw05_head.calls true _ HH.out (HT.out.below (HB0.out))).mono ?_; rintro e w1 ⟨rfl, hb⟩; have HB1 := am (below_step (HB0.out) hb); have Ba_1 := am (blk_below (Ba_0.out) hb); clear Ba_0; have Bb_1 := am (blk_below (Bb_0.out) hb); clear Bb_0; have Bc_1 := am (blk_below (Bc_0.out) hb); clear Bc_0; clear hb HB0; have za0_1 : w1.cell? ⟨w.heap.size, 0, none⟩ = some (.bool sa) := (blk_cell (Ba_1.out) 0).trans rfl; have za1_1 : w1.cell? ⟨w.heap.size, 1, none⟩ = some (.string na) := (blk_cell (Ba_1.out) 1).trans rfl; have za2_1 : w1.cell? ⟨w.heap.size, 2, none⟩ = some (.string da) := (blk_cell (Ba_1.out) 2).trans rfl; have zb0_1 : w1.cell? ⟨w.heap.size + 1, 0, none⟩ = some (.bool sb) := (blk_cell (Bb_1.out) 0).trans rfl; have zb1_1 : w1.cell? ⟨w.heap.size + 1, 1, none⟩ = some (.string nb) := (blk_cell (Bb_1.out) 1).trans rfl; have zb2_1 : w1.cell? ⟨w.heap.size + 1, 2, none⟩ = some (.string db) := (blk_cell (Bb_1.out) 2).trans rfl; have zc0_1 : w1.cell? ⟨w.heap.size + 1 + 1, 0, none⟩ = some (.bool sc) := (blk_cell (Bc_1.out) 0).trans rfl; have zc1_1 : w1.cell? ⟨w.heap.size + 1 + 1, 1, none⟩ = some (.string nc) := (blk_cell (Bc_1.out) 1).trans rfl; have zc2_1 : w1.cell? ⟨w.heap.size + 1 + 1, 2, none⟩ = some (.string dc) := (blk_cell (Bc_1.out) 2).trans rfl)
    | (go_at_call 20; refine (customhouselaw05_short.calls 200 40 (some ⟨w1.heap.size, 0, none⟩) 3 [⟨sa, na, da⟩, ⟨sb, nb, db⟩, ⟨sc, nc, dc⟩] false _ (lit23 w1 [⟨sa, na, da⟩, ⟨sb, nb, db⟩, ⟨sc, nc, dc⟩] (by simp) _ rfl) (Nat.le_refl _) HS.out).mono ?_; rintro e w2 ⟨rfl, hb0⟩; have hb := hb0.below; clear hb0; have HB2 := am (below_step (below_alloc (HB1.out) _) hb); have Ba_2 := am (blk_below (blk_alloc (Ba_1.out) _) hb); clear Ba_1; have Bb_2 := am (blk_below (blk_alloc (Bb_1.out) _) hb); clear Bb_1; have Bc_2 := am (blk_below (blk_alloc (Bc_1.out) _) hb); clear Bc_1; clear hb HB1; clear za0_1 za1_1 za2_1 zb0_1 zb1_1 zb2_1 zc0_1 zc1_1 zc2_1))
  go_ret
  exact ⟨rfl, HB2.out⟩
set_option maxRecDepth 100000 in
set_option maxHeartbeats 8000000 in
theorem order_bad0 (sa sb sc : Bool) (na da nb db nc dc : ByteArray) (hH : customhouselaw05_head.f = some true) (hS : customhouselaw05_short.f 200 40 [⟨sa, na, da⟩, ⟨sb, nb, db⟩, ⟨sc, nc, dc⟩] = some true) (hV0 : ratio_Valid.f 1 sa na da = some false) (w : World) (hT : Tabs w) :
    Calls Tryz.prog 6 #[.agg #[.bool sa, .string na, .string da], .agg #[.bool sb, .string nb, .string db], .agg #[.bool sc, .string nc, .string dc]] w fun e w' => e = .returned (.bool true) ∧ Below w.heap.size w w' := by
  have HT := am hT
  clear hT
  have hu23 := Tryz.underlying23
  obtain ⟨W0, hW0⟩ : ∃ W0, (((w.alloc (.cells #[.bool sa, .string na, .string da] 23)).alloc (.cells #[.bool sb, .string nb, .string db] 23)).alloc (.cells #[.bool sc, .string nc, .string dc] 23)) = W0 := ⟨_, rfl⟩
  have b0 : W0.heap[w.heap.size]? = some (.cells #[.bool sa, .string na, .string da] 23 (0, 0)) := by rw [← hW0]; exact blk_alloc (blk_alloc (blk_new w (.cells #[.bool sa, .string na, .string da] 23)) _) _
  have Ba_0 := am b0
  clear b0
  have b1 : W0.heap[w.heap.size + 1]? = some (.cells #[.bool sb, .string nb, .string db] 23 (0, 0)) := by rw [← hW0]; exact blk_alloc ((by have := blk_new (w.alloc (.cells #[.bool sa, .string na, .string da] 23)) (.cells #[.bool sb, .string nb, .string db] 23); simpa using this)) _
  have Bb_0 := am b1
  clear b1
  have b2 : W0.heap[w.heap.size + 1 + 1]? = some (.cells #[.bool sc, .string nc, .string dc] 23 (0, 0)) := by rw [← hW0]; exact (by have := blk_new ((w.alloc (.cells #[.bool sa, .string na, .string da] 23)).alloc (.cells #[.bool sb, .string nb, .string db] 23)) (.cells #[.bool sc, .string nc, .string dc] 23); simpa using this)
  have Bc_0 := am b2
  clear b2
  have HB0 : Aside0 (Below w.heap.size w W0) := am (by rw [← hW0]; exact below_alloc (below_alloc (below_alloc (Below.refl _ _) _) _) _)
  have HW := am hW0
  clear hW0
  have HH := am hH
  have HS := am hS
  clear hH hS
  have HV0 := am hV0
  clear hV0
  go_enter Tryz.func6, Tryz.ntmps6
  go_wp2_with (first
    | (go_at_call 17; rw [HW.out]; refine (customhouselaw05_head.calls true _ HH.out (HT.out.below (HB0.out))).mono ?_; rintro e w1 ⟨rfl, hb⟩; have HB1 := am (below_step (HB0.out) hb); have Ba_1 := am (blk_below (Ba_0.out) hb); clear Ba_0; have Bb_1 := am (blk_below (Bb_0.out) hb); clear Bb_0; have Bc_1 := am (blk_below (Bc_0.out) hb); clear Bc_0; clear hb HB0; have za0_1 : w1.cell? ⟨w.heap.size, 0, none⟩ = some (.bool sa) := (blk_cell (Ba_1.out) 0).trans rfl; have za1_1 : w1.cell? ⟨w.heap.size, 1, none⟩ = some (.string na) := (blk_cell (Ba_1.out) 1).trans rfl; have za2_1 : w1.cell? ⟨w.heap.size, 2, none⟩ = some (.string da) := (blk_cell (Ba_1.out) 2).trans rfl; have zb0_1 : w1.cell? ⟨w.heap.size + 1, 0, none⟩ = some (.bool sb) := (blk_cell (Bb_1.out) 0).trans rfl; have zb1_1 : w1.cell? ⟨w.heap.size + 1, 1, none⟩ = some (.string nb) := (blk_cell (Bb_1.out) 1).trans rfl; have zb2_1 : w1.cell? ⟨w.heap.size + 1, 2, none⟩ = some (.string db) := (blk_cell (Bb_1.out) 2).trans rfl; have zc0_1 : w1.cell? ⟨w.heap.size + 1 + 1, 0, none⟩ = some (.bool sc) := (blk_cell (Bc_1.out) 0).trans rfl; have zc1_1 : w1.cell? ⟨w.heap.size + 1 + 1, 1, none⟩ = some (.string nc) := (blk_cell (Bc_1.out) 1).trans rfl; have zc2_1 : w1.cell? ⟨w.heap.size + 1 + 1, 2, none⟩ = some (.string dc) := (blk_cell (Bc_1.out) 2).trans rfl)
    | (go_at_call 20; refine (customhouselaw05_short.calls 200 40 (some ⟨w1.heap.size, 0, none⟩) 3 [⟨sa, na, da⟩, ⟨sb, nb, db⟩, ⟨sc, nc, dc⟩] true _ (lit23 w1 [⟨sa, na, da⟩, ⟨sb, nb, db⟩, ⟨sc, nc, dc⟩] (by simp) _ rfl) (Nat.le_refl _) HS.out).mono ?_; rintro e w2 ⟨rfl, hb0⟩; have hb := hb0.below; clear hb0; have HB2 := am (below_step (below_alloc (HB1.out) _) hb); have Ba_2 := am (blk_below (blk_alloc (Ba_1.out) _) hb); clear Ba_1; have Bb_2 := am (blk_below (blk_alloc (Bb_1.out) _) hb); clear Bb_1; have Bc_2 := am (blk_below (blk_alloc (Bc_1.out) _) hb); clear Bc_1; clear hb HB1; clear za0_1 za1_1 za2_1 zb0_1 zb1_1 zb2_1 zc0_1 zc1_1 zc2_1; have za0_2 : w2.cell? ⟨w.heap.size, 0, none⟩ = some (.bool sa) := (blk_cell (Ba_2.out) 0).trans rfl; have za1_2 : w2.cell? ⟨w.heap.size, 1, none⟩ = some (.string na) := (blk_cell (Ba_2.out) 1).trans rfl; have za2_2 : w2.cell? ⟨w.heap.size, 2, none⟩ = some (.string da) := (blk_cell (Ba_2.out) 2).trans rfl)
    | (go_at_call 21; refine (ratio_Valid.calls 1 sa na da false _ HV0.out (HT.out.below (HB2.out))).mono ?_; rintro e w3 ⟨rfl, hb⟩; have HB3 := am (below_step (HB2.out) hb); have Ba_3 := am (blk_below (Ba_2.out) hb); clear Ba_2; have Bb_3 := am (blk_below (Bb_2.out) hb); clear Bb_2; have Bc_3 := am (blk_below (Bc_2.out) hb); clear Bc_2; clear hb HB2; clear za0_2 za1_2 za2_2))
  go_ret
  exact ⟨rfl, HB3.out⟩
set_option maxRecDepth 100000 in
set_option maxHeartbeats 8000000 in
theorem order_bad1 (sa sb sc : Bool) (na da nb db nc dc : ByteArray) (hH : customhouselaw05_head.f = some true) (hS : customhouselaw05_short.f 200 40 [⟨sa, na, da⟩, ⟨sb, nb, db⟩, ⟨sc, nc, dc⟩] = some true) (hV0 : ratio_Valid.f 1 sa na da = some true) (hV1 : ratio_Valid.f 1 sb nb db = some false) (w : World) (hT : Tabs w) :
    Calls Tryz.prog 6 #[.agg #[.bool sa, .string na, .string da], .agg #[.bool sb, .string nb, .string db], .agg #[.bool sc, .string nc, .string dc]] w fun e w' => e = .returned (.bool true) ∧ Below w.heap.size w w' := by
  have HT := am hT
  clear hT
  have hu23 := Tryz.underlying23
  obtain ⟨W0, hW0⟩ : ∃ W0, (((w.alloc (.cells #[.bool sa, .string na, .string da] 23)).alloc (.cells #[.bool sb, .string nb, .string db] 23)).alloc (.cells #[.bool sc, .string nc, .string dc] 23)) = W0 := ⟨_, rfl⟩
  have b0 : W0.heap[w.heap.size]? = some (.cells #[.bool sa, .string na, .string da] 23 (0, 0)) := by rw [← hW0]; exact blk_alloc (blk_alloc (blk_new w (.cells #[.bool sa, .string na, .string da] 23)) _) _
  have Ba_0 := am b0
  clear b0
  have b1 : W0.heap[w.heap.size + 1]? = some (.cells #[.bool sb, .string nb, .string db] 23 (0, 0)) := by rw [← hW0]; exact blk_alloc ((by have := blk_new (w.alloc (.cells #[.bool sa, .string na, .string da] 23)) (.cells #[.bool sb, .string nb, .string db] 23); simpa using this)) _
  have Bb_0 := am b1
  clear b1
  have b2 : W0.heap[w.heap.size + 1 + 1]? = some (.cells #[.bool sc, .string nc, .string dc] 23 (0, 0)) := by rw [← hW0]; exact (by have := blk_new ((w.alloc (.cells #[.bool sa, .string na, .string da] 23)).alloc (.cells #[.bool sb, .string nb, .string db] 23)) (.cells #[.bool sc, .string nc, .string dc] 23); simpa using this)
  have Bc_0 := am b2
  clear b2
  have HB0 : Aside0 (Below w.heap.size w W0) := am (by rw [← hW0]; exact below_alloc (below_alloc (below_alloc (Below.refl _ _) _) _) _)
  have HW := am hW0
  clear hW0
  have HH := am hH
  have HS := am hS
  clear hH hS
  have HV0 := am hV0
  clear hV0
  have HV1 := am hV1
  clear hV1
  go_enter Tryz.func6, Tryz.ntmps6
  go_wp2_with (first
    | (go_at_call 17; rw [HW.out]; refine (customhouselaw05_head.calls true _ HH.out (HT.out.below (HB0.out))).mono ?_; rintro e w1 ⟨rfl, hb⟩; have HB1 := am (below_step (HB0.out) hb); have Ba_1 := am (blk_below (Ba_0.out) hb); clear Ba_0; have Bb_1 := am (blk_below (Bb_0.out) hb); clear Bb_0; have Bc_1 := am (blk_below (Bc_0.out) hb); clear Bc_0; clear hb HB0; have za0_1 : w1.cell? ⟨w.heap.size, 0, none⟩ = some (.bool sa) := (blk_cell (Ba_1.out) 0).trans rfl; have za1_1 : w1.cell? ⟨w.heap.size, 1, none⟩ = some (.string na) := (blk_cell (Ba_1.out) 1).trans rfl; have za2_1 : w1.cell? ⟨w.heap.size, 2, none⟩ = some (.string da) := (blk_cell (Ba_1.out) 2).trans rfl; have zb0_1 : w1.cell? ⟨w.heap.size + 1, 0, none⟩ = some (.bool sb) := (blk_cell (Bb_1.out) 0).trans rfl; have zb1_1 : w1.cell? ⟨w.heap.size + 1, 1, none⟩ = some (.string nb) := (blk_cell (Bb_1.out) 1).trans rfl; have zb2_1 : w1.cell? ⟨w.heap.size + 1, 2, none⟩ = some (.string db) := (blk_cell (Bb_1.out) 2).trans rfl; have zc0_1 : w1.cell? ⟨w.heap.size + 1 + 1, 0, none⟩ = some (.bool sc) := (blk_cell (Bc_1.out) 0).trans rfl; have zc1_1 : w1.cell? ⟨w.heap.size + 1 + 1, 1, none⟩ = some (.string nc) := (blk_cell (Bc_1.out) 1).trans rfl; have zc2_1 : w1.cell? ⟨w.heap.size + 1 + 1, 2, none⟩ = some (.string dc) := (blk_cell (Bc_1.out) 2).trans rfl)
    | (go_at_call 20; refine (customhouselaw05_short.calls 200 40 (some ⟨w1.heap.size, 0, none⟩) 3 [⟨sa, na, da⟩, ⟨sb, nb, db⟩, ⟨sc, nc, dc⟩] true _ (lit23 w1 [⟨sa, na, da⟩, ⟨sb, nb, db⟩, ⟨sc, nc, dc⟩] (by simp) _ rfl) (Nat.le_refl _) HS.out).mono ?_; rintro e w2 ⟨rfl, hb0⟩; have hb := hb0.below; clear hb0; have HB2 := am (below_step (below_alloc (HB1.out) _) hb); have Ba_2 := am (blk_below (blk_alloc (Ba_1.out) _) hb); clear Ba_1; have Bb_2 := am (blk_below (blk_alloc (Bb_1.out) _) hb); clear Bb_1; have Bc_2 := am (blk_below (blk_alloc (Bc_1.out) _) hb); clear Bc_1; clear hb HB1; clear za0_1 za1_1 za2_1 zb0_1 zb1_1 zb2_1 zc0_1 zc1_1 zc2_1; have za0_2 : w2.cell? ⟨w.heap.size, 0, none⟩ = some (.bool sa) := (blk_cell (Ba_2.out) 0).trans rfl; have za1_2 : w2.cell? ⟨w.heap.size, 1, none⟩ = some (.string na) := (blk_cell (Ba_2.out) 1).trans rfl; have za2_2 : w2.cell? ⟨w.heap.size, 2, none⟩ = some (.string da) := (blk_cell (Ba_2.out) 2).trans rfl)
    | (go_at_call 21; refine (ratio_Valid.calls 1 sa na da true _ HV0.out (HT.out.below (HB2.out))).mono ?_; rintro e w3 ⟨rfl, hb⟩; have HB3 := am (below_step (HB2.out) hb); have Ba_3 := am (blk_below (Ba_2.out) hb); clear Ba_2; have Bb_3 := am (blk_below (Bb_2.out) hb); clear Bb_2; have Bc_3 := am (blk_below (Bc_2.out) hb); clear Bc_2; clear hb HB2; clear za0_2 za1_2 za2_2; have zb0_3 : w3.cell? ⟨w.heap.size + 1, 0, none⟩ = some (.bool sb) := (blk_cell (Bb_3.out) 0).trans rfl; have zb1_3 : w3.cell? ⟨w.heap.size + 1, 1, none⟩ = some (.string nb) := (blk_cell (Bb_3.out) 1).trans rfl; have zb2_3 : w3.cell? ⟨w.heap.size + 1, 2, none⟩ = some (.string db) := (blk_cell (Bb_3.out) 2).trans rfl)
    | (go_at_call 21; refine (ratio_Valid.calls 1 sb nb db false _ HV1.out (HT.out.below (HB3.out))).mono ?_; rintro e w4 ⟨rfl, hb⟩; have HB4 := am (below_step (HB3.out) hb); have Ba_4 := am (blk_below (Ba_3.out) hb); clear Ba_3; have Bb_4 := am (blk_below (Bb_3.out) hb); clear Bb_3; have Bc_4 := am (blk_below (Bc_3.out) hb); clear Bc_3; clear hb HB3; clear zb0_3 zb1_3 zb2_3))
  go_ret
  exact ⟨rfl, HB4.out⟩
set_option maxRecDepth 100000 in
set_option maxHeartbeats 8000000 in
theorem order_bad2 (sa sb sc : Bool) (na da nb db nc dc : ByteArray) (hH : customhouselaw05_head.f = some true) (hS : customhouselaw05_short.f 200 40 [⟨sa, na, da⟩, ⟨sb, nb, db⟩, ⟨sc, nc, dc⟩] = some true) (hV0 : ratio_Valid.f 1 sa na da = some true) (hV1 : ratio_Valid.f 1 sb nb db = some true) (hV2 : ratio_Valid.f 1 sc nc dc = some false) (w : World) (hT : Tabs w) :
    Calls Tryz.prog 6 #[.agg #[.bool sa, .string na, .string da], .agg #[.bool sb, .string nb, .string db], .agg #[.bool sc, .string nc, .string dc]] w fun e w' => e = .returned (.bool true) ∧ Below w.heap.size w w' := by
  have HT := am hT
  clear hT
  have hu23 := Tryz.underlying23
  obtain ⟨W0, hW0⟩ : ∃ W0, (((w.alloc (.cells #[.bool sa, .string na, .string da] 23)).alloc (.cells #[.bool sb, .string nb, .string db] 23)).alloc (.cells #[.bool sc, .string nc, .string dc] 23)) = W0 := ⟨_, rfl⟩
  have b0 : W0.heap[w.heap.size]? = some (.cells #[.bool sa, .string na, .string da] 23 (0, 0)) := by rw [← hW0]; exact blk_alloc (blk_alloc (blk_new w (.cells #[.bool sa, .string na, .string da] 23)) _) _
  have Ba_0 := am b0
  clear b0
  have b1 : W0.heap[w.heap.size + 1]? = some (.cells #[.bool sb, .string nb, .string db] 23 (0, 0)) := by rw [← hW0]; exact blk_alloc ((by have := blk_new (w.alloc (.cells #[.bool sa, .string na, .string da] 23)) (.cells #[.bool sb, .string nb, .string db] 23); simpa using this)) _
  have Bb_0 := am b1
  clear b1
  have b2 : W0.heap[w.heap.size + 1 + 1]? = some (.cells #[.bool sc, .string nc, .string dc] 23 (0, 0)) := by rw [← hW0]; exact (by have := blk_new ((w.alloc (.cells #[.bool sa, .string na, .string da] 23)).alloc (.cells #[.bool sb, .string nb, .string db] 23)) (.cells #[.bool sc, .string nc, .string dc] 23); simpa using this)
  have Bc_0 := am b2
  clear b2
  have HB0 : Aside0 (Below w.heap.size w W0) := am (by rw [← hW0]; exact below_alloc (below_alloc (below_alloc (Below.refl _ _) _) _) _)
  have HW := am hW0
  clear hW0
  have HH := am hH
  have HS := am hS
  clear hH hS
  have HV0 := am hV0
  clear hV0
  have HV1 := am hV1
  clear hV1
  have HV2 := am hV2
  clear hV2
  go_enter Tryz.func6, Tryz.ntmps6
  go_wp2_with (first
    | (go_at_call 17; rw [HW.out]; refine (customhouselaw05_head.calls true _ HH.out (HT.out.below (HB0.out))).mono ?_; rintro e w1 ⟨rfl, hb⟩; have HB1 := am (below_step (HB0.out) hb); have Ba_1 := am (blk_below (Ba_0.out) hb); clear Ba_0; have Bb_1 := am (blk_below (Bb_0.out) hb); clear Bb_0; have Bc_1 := am (blk_below (Bc_0.out) hb); clear Bc_0; clear hb HB0; have za0_1 : w1.cell? ⟨w.heap.size, 0, none⟩ = some (.bool sa) := (blk_cell (Ba_1.out) 0).trans rfl; have za1_1 : w1.cell? ⟨w.heap.size, 1, none⟩ = some (.string na) := (blk_cell (Ba_1.out) 1).trans rfl; have za2_1 : w1.cell? ⟨w.heap.size, 2, none⟩ = some (.string da) := (blk_cell (Ba_1.out) 2).trans rfl; have zb0_1 : w1.cell? ⟨w.heap.size + 1, 0, none⟩ = some (.bool sb) := (blk_cell (Bb_1.out) 0).trans rfl; have zb1_1 : w1.cell? ⟨w.heap.size + 1, 1, none⟩ = some (.string nb) := (blk_cell (Bb_1.out) 1).trans rfl; have zb2_1 : w1.cell? ⟨w.heap.size + 1, 2, none⟩ = some (.string db) := (blk_cell (Bb_1.out) 2).trans rfl; have zc0_1 : w1.cell? ⟨w.heap.size + 1 + 1, 0, none⟩ = some (.bool sc) := (blk_cell (Bc_1.out) 0).trans rfl; have zc1_1 : w1.cell? ⟨w.heap.size + 1 + 1, 1, none⟩ = some (.string nc) := (blk_cell (Bc_1.out) 1).trans rfl; have zc2_1 : w1.cell? ⟨w.heap.size + 1 + 1, 2, none⟩ = some (.string dc) := (blk_cell (Bc_1.out) 2).trans rfl)
    | (go_at_call 20; refine (customhouselaw05_short.calls 200 40 (some ⟨w1.heap.size, 0, none⟩) 3 [⟨sa, na, da⟩, ⟨sb, nb, db⟩, ⟨sc, nc, dc⟩] true _ (lit23 w1 [⟨sa, na, da⟩, ⟨sb, nb, db⟩, ⟨sc, nc, dc⟩] (by simp) _ rfl) (Nat.le_refl _) HS.out).mono ?_; rintro e w2 ⟨rfl, hb0⟩; have hb := hb0.below; clear hb0; have HB2 := am (below_step (below_alloc (HB1.out) _) hb); have Ba_2 := am (blk_below (blk_alloc (Ba_1.out) _) hb); clear Ba_1; have Bb_2 := am (blk_below (blk_alloc (Bb_1.out) _) hb); clear Bb_1; have Bc_2 := am (blk_below (blk_alloc (Bc_1.out) _) hb); clear Bc_1; clear hb HB1; clear za0_1 za1_1 za2_1 zb0_1 zb1_1 zb2_1 zc0_1 zc1_1 zc2_1; have za0_2 : w2.cell? ⟨w.heap.size, 0, none⟩ = some (.bool sa) := (blk_cell (Ba_2.out) 0).trans rfl; have za1_2 : w2.cell? ⟨w.heap.size, 1, none⟩ = some (.string na) := (blk_cell (Ba_2.out) 1).trans rfl; have za2_2 : w2.cell? ⟨w.heap.size, 2, none⟩ = some (.string da) := (blk_cell (Ba_2.out) 2).trans rfl)
    | (go_at_call 21; refine (ratio_Valid.calls 1 sa na da true _ HV0.out (HT.out.below (HB2.out))).mono ?_; rintro e w3 ⟨rfl, hb⟩; have HB3 := am (below_step (HB2.out) hb); have Ba_3 := am (blk_below (Ba_2.out) hb); clear Ba_2; have Bb_3 := am (blk_below (Bb_2.out) hb); clear Bb_2; have Bc_3 := am (blk_below (Bc_2.out) hb); clear Bc_2; clear hb HB2; clear za0_2 za1_2 za2_2; have zb0_3 : w3.cell? ⟨w.heap.size + 1, 0, none⟩ = some (.bool sb) := (blk_cell (Bb_3.out) 0).trans rfl; have zb1_3 : w3.cell? ⟨w.heap.size + 1, 1, none⟩ = some (.string nb) := (blk_cell (Bb_3.out) 1).trans rfl; have zb2_3 : w3.cell? ⟨w.heap.size + 1, 2, none⟩ = some (.string db) := (blk_cell (Bb_3.out) 2).trans rfl)
    | (go_at_call 21; refine (ratio_Valid.calls 1 sb nb db true _ HV1.out (HT.out.below (HB3.out))).mono ?_; rintro e w4 ⟨rfl, hb⟩; have HB4 := am (below_step (HB3.out) hb); have Ba_4 := am (blk_below (Ba_3.out) hb); clear Ba_3; have Bb_4 := am (blk_below (Bb_3.out) hb); clear Bb_3; have Bc_4 := am (blk_below (Bc_3.out) hb); clear Bc_3; clear hb HB3; clear zb0_3 zb1_3 zb2_3; have zc0_4 : w4.cell? ⟨w.heap.size + 1 + 1, 0, none⟩ = some (.bool sc) := (blk_cell (Bc_4.out) 0).trans rfl; have zc1_4 : w4.cell? ⟨w.heap.size + 1 + 1, 1, none⟩ = some (.string nc) := (blk_cell (Bc_4.out) 1).trans rfl; have zc2_4 : w4.cell? ⟨w.heap.size + 1 + 1, 2, none⟩ = some (.string dc) := (blk_cell (Bc_4.out) 2).trans rfl)
    | (go_at_call 21; refine (ratio_Valid.calls 1 sc nc dc false _ HV2.out (HT.out.below (HB4.out))).mono ?_; rintro e w5 ⟨rfl, hb⟩; have HB5 := am (below_step (HB4.out) hb); have Ba_5 := am (blk_below (Ba_4.out) hb); clear Ba_4; have Bb_5 := am (blk_below (Bb_4.out) hb); clear Bb_4; have Bc_5 := am (blk_below (Bc_4.out) hb); clear Bc_4; clear hb HB4; clear zc0_4 zc1_4 zc2_4))
  go_ret
  exact ⟨rfl, HB5.out⟩
end Go.Proofs.YtfaibifilpfikaaGreatDoor.F6a
