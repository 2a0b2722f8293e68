/- Package script's Letters, walked: it returns the letters of a word, or ErrArg and none; conditions: texts of at most 2^45 bytes, and the contract of script.length. -/
import Derived.Test.YtgimbkfahfnplaaDoorRl
import Derived.Test.YtgimbkfahfnplaaDoorWMore
import Derived.OrdersHeld
namespace Go.Proofs.YtgimbkfahfnplaaDoor.Lt
open Go.RowKit Go.Shelf Go.Proofs.YtgimbkfahfnplaaDoorW.PrintWords Go.Proofs.YtgimbkfahfnplaaDoorW.PrintLast Go.Proofs.YtgimbkfahfnplaaDoorW.PrintMore
attribute [local go_sem] Oper.semAt_some
set_option linter.unusedVariables false
set_option linter.unusedSimpArgs false

theorem info9 : (Tryd.prog.info? 9).map (fun i => (i.zero, i.size, i.bytes)) = some (some (.string ⟨#[]⟩), 1, 16) := by kernel_rfl

/-- 'letters': two boxes and the closure over them. -/
theorem letters_any (sc : Int) (s : ByteArray) (w : World) :
    Calls Tryd.prog 28 #[.int .i64 sc, .string s] w fun e w' => e = .returned (.func (.func 36) #[] #[.pointer (some ⟨w.heap.size, 0, none⟩), .pointer (some ⟨w.heap.size + 1, 0, none⟩)]) ∧ w' = (w.alloc (.cells #[.int .i64 sc] 3)).alloc (.cells #[.string s] 9) := by
  go_enter Tryd.func28, Tryd.ntmps28
  go_wp2
  go_ret
  exact ⟨rfl, rfl⟩

/-- What the letters so far are of the whole. -/
def Got (sc : Int) (s : ByteArray) (i : Nat) (ts : List ByteArray) : Prop :=
  i ≤ s.size ∧ Scr.letters sc s.data.toList = ts.map (fun t => t.data.toList) ++ Scr.letters sc (s.data.toList.drop i) ∧ Scr.left sc s.data.toList = Scr.left sc (s.data.toList.drop i)
theorem Got.zero (sc : Int) (s : ByteArray) : Got sc s 0 [] := ⟨by omega, by simp, by simp⟩
theorem extract_mid (s : ByteArray) (i k : Nat) : (s.extract i (i + k)).data.toList = (s.data.toList.drop i).take k := by
  rw [ByteArray.data_extract, Array.toList_extract, List.extract_eq_take_drop, Nat.add_sub_cancel_left]
theorem Got.next {sc : Int} {s : ByteArray} {i : Nat} {ts : List ByteArray} (h : Got sc s i ts) (hp : 0 < Scr.len sc (s.data.toList.drop i)) (hle : i + Scr.len sc (s.data.toList.drop i) ≤ s.size) :
    Got sc s (i + Scr.len sc (s.data.toList.drop i)) (ts ++ [s.extract i (i + Scr.len sc (s.data.toList.drop i))]) := by
  obtain ⟨h1, h2, h3⟩ := h
  obtain ⟨f1, f2⟩ := Scr.letters_step (sc := sc) (s := s.data.toList.drop i) (by omega)
  refine ⟨hle, ?_, ?_⟩
  · rw [h2, f1, List.map_append, List.append_assoc, List.drop_drop]; simp [extract_mid]
  · rw [h3, f2, List.drop_drop]

/-- Between two rounds. -/
def Inv (b : Nat) (w : World) (sc : Int) (s : ByteArray) (n : Nat) (i : Nat) (W : World) : Prop :=
  ∃ v ts, W.heap[b]? = some (.cells #[v] 22 (0, 0)) ∧ W.heap[b + 1]? = some (.cells #[.string (s.extract i s.size)] 9 (0, 0)) ∧ Kd.R Kd.string 9 W b (fun k => b + 4 ≤ k) v ts ∧ Below b w W ∧ (ts.length ≤ 12 ∧ n = 0 ∨ ts.length = 13 ∧ n = 1) ∧ Got sc s i ts

theorem Inv.set {b : Nat} {w : World} {sc : Int} {s : ByteArray} {n i : Nat} {W : World} (hb : b ≤ w.heap.size) (h : Inv b w sc s n i W) (u : Value) : Inv b w sc s n i (W.setCell ⟨b + 3, 0, none⟩ u) := by
  obtain ⟨v, ts, h0, h1, hr, hB, hn, hg⟩ := h
  exact ⟨v, ts, blk_far h0 (by simp) u, blk_far h1 (by simp) u, Kd.R_far (p := ⟨b + 3, 0, none⟩) hr (fun k hk => by show k ≠ b + 3; omega) u, hB.setCell (p := ⟨b + 3, 0, none⟩) (by simp) u, hn, hg⟩
theorem Inv.below {b : Nat} {w : World} {sc : Int} {s : ByteArray} {n i : Nat} {W W' : World} (hb : b ≤ w.heap.size) (h : Inv b w sc s n i W) (hW : Below W.heap.size W W') : Inv b w sc s n i W' := by
  obtain ⟨v, ts, h0, h1, hr, hB, hn, hg⟩ := h
  exact ⟨v, ts, blk_below h0 hW, blk_below h1 hW, Kd.R_below hr hW, hB.trans (hW.mono (Nat.le_trans hb hB.size)), hn, hg⟩
theorem Inv.put {b : Nat} {w : World} {sc : Int} {s : ByteArray} {n i : Nat} {W : World} {l : Nat} (o : Obj) (hb : b ≤ w.heap.size) (h : Inv b w sc s n i W) (hl : b + 4 ≤ l) (ho : ∃ o₀ : Obj, W.heap[l]? = some o₀ ∧ o₀.isCells = false) : Inv b w sc s n i (W.putObj l o) := by
  obtain ⟨v, ts, h0, h1, hr, hB, hn, hg⟩ := h
  obtain ⟨o₀, hlo, hc⟩ := ho
  refine ⟨v, ts, (World.putObj_heap_other (by omega)).trans h0, (World.putObj_heap_other (by omega)).trans h1, Kd.R_mono (Kd.R_move (Kd.R_bound hr) (fun k hk => World.putObj_heap_other ?_)) (fun _ hk => hk.1), hB.grown (grownBy_putObj' W l o) (Nat.le_trans hb hB.size) (fun k e => by cases e; omega), hn, hg⟩
  rintro rfl
  obtain ⟨_, _, _, q, _, cells, he⟩ := hk
  rw [hlo] at he
  cases he
  cases hc

theorem Bx.grown {cb sb : Nat} {sc : Int} {s : ByteArray} {i : Nat} {w w' : World} (h : Bx cb sb sc s i w) {row : Option Nat} (hg : w.grownBy w' row) (hc : some cb ≠ row) (hs : some sb ≠ row) : Bx cb sb sc s i w' := by
  have lc := World.block_lt_of_cell? w _ h.script
  have ls := World.block_lt_of_cell? w _ h.rest
  have e1 := hg.block cb lc hc
  have e2 := hg.block sb ls hs
  exact ⟨(World.cell?_of_block (a := ⟨cb, 0, none⟩) e1).trans h.script, (World.cell?_of_block (a := ⟨sb, 0, none⟩) e2).trans h.rest, (World.frozen?_of_block (a := ⟨sb, 0, none⟩) e2).trans h.free⟩
theorem Bx.far {cb sb : Nat} {sc : Int} {s : ByteArray} {i : Nat} {w : World} (h : Bx cb sb sc s i w) {b : Nat} (hc : cb ≠ b) (hs : sb ≠ b) (u : Value) : Bx cb sb sc s i (w.setCell ⟨b, 0, none⟩ u) :=
  ⟨(World.cell?_setCell_other w ⟨b, 0, none⟩ ⟨cb, 0, none⟩ _ (fun e => hc (congrArg Addr.block e).symm)).trans h.script, (World.cell?_setCell_other w ⟨b, 0, none⟩ ⟨sb, 0, none⟩ _ (fun e => hs (congrArg Addr.block e).symm)).trans h.rest, by rw [World.frozen?_setCell]; exact h.free⟩

theorem R_put {W : World} {b D : Nat} {ok : Nat → Prop} {v : Value} {ts : List ByteArray} (h : Kd.R Kd.string 9 W b ok v ts) (o : Obj) (ho : ∃ o₀ : Obj, W.heap[D]? = some o₀ ∧ o₀.isCells = false) : Kd.R Kd.string 9 (W.putObj D o) b ok v ts := by
  obtain ⟨o₀, hlo, hc⟩ := ho
  refine Kd.R_mono (Kd.R_move (Kd.R_bound h) (fun k hk => World.putObj_heap_other ?_)) (fun _ hk => hk.1)
  rintro rfl
  obtain ⟨_, _, _, q, _, cells, he⟩ := hk
  rw [hlo] at he
  cases he
  cases hc
theorem Got.fin {sc : Int} {s : ByteArray} {i : Nat} {ts : List ByteArray} (h : Got sc s i ts) (hz : Scr.len sc (s.data.toList.drop i) = 0) : Scr.letters sc s.data.toList = ts.map (fun t => t.data.toList) ∧ Scr.left sc s.data.toList = s.data.toList.drop i := by
  obtain ⟨_, h2, h3⟩ := h
  rw [(Scr.letters_zero hz).1] at h2
  rw [(Scr.letters_zero hz).2] at h3
  exact ⟨by simpa using h2, h3⟩
theorem bad_of {sc : Int} {s : Scr.Bs} (h : ¬ (Scr.left sc s = [] ∧ 1 ≤ (Scr.letters sc s).length ∧ (Scr.letters sc s).length ≤ 12)) : Scr.lettersE sc s = ([], 1) := by
  unfold Scr.lettersE Scr.word
  rw [if_neg]
  intro hh
  simp only [Bool.and_eq_true, decide_eq_true_eq] at hh
  exact h ⟨hh.1.1, hh.1.2, hh.2⟩
theorem good_of {sc : Int} {s : Scr.Bs} (h : Scr.left sc s = [] ∧ 1 ≤ (Scr.letters sc s).length ∧ (Scr.letters sc s).length ≤ 12) : Scr.lettersE sc s = (Scr.letters sc s, 0) := by
  unfold Scr.lettersE Scr.word
  rw [if_pos]
  simp only [Bool.and_eq_true, decide_eq_true_eq]
  exact ⟨⟨h.1, h.2.1⟩, h.2.2⟩

set_option maxRecDepth 100000 in
set_option maxHeartbeats 2000000 in
theorem Letters_any (sc : Int) (s : ByteArray) (hs : s.size ≤ 35184372088831) (w : World) (hL : LenSaid (fun W => Below w.heap.size w W)) :
    Calls Tryd.prog 14 #[.int .i64 sc, .string s] w fun e w' => ∃ v r1 r2, e = .returned (.tuple #[v, .int .i64 r2]) ∧ Scr.lettersE sc s.data.toList = (r1.map (fun t : ByteArray => t.data.toList), r2) ∧ Kd.R Kd.string 9 w' w.heap.size (fun _ => True) v r1 ∧ Below w.heap.size w w' := by
  refine (callsIn_wide (n := 2)).1 ?_
  refine callsIn_of_wp_marks Tryd.func14 rfl trivial ?_ rfl
  simp only [Tryd.ntmps14, List.size_toArray, List.length_cons, List.length_nil, Nat.reduceAdd, Nat.reduceSub, Array.replicate_succ, Array.replicate_zero, List.push_toArray, List.append_toArray, List.nil_append, List.cons_append]
  gi_wp2_with (refine ⟨trivial, ?_⟩; refine callsIn_wide.2 ((letters_any sc s _).mono ?_); rintro e w' ⟨rfl, rfl⟩)
  obtain ⟨W0, hW0⟩ : ∃ W0, ((((w.alloc (.cells #[.slice none 0 0] 22)).alloc (.cells #[.string s] 9)).alloc (.cells #[.int .i64 sc] 3)).alloc (.cells #[.string s] 9)) = W0 := ⟨_, rfl⟩
  rw [hW0]
  have z0 : W0.heap.size = w.heap.size + 4 := by rw [← hW0]; simp
  have b0 : W0.heap[w.heap.size]? = some (.cells #[.slice none 0 0] 22 (0, 0)) := by rw [← hW0]; exact blk_alloc (blk_alloc (blk_alloc (blk_new _ _) _) _) _
  have b1 : W0.heap[w.heap.size + 1]? = some (.cells #[.string s] 9 (0, 0)) := by rw [← hW0]; exact blk_alloc (blk_alloc (by have := blk_new (w.alloc (.cells #[.slice none 0 0] 22)) (.cells #[.string s] 9); rwa [World.size_alloc] at this) _) _
  have b2 : W0.heap[w.heap.size + 2]? = some (.cells #[.int .i64 sc] 3 (0, 0)) := by rw [← hW0]; exact blk_alloc (by have := blk_new ((w.alloc (.cells #[.slice none 0 0] 22)).alloc (.cells #[.string s] 9)) (.cells #[.int .i64 sc] 3); simpa using this) _
  have b3 : W0.heap[w.heap.size + 3]? = some (.cells #[.string s] 9 (0, 0)) := by rw [← hW0]; have := blk_new (((w.alloc (.cells #[.slice none 0 0] 22)).alloc (.cells #[.string s] 9)).alloc (.cells #[.int .i64 sc] 3)) (.cells #[.string s] 9); simpa using this
  have hbel : Below w.heap.size w W0 := by rw [← hW0]; exact ((((Below.refl _ w).alloc (Nat.le_refl _) _).alloc (by simp) _).alloc (by simp; omega) _).alloc (by simp; omega) _
  clear hW0
  refine wp_range (fun W => Below w.heap.size w W) (fun A B h hb => h.trans (hb.mono h.size)) hL (cb := w.heap.size + 2) (sb := w.heap.size + 3) (sc := sc) (s := s) rfl (by omega) (by omega) (by omega) hs rfl
    (fun A v h => h.setCell (p := ⟨w.heap.size + 3, 0, none⟩) (by simp) _) (fun A l o h hl => h.grown (grownBy_putObj' A l o) h.size (fun k e => by cases e; omega))
    ⟨(blk_cell b2 0).trans rfl, (blk_cell b3 0).trans (by simp), blk_frozen b3 0⟩ hbel
    (Inv w.heap.size w sc s 0) (fun c i W => c = .exit 0 ∧ Inv w.heap.size w sc s 1 i W) ?hIs ?hIb ?hIo ?hXo ?h0 ?a1 ?hassign ?hbody ?hdone ?hstop
  case hIs => exact fun i A v h => Inv.set (Nat.le_refl _) h v
  case hIb => exact fun i A B h hb => Inv.below (Nat.le_refl _) h hb
  case hIo => exact fun i A l o h hl ho => Inv.put o (Nat.le_refl _) h (by omega) ho
  case hXo => exact fun c i A l o h hl ho => ⟨h.1, Inv.put o (Nat.le_refl _) h.2 (by omega) ho⟩
  case h0 => exact ⟨_, [], b0, (by simpa using b1), Kd.R_nil _ _ _ _ _, hbel, .inl ⟨by simp, rfl⟩, Got.zero sc s⟩
  case hassign =>
    intro l x W K hK
    gi_wp2
    exact hK
  case hbody =>
    intro l i W hI hB hT hp hle
    obtain ⟨k, hk⟩ : ∃ k, Scr.len sc (s.data.toList.drop i) = k := ⟨_, rfl⟩
    have hG := hI
    rw [hk] at hp hle ⊢
    obtain ⟨v, ts, h0, h1, hr, hBW, hn, hg⟩ := hI
    have hn12 : ts.length ≤ 12 := by rcases hn with h | h; exact h.1; exact absurd h.2 (by omega)
    have hgn := Got.next hg (by rw [hk]; exact hp) (by rw [hk]; exact hle)
    rw [hk] at hgn
    have hsz := Nat.le_trans (show W0.heap.size ≤ W0.heap.size from Nat.le_refl _) (Nat.le_refl _)
    have hki : k ≤ s.size - i := by omega
    have HO := Aside0.mk hr
    have H0 := Aside0.mk h0
    have H1 := Aside0.mk h1
    have HBW := Aside0.mk hBW
    have HBx := Aside0.mk hB
    have HN := Aside0.mk hn12
    have HG := Aside0.mk hgn
    have HK := Aside0.mk hk
    clear hr h0 h1 hBW hB hn12 hgn hk hn hg hG hT hsz
    gi_wp2
    refine startIn_ (n := 10) (S := fun w' => w'.cell? ⟨w.heap.size + 1, 0, none⟩ = some (.string (s.extract i s.size))) (ds := [9]) #[false, false, false, false, false, false, false, false, false, false] (by kernel_rfl) rfl rfl (by kernel_rfl) ?hQ ((blk_cell H1.out 0).trans rfl) (fun hHeld => ?_)
    case hQ => rintro ⟨a', w', h'⟩; exact h'.elim
    have HKO := Aside0.mk (KeepsOthers.drew W)
    replace HO := Aside0.mk (Kd.R_drew HO.out)
    replace H0 := Aside0.mk (blk_drew H0.out)
    replace H1 := Aside0.mk (blk_drew H1.out)
    replace HBW := Aside0.mk (below_drew HBW.out)
    replace HBx := Aside0.mk (HBx.out.below (below_drew (Below.refl _ _)))
    have HS := Aside0.mk (show w.heap.size + 4 ≤ W.drew.heap.size from by have := World.block_lt_of_cell? _ _ HBx.out.rest; simp only at this; omega)
    generalize W.drew = W2 at HO H0 H1 HBW HBx HKO HS hHeld ⊢
    refine pure_ (i := 1) (N := some 15) (v := ?_) (a' := ?_) #[false, true, false, false, false, false, false, false, false, false] rfl rfl (by kernel_rfl) (fun _ _ _ h => h) (Or.inl ⟨by rfl, ?_⟩) ?_ ?_
    rotate_left
    · intro w'
      go_simp
      with_reducible rfl
    rotate_left
    · simp only [Act.put, List.setIfInBounds_toArray, List.set_cons_zero, List.set_cons_succ, i64_w, i32_w]
      rfl
    refine pure_ (i := 5) (N := some 19) (v := ?_) (a' := ?_) #[false, true, false, false, false, true, false, false, false, false] rfl rfl (by kernel_rfl) (fun _ _ _ h => h) (Or.inl ⟨by rfl, ?_⟩) ?_ ?_
    rotate_left
    · intro w'
      go_simp
      with_reducible rfl
    rotate_left
    · simp only [Act.put, List.setIfInBounds_toArray, List.set_cons_zero, List.set_cons_succ, i64_w, i32_w]
      rfl
    refine pure_ (i := 6) (N := some 20) (v := ?_) (a' := ?_) #[false, true, false, false, false, true, true, false, false, false] rfl rfl (by kernel_rfl) (fun _ _ _ h => h) (Or.inl ⟨by rfl, ?_⟩) ?_ ?_
    rotate_left
    · intro w'
      go_simp
      with_reducible rfl
    rotate_left
    · simp only [Act.put, List.setIfInBounds_toArray, List.set_cons_zero, List.set_cons_succ, i64_w, i32_w]
      rfl
    refine take_ (i := 4) (N := some 18) (v := ?_) (a' := ?_) #[false, true, false, false, true, true, true, false, false, false] rfl rfl (by kernel_rfl) (fun _ _ _ h => h) (Or.inl ⟨by rfl, ?_⟩) hHeld ?_ ?_
    rotate_left
    · intro w' s0
      go_simp
      with_reducible rfl
    rotate_left
    · simp only [Act.put, List.setIfInBounds_toArray, List.set_cons_zero, List.set_cons_succ, i64_w, i32_w]
      rfl
    refine pure_ (i := 7) (N := some 21) (v := ?_) (a' := ?_) #[false, true, false, false, true, true, true, true, false, false] rfl rfl (by kernel_rfl) (fun _ _ _ h => h) (Or.inl ⟨by rfl, ?_⟩) ?_ ?_
    rotate_left
    · intro w'
      go_simp
      with_reducible rfl
    rotate_left
    · simp only [Act.put, List.setIfInBounds_toArray, List.set_cons_zero, List.set_cons_succ, i64_w, i32_w]
      rfl
    obtain ⟨A0, c0, ev⟩ := Kd.R_slice HO.out
    subst ev
    have hs0 : W2.cell? ⟨w.heap.size, 0, none⟩ = some (.slice A0 ts.length c0) := (blk_cell H0.out 0).trans rfl
    have hs0a : ∀ o, (W2.alloc o).cell? ⟨w.heap.size, 0, none⟩ = some (.slice A0 ts.length c0) := fun o => (blk_cell (blk_alloc H0.out _) 0).trans rfl
    refine two_ (i := 0) (j := 2) (Ni := some 14) (Nj := some 16) #[true, true, false, false, true, true, true, true, false, false] #[false, true, true, false, true, true, true, true, false, false] rfl rfl rfl rfl (by kernel_rfl) (by decide) (by decide) (fun K hK => ?_) (fun K hK => ?_)
    · refine value_ (w1 := ?_) (v := ?_) (by rfl) rfl ?_ ?_
      rotate_left 2
      · go_simp
        first | rfl | (constructor <;> rfl)
      refine hK.out _ _ hHeld (fun hHeld => ?_)
      clear hK K
      refine norm_ (a' := ?_) ?_ ?_
      rotate_left
      · show Act.put _ (some 14) _ = _
        simp only [Act.put, List.setIfInBounds_toArray, List.set_cons_zero, List.set_cons_succ, i64_w, i32_w]
        rfl
      refine one_ (i := 2) (N := some 16) #[true, true, true, false, true, true, true, true, false, false] rfl rfl (by kernel_rfl) (by decide) (fun K hK => ?_)
      refine value_ (w1 := ?_) (v := ?_) (by rfl) rfl ?_ ?_
      rotate_left 2
      · go_simp
        first | rfl | (constructor <;> rfl)
      refine hK.out _ _ ((blk_cell (blk_alloc H1.out _) 0).trans rfl) (fun hHeld => ?_)
      clear hK K
      refine norm_ (a' := ?_) ?_ ?_
      rotate_left
      · show Act.put _ (some 16) _ = _
        simp only [Act.put, List.setIfInBounds_toArray, List.set_cons_zero, List.set_cons_succ, i64_w, i32_w]
        rfl
      clear hs0 hs0a
      refine one_ (i := 3) (N := some 17) #[true, true, true, true, true, true, true, true, false, false] rfl rfl (by kernel_rfl) (by decide) (fun K hK => ?_)
      refine Kd.R_append_step Kd.string (w0 := w) w.heap.size (by rfl) (.tmp 14) (.tmp 16) 22 9 (.string ⟨#[]⟩) 16 rfl Tryd.underlying22 info9 rfl (by decide) (by omega) (.slice A0 ts.length c0) ts (s.extract i (i + k)) [.string (s.extract i (i + k))] (fun k => w.heap.size + 4 ≤ k) (fun _ => False) rfl rfl rfl (fun _ hk => hk.elim) (fun q hq => by have := HS.out; omega) HO.out HBW.out (below_size HBW.out) (by have := HN.out; omega) ?_
      intro v1 w3 ho hb hg hat
      have hfar : ∀ q, q < w.heap.size + 4 → some q ≠ (Value.slice A0 ts.length c0).ownBlock := fun q hq e => by have := HO.out.1 q e.symm; omega
      have J0 := Aside0.mk (blk_grown H0.out hg (hfar _ (by omega)))
      have J1 := Aside0.mk (blk_grown H1.out hg (hfar _ (by omega)))
      have JB := Aside0.mk hb
      have JX := Aside0.mk (HBx.out.grown hg (hfar _ (by omega)) (hfar _ (by omega)))
      have JK := Aside0.mk (HKO.out.trans (KeepsOthers.of_grownBy hg (fun q o e ho' => by
        obtain ⟨inner, hown⟩ := Kd.R_own HO.out
        obtain ⟨cells, hc⟩ := own_typed hown q e
        rw [ho'] at hc; cases hc; rfl)))
      have JO := Aside0.mk ho
      clear hb hg ho hat H0 H1 HBx HKO HO HBW HS hfar hHeld
      obtain ⟨A1, c1, ev'⟩ := Kd.R_slice JO.out
      have ev : v1 = .slice A1 (ts.length + 1) c1 := by rw [ev', List.length_append]; rfl
      clear ev'
      subst ev
      refine hK.out _ _ ((blk_cell J1.out 0).trans rfl) (fun hHeld => ?_)
      clear hK K
      refine norm_ (a' := ?_) ?_ ?_
      rotate_left
      · show Act.put _ (some 17) _ = _
        simp only [Act.put, List.setIfInBounds_toArray, List.set_cons_zero, List.set_cons_succ, i64_w, i32_w]
        rfl
      have hs0 : w3.cell? ⟨w.heap.size, 0, none⟩ = some (.slice A0 ts.length c0) := (blk_cell J0.out 0).trans rfl
      have hf0 := blk_frozen J0.out 0
      have hs1 : w3.cell? ⟨w.heap.size + 1, 0, none⟩ = some (.string (s.extract i s.size)) := (blk_cell J1.out 0).trans rfl
      have hf1 := blk_frozen J1.out 0
      refine one_ (i := 8) (N := none) #[true, true, true, true, true, true, true, true, true, false] rfl rfl (by kernel_rfl) (by decide) (fun K hK => ?_)
      refine skip_ (w1 := ?_) (by rfl) rfl ?_ ?_
      rotate_left
      · go_simp
        rfl
      refine hK.out _ _ ((World.cell?_setCell_other w3 ⟨w.heap.size, 0, none⟩ ⟨w.heap.size + 1, 0, none⟩ _ (fun e => absurd (congrArg Addr.block e) (by simp))).trans hHeld) (fun _ => ?_)
      clear hK K
      refine last_ (i := 9) (N := none) #[true, true, true, true, true, true, true, true, true, true] rfl rfl (by kernel_rfl) (by decide) (fun K hK => ?_)
      refine skip_ (w1 := ?_) (by rfl) rfl ?_ ?_
      rotate_left
      · go_simp
        rfl
      refine hK.out _ _ ?_
      clear hK K
      refine done_ (by kernel_rfl) ?_
      rw [extract_rest s i k hle]
      clear hs0 hf0 hs1 hf1 hHeld
      replace J0 := Aside0.mk (blk_far (p := ⟨w.heap.size + 1, 0, none⟩) (blk_put J0.out 0 (.slice A1 (ts.length + 1) c1) rfl) (by simp) (.string (s.extract (i + k) s.size)))
      replace J1 := Aside0.mk (blk_put (blk_far (p := ⟨w.heap.size, 0, none⟩) J1.out (by simp) (.slice A1 (ts.length + 1) c1)) 0 (.string (s.extract (i + k) s.size)) rfl)
      replace JB := Aside0.mk ((JB.out.setCell (p := ⟨w.heap.size, 0, none⟩) (Nat.le_refl _) (.slice A1 (ts.length + 1) c1)).setCell (p := ⟨w.heap.size + 1, 0, none⟩) (by simp) (.string (s.extract (i + k) s.size)))
      replace JX := Aside0.mk ((JX.out.far (b := w.heap.size) (by omega) (by omega) (.slice A1 (ts.length + 1) c1)).far (b := w.heap.size + 1) (by omega) (by omega) (.string (s.extract (i + k) s.size)))
      replace JK := Aside0.mk ((JK.out.trans (KeepsOthers.setCell _ ⟨w.heap.size, 0, none⟩ (.slice A1 (ts.length + 1) c1))).trans (KeepsOthers.setCell _ ⟨w.heap.size + 1, 0, none⟩ (.string (s.extract (i + k) s.size))))
      replace JO := Aside0.mk (Kd.R_far (p := ⟨w.heap.size + 1, 0, none⟩) (Kd.R_far (p := ⟨w.heap.size, 0, none⟩) JO.out (fun q hq => by show q ≠ w.heap.size; omega) (.slice A1 (ts.length + 1) c1)) (fun q hq => by show q ≠ w.heap.size + 1; omega) (.string (s.extract (i + k) s.size)))
      generalize (w3.setCell ⟨w.heap.size, 0, none⟩ (.slice A1 (ts.length + 1) c1)).setCell ⟨w.heap.size + 1, 0, none⟩ (.string (s.extract (i + k) s.size)) = w4 at J0 J1 JB JX JK JO ⊢
      have hc4 : w4.cell? ⟨w.heap.size, 0, none⟩ = some (.slice A1 (ts.length + 1) c1) := (blk_cell J0.out 0).trans rfl
      by_cases h12 : ts.length ≤ 11
      · gi_wp2
        exact ⟨JK.out, ⟨_, _, J0.out, J1.out, JO.out, JB.out, .inl ⟨by simp; omega, rfl⟩, HG.out⟩, JX.out, JB.out⟩
      · have h12' : 12 ≤ ts.length := by omega
        gi_wp2
        exact ⟨JK.out, rfl, _, _, J0.out, J1.out, JO.out, JB.out, .inr ⟨by have := HN.out; simp; omega, rfl⟩, HG.out⟩
    · refine value_ (w1 := ?_) (v := ?_) (by rfl) rfl ?_ ?_
      rotate_left 2
      · go_simp
        first | rfl | (constructor <;> rfl)
      refine hK.out _ _ ((blk_cell (blk_alloc H1.out _) 0).trans rfl) (fun hHeld => ?_)
      clear hK K
      refine norm_ (a' := ?_) ?_ ?_
      rotate_left
      · show Act.put _ (some 16) _ = _
        simp only [Act.put, List.setIfInBounds_toArray, List.set_cons_zero, List.set_cons_succ, i64_w, i32_w]
        rfl
      refine one_ (i := 0) (N := some 14) #[true, true, true, false, true, true, true, true, false, false] rfl rfl (by kernel_rfl) (by decide) (fun K hK => ?_)
      refine value_ (w1 := ?_) (v := ?_) (by rfl) rfl ?_ ?_
      rotate_left 2
      · go_simp
        first | rfl | (constructor <;> rfl)
      refine hK.out _ _ hHeld (fun hHeld => ?_)
      clear hK K
      refine norm_ (a' := ?_) ?_ ?_
      rotate_left
      · show Act.put _ (some 14) _ = _
        simp only [Act.put, List.setIfInBounds_toArray, List.set_cons_zero, List.set_cons_succ, i64_w, i32_w]
        rfl
      clear hs0 hs0a
      refine one_ (i := 3) (N := some 17) #[true, true, true, true, true, true, true, true, false, false] rfl rfl (by kernel_rfl) (by decide) (fun K hK => ?_)
      refine Kd.R_append_step Kd.string (w0 := w) w.heap.size (by rfl) (.tmp 14) (.tmp 16) 22 9 (.string ⟨#[]⟩) 16 rfl Tryd.underlying22 info9 rfl (by decide) (by omega) (.slice A0 ts.length c0) ts (s.extract i (i + k)) [.string (s.extract i (i + k))] (fun k => w.heap.size + 4 ≤ k) (fun _ => False) rfl rfl rfl (fun _ hk => hk.elim) (fun q hq => by have := HS.out; omega) HO.out HBW.out (below_size HBW.out) (by have := HN.out; omega) ?_
      intro v1 w3 ho hb hg hat
      have hfar : ∀ q, q < w.heap.size + 4 → some q ≠ (Value.slice A0 ts.length c0).ownBlock := fun q hq e => by have := HO.out.1 q e.symm; omega
      have J0 := Aside0.mk (blk_grown H0.out hg (hfar _ (by omega)))
      have J1 := Aside0.mk (blk_grown H1.out hg (hfar _ (by omega)))
      have JB := Aside0.mk hb
      have JX := Aside0.mk (HBx.out.grown hg (hfar _ (by omega)) (hfar _ (by omega)))
      have JK := Aside0.mk (HKO.out.trans (KeepsOthers.of_grownBy hg (fun q o e ho' => by
        obtain ⟨inner, hown⟩ := Kd.R_own HO.out
        obtain ⟨cells, hc⟩ := own_typed hown q e
        rw [ho'] at hc; cases hc; rfl)))
      have JO := Aside0.mk ho
      clear hb hg ho hat H0 H1 HBx HKO HO HBW HS hfar hHeld
      obtain ⟨A1, c1, ev'⟩ := Kd.R_slice JO.out
      have ev : v1 = .slice A1 (ts.length + 1) c1 := by rw [ev', List.length_append]; rfl
      clear ev'
      subst ev
      refine hK.out _ _ ((blk_cell J1.out 0).trans rfl) (fun hHeld => ?_)
      clear hK K
      refine norm_ (a' := ?_) ?_ ?_
      rotate_left
      · show Act.put _ (some 17) _ = _
        simp only [Act.put, List.setIfInBounds_toArray, List.set_cons_zero, List.set_cons_succ, i64_w, i32_w]
        rfl
      have hs0 : w3.cell? ⟨w.heap.size, 0, none⟩ = some (.slice A0 ts.length c0) := (blk_cell J0.out 0).trans rfl
      have hf0 := blk_frozen J0.out 0
      have hs1 : w3.cell? ⟨w.heap.size + 1, 0, none⟩ = some (.string (s.extract i s.size)) := (blk_cell J1.out 0).trans rfl
      have hf1 := blk_frozen J1.out 0
      refine one_ (i := 8) (N := none) #[true, true, true, true, true, true, true, true, true, false] rfl rfl (by kernel_rfl) (by decide) (fun K hK => ?_)
      refine skip_ (w1 := ?_) (by rfl) rfl ?_ ?_
      rotate_left
      · go_simp
        rfl
      refine hK.out _ _ ((World.cell?_setCell_other w3 ⟨w.heap.size, 0, none⟩ ⟨w.heap.size + 1, 0, none⟩ _ (fun e => absurd (congrArg Addr.block e) (by simp))).trans hHeld) (fun _ => ?_)
      clear hK K
      refine last_ (i := 9) (N := none) #[true, true, true, true, true, true, true, true, true, true] rfl rfl (by kernel_rfl) (by decide) (fun K hK => ?_)
      refine skip_ (w1 := ?_) (by rfl) rfl ?_ ?_
      rotate_left
      · go_simp
        rfl
      refine hK.out _ _ ?_
      clear hK K
      refine done_ (by kernel_rfl) ?_
      rw [extract_rest s i k hle]
      clear hs0 hf0 hs1 hf1 hHeld
      replace J0 := Aside0.mk (blk_far (p := ⟨w.heap.size + 1, 0, none⟩) (blk_put J0.out 0 (.slice A1 (ts.length + 1) c1) rfl) (by simp) (.string (s.extract (i + k) s.size)))
      replace J1 := Aside0.mk (blk_put (blk_far (p := ⟨w.heap.size, 0, none⟩) J1.out (by simp) (.slice A1 (ts.length + 1) c1)) 0 (.string (s.extract (i + k) s.size)) rfl)
      replace JB := Aside0.mk ((JB.out.setCell (p := ⟨w.heap.size, 0, none⟩) (Nat.le_refl _) (.slice A1 (ts.length + 1) c1)).setCell (p := ⟨w.heap.size + 1, 0, none⟩) (by simp) (.string (s.extract (i + k) s.size)))
      replace JX := Aside0.mk ((JX.out.far (b := w.heap.size) (by omega) (by omega) (.slice A1 (ts.length + 1) c1)).far (b := w.heap.size + 1) (by omega) (by omega) (.string (s.extract (i + k) s.size)))
      replace JK := Aside0.mk ((JK.out.trans (KeepsOthers.setCell _ ⟨w.heap.size, 0, none⟩ (.slice A1 (ts.length + 1) c1))).trans (KeepsOthers.setCell _ ⟨w.heap.size + 1, 0, none⟩ (.string (s.extract (i + k) s.size))))
      replace JO := Aside0.mk (Kd.R_far (p := ⟨w.heap.size + 1, 0, none⟩) (Kd.R_far (p := ⟨w.heap.size, 0, none⟩) JO.out (fun q hq => by show q ≠ w.heap.size; omega) (.slice A1 (ts.length + 1) c1)) (fun q hq => by show q ≠ w.heap.size + 1; omega) (.string (s.extract (i + k) s.size)))
      generalize (w3.setCell ⟨w.heap.size, 0, none⟩ (.slice A1 (ts.length + 1) c1)).setCell ⟨w.heap.size + 1, 0, none⟩ (.string (s.extract (i + k) s.size)) = w4 at J0 J1 JB JX JK JO ⊢
      have hc4 : w4.cell? ⟨w.heap.size, 0, none⟩ = some (.slice A1 (ts.length + 1) c1) := (blk_cell J0.out 0).trans rfl
      by_cases h12 : ts.length ≤ 11
      · gi_wp2
        exact ⟨JK.out, ⟨_, _, J0.out, J1.out, JO.out, JB.out, .inl ⟨by simp; omega, rfl⟩, HG.out⟩, JX.out, JB.out⟩
      · have h12' : 12 ≤ ts.length := by omega
        gi_wp2
        exact ⟨JK.out, rfl, _, _, J0.out, J1.out, JO.out, JB.out, .inr ⟨by have := HN.out; simp; omega, rfl⟩, HG.out⟩
  case hdone =>
    intro D i W hD hI hz hK
    obtain ⟨v, ts, h0, h1, hr, hBW, hn, hg⟩ := hI
    have hc0 : W.cell? ⟨w.heap.size, 0, none⟩ = some v := (blk_cell h0 0).trans rfl
    have hc1 : W.cell? ⟨w.heap.size + 1, 0, none⟩ = some (.string (s.extract i s.size)) := (blk_cell h1 0).trans rfl
    obtain ⟨A1, c1, ev⟩ := Kd.R_slice hr
    subst ev
    have HN := Aside0.mk hn
    have HG := Aside0.mk hg
    have HO := Aside0.mk hr
    have HB := Aside0.mk hBW
    have HD := Aside0.mk hK
    have HZ := Aside0.mk hz
    have H0 := Aside0.mk h0
    clear hn hg hr hBW hK hz h0 h1
    gi_wp2
    · rename_i e1 e2
      have HE : Scr.lettersE sc s.data.toList = (([] : List ByteArray).map (fun t => t.data.toList), 1) := bad_of (by
        rw [(HG.out.fin HZ.out).1, e2]; simp)
      refine ⟨by simp, .inl ⟨_, _, rfl, run_takeDeferred HD.out, ?_⟩⟩
      exact ⟨_, results_tmp2 rfl _ _ _, .slice none 0 0, [], 1, rfl, HE, Kd.R_nil _ _ _ _ _, HB.out.grown (grownBy_putObj' W D _) HB.out.size (fun k e => by cases e; omega)⟩
    · rename_i e1 e2 e3
      have HE : Scr.lettersE sc s.data.toList = (([] : List ByteArray).map (fun t => t.data.toList), 1) := bad_of (by
        rw [(HG.out.fin HZ.out).1, List.length_map]
        rcases e3 with e3 | e3
        · exact absurd (List.eq_nil_of_length_eq_zero (by have := beq_iff_eq.1 e3; omega)) e2
        · omega)
      refine ⟨by simp, .inl ⟨_, _, rfl, run_takeDeferred HD.out, ?_⟩⟩
      exact ⟨_, results_tmp2 rfl _ _ _, .slice none 0 0, [], 1, rfl, HE, Kd.R_nil _ _ _ _ _, HB.out.grown (grownBy_putObj' W D _) HB.out.size (fun k e => by cases e; omega)⟩
    · rename_i e1 e2 e3
      have hpos : 0 < ts.length := List.length_pos_iff.2 e2
      have HE : Scr.lettersE sc s.data.toList = (ts.map (fun t => t.data.toList), 0) := by
        rw [good_of, (HG.out.fin HZ.out).1]
        rw [(HG.out.fin HZ.out).1, (HG.out.fin HZ.out).2, List.length_map]
        refine ⟨?_, hpos, by omega⟩
        rw [← toList_extract, ← ByteArray.toList_eq]; exact e1
      refine ⟨by simp, .inl ⟨_, _, rfl, run_takeDeferred HD.out, ?_⟩⟩
      exact ⟨_, results_tmp2 rfl _ _ _, _, ts, 0, rfl, HE, Kd.R_mono (R_put HO.out _ ⟨_, HD.out, rfl⟩) (fun _ _ => trivial), HB.out.grown (grownBy_putObj' W D _) HB.out.size (fun k e => by cases e; omega)⟩
    · rename_i e1
      have HE : Scr.lettersE sc s.data.toList = (([] : List ByteArray).map (fun t => t.data.toList), 1) := bad_of (by
        rw [(HG.out.fin HZ.out).2, ← toList_extract, ← ByteArray.toList_eq]; exact fun h => e1 h.1)
      refine ⟨by simp, .inl ⟨_, _, rfl, run_takeDeferred HD.out, ?_⟩⟩
      exact ⟨_, results_tmp2 rfl _ _ _, .slice none 0 0, [], 1, rfl, HE, Kd.R_nil _ _ _ _ _, HB.out.grown (grownBy_putObj' W D _) HB.out.size (fun k e => by cases e; omega)⟩
  case hstop =>
    rintro D c i W hD ⟨rfl, hI⟩ hK
    obtain ⟨v, ts, h0, h1, hr, hBW, hn, hg⟩ := hI
    have hc0 : W.cell? ⟨w.heap.size, 0, none⟩ = some v := (blk_cell h0 0).trans rfl
    have hc1 : W.cell? ⟨w.heap.size + 1, 0, none⟩ = some (.string (s.extract i s.size)) := (blk_cell h1 0).trans rfl
    obtain ⟨A1, c1, ev⟩ := Kd.R_slice hr
    subst ev
    have h13 : ts.length = 13 := by rcases hn with h | h; exact absurd h.2 (by omega); exact h.1
    have HE : Scr.lettersE sc s.data.toList = (([] : List ByteArray).map (fun t => t.data.toList), 1) := bad_of (by
      rw [hg.2.1, List.length_append, List.length_map]; omega)
    replace HE := Aside0.mk HE
    have HB := Aside0.mk hBW
    have HD := Aside0.mk hK
    rw [h13] at hc0
    clear hg hr hBW hK h0 h1 hn
    gi_wp2
    all_goals
      refine ⟨by simp, .inl ⟨_, _, rfl, run_takeDeferred HD.out, ?_⟩⟩
      exact ⟨_, results_tmp2 rfl _ _ _, .slice none 0 0, [], 1, rfl, HE.out, Kd.R_nil _ _ _ _ _, HB.out.grown (grownBy_putObj' W D _) HB.out.size (fun k e => by cases e; omega)⟩
end Go.Proofs.YtgimbkfahfnplaaDoor.Lt
