/- The iterator of package script ('letters' and its closure), walked: it yields the letters of a text one by one; it holds for every body that keeps the iterator's two boxes, for every text of at most 2^45 bytes. -/
import Derived.RangeFuncNested
import Derived.RangeFuncBound
import Derived.RangeFuncCalls
import Derived.RangeFuncLeaves
import Derived.RangeFuncBox
import Derived.Shelf.Abstract
import Derived.Shelf.RegionOpen
import Derived.WalkKit
import Derived.OwnWalkIn
import Derived.TacticsInMore
import Derived.LoopNIn
import Derived.LoopIn
import Derived.Lib.Hide
import Derived.Outline
import Derived.Test.YtgimbkfahfnplaaDoorProg
import Derived.Test.YtgimbkfahfnplaaDoorPl
namespace Go.Proofs.YtgimbkfahfnplaaDoor.Lt
open Go.RowKit Go.Shelf
attribute [local go_sem] Oper.semAt_some

/-- What the iterator's two boxes hold: the script, and the text from offset i on. -/
structure Bx (cb sb : Nat) (sc : Int) (s : ByteArray) (i : Nat) (w : World) : Prop where
  script : w.cell? ⟨cb, 0, none⟩ = some (.int .i64 sc)
  rest : w.cell? ⟨sb, 0, none⟩ = some (.string (s.extract i s.size))
  free : w.frozen? ⟨sb, 0, none⟩ = false

/-- The contract of script.length, as it is used here. -/
def LenSaid (Tb : World → Prop) : Prop := ∀ (sc : Int) (s : ByteArray) (w : World), s.size ≤ 35184372088831 → Tb w →
  Calls Tryd.prog 37 #[.int .i64 sc, .string s] w fun e w' => e = .returned (.int .i64 (Scr.len sc s.data.toList)) ∧ Below w.heap.size w w'

/-- How much is left in the box: the loop's measure. -/
def boxLeft (sb : Nat) (w : World) : Nat := match w.cell? ⟨sb, 0, none⟩ with | some (.string t) => t.size | _ => 0
theorem boxLeft_eq {cb sb : Nat} {sc : Int} {s : ByteArray} {i : Nat} {w : World} (h : Bx cb sb sc s i w) : boxLeft sb w = s.size - i := by
  unfold boxLeft
  rw [h.rest]
  show (s.extract i s.size).size = _
  rw [ByteArray.size_extract, Nat.min_self]
theorem Bx.below {cb sb : Nat} {sc : Int} {s : ByteArray} {i : Nat} {w w' : World} (h : Bx cb sb sc s i w) (hb : Below w.heap.size w w') : Bx cb sb sc s i w' := by
  have hlt := World.block_lt_of_cell? w _ h.rest
  exact ⟨(hb.cell (p := ⟨cb, 0, none⟩) (World.block_lt_of_cell? w _ h.script)).trans h.script, (hb.cell (p := ⟨sb, 0, none⟩) hlt).trans h.rest, (hb.frozen (p := ⟨sb, 0, none⟩) hlt).trans h.free⟩
theorem size_list (s : ByteArray) : s.size = s.data.toList.length := by rw [Array.length_toList]; rfl
theorem extract_twice (s : ByteArray) (i k : Nat) (_h : i + k ≤ s.size) : s.extract i (i + k) = (s.extract i s.size).extract 0 k := by
  rw [ByteArray.extract_extract]; congr 1; omega
theorem extract_rest (s : ByteArray) (i k : Nat) (h : i + k ≤ s.size) : (s.extract i s.size).extract k (s.size - i) = s.extract (i + k) s.size := by
  rw [ByteArray.extract_extract]; congr 1; omega
theorem Bx.next {cb sb : Nat} {sc : Int} {s : ByteArray} {i : Nat} {w : World} (h : Bx cb sb sc s i w) (hne : cb ≠ sb) (j : Nat) : Bx cb sb sc s j (w.setCell ⟨sb, 0, none⟩ (.string (s.extract j s.size))) :=
  ⟨(World.cell?_setCell_other w ⟨sb, 0, none⟩ ⟨cb, 0, none⟩ _ (fun e => hne (congrArg Addr.block e).symm)).trans h.script, World.cell?_setCell_same' _ _ _ (by rw [h.rest]; rfl), by rw [World.frozen?_setCell]; exact h.free⟩
theorem toList_extract (s : ByteArray) (i : Nat) : (s.extract i s.size).data.toList = s.data.toList.drop i := by
  have : s.size = s.data.toList.length := size_list s
  rw [ByteArray.data_extract, Array.toList_extract, List.extract_eq_take_drop]
  apply List.take_of_length_le
  rw [List.length_drop]; omega
set_option maxHeartbeats 1000000 in
theorem letters1 (Tb : World → Prop) (hTb : ∀ w w', Tb w → Below w.heap.size w w' → Tb w') (hL : LenSaid Tb) (l cb sb : Nat) (hTs : ∀ w v, Tb w → Tb (w.setCell ⟨sb, 0, none⟩ v)) (hne : cb ≠ sb) (sc : Int) (s : ByteArray) (hs : s.size ≤ 35184372088831)
    (J Jx : Nat → World → Prop)
    (hJs : ∀ i W v, J i W → J i (W.setCell ⟨sb, 0, none⟩ v)) (hJb : ∀ i W W', J i W → Below W.heap.size W W' → J i W')
    (hY : ∀ i W, J i W → Bx cb sb sc s i W → Tb W → 0 < Scr.len sc (s.data.toList.drop i) → i + Scr.len sc (s.data.toList.drop i) ≤ s.size →
      YieldAt Fence.wide 0 Tryd.prog l #[.string (s.extract i (i + Scr.len sc (s.data.toList.drop i)))] W fun e W' =>
        (e = .returned (.bool true) ∧ J (i + Scr.len sc (s.data.toList.drop i)) W' ∧ Bx cb sb sc s i W' ∧ Tb W') ∨ (e = .returned (.bool false) ∧ Jx (i + Scr.len sc (s.data.toList.drop i)) W'))
    (W : World) (hB : Bx cb sb sc s 0 W) (hT : Tb W) (h0 : J 0 W) :
    Calls Tryd.prog 36 #[.func (.yield l) #[] #[], .pointer (some ⟨cb, 0, none⟩), .pointer (some ⟨sb, 0, none⟩)] W fun e W' =>
      (∃ v, e = .returned v) ∧ ((∃ i, Scr.len sc (s.data.toList.drop i) = 0 ∧ J i W') ∨ (∃ i, Jx i W')) := by
  refine (callsIn_wide (n := 1)).1 ?_
  refine callsIn_of_wp Tryd.func36 rfl trivial ?_ rfl
  simp only [Tryd.ntmps36, List.size_toArray, List.length_cons, List.length_nil, Nat.reduceAdd, Nat.reduceSub, Array.replicate_succ, Array.replicate_zero, List.push_toArray, List.append_toArray, List.nil_append, List.cons_append]
  have hc := hB.script
  have hr := hB.rest
  gi_wp2_with (refine ⟨trivial, ?_⟩; refine callsIn_wide.2 ((hL sc s W hs hT).mono ?_); rintro e w1 ⟨rfl, hb1⟩)
  have hB1 := hB.below hb1
  have hT1 := hTb _ _ hT hb1
  have h01 := hJb _ _ _ h0 hb1
  clear hB hT h0 hb1 hc hr
  gi_loopw [4] (fun n wr => ∃ i, n = .int .i64 (Scr.len sc (s.data.toList.drop i)) ∧ i ≤ s.size ∧ Bx cb sb sc s i wr ∧ Tb wr ∧ J i wr) (fun _ wr => boxLeft sb wr)
  case atStart => exact ⟨0, by simp, by omega, hB1, hT1, h01⟩
  case round =>
    obtain ⟨i, rfl, hi, hBr, hTr, hJr⟩ := hrel
    clear hB1 hT1 h01
    have hc := hBr.script
    have hr := hBr.rest
    have hfr := hBr.free
    by_cases hz : Scr.len sc (s.data.toList.drop i) = 0
    · gi_wp2
      all_goals (refine ⟨fun _ h => (by cases h), ?_⟩; gi_wp2)
      go_end0
      exact ⟨⟨_, rfl⟩, .inl ⟨i, hz, hJr⟩⟩
    · have hpos : 0 < Scr.len sc (s.data.toList.drop i) := by omega
      have hz1 : decide ((0 : Int) < (Scr.len sc (s.data.toList.drop i) : Int)) = true := decide_eq_true (by omega)
      have hle : i + Scr.len sc (s.data.toList.drop i) ≤ s.size := by
        have := Scr.len_le sc (s.data.toList.drop i)
        have e := size_list s
        rw [List.length_drop] at this; omega
      obtain ⟨fn, tmps, assign, body, hy, hR⟩ := hY i wr hJr hBr hTr hpos hle
      rw [extract_twice s i _ hle] at hy
      gi_wp2
      refine hR.mono ?_
      rintro e W3 (⟨rfl, hJ3, hB3, hT3⟩ | ⟨rfl, hJx3⟩)
      · have hc3 := hB3.script
        have hr3 := hB3.rest
        have hf3 := hB3.free
        gi_wp2
        rw [extract_rest s i _ hle]
        obtain ⟨k, hk⟩ : ∃ k, Scr.len sc (s.data.toList.drop i) = k := ⟨_, rfl⟩
        rw [hk] at hJ3 hle ⊢
        have hBn := hB3.next hne (i + k)
        have hsz : (s.extract (i + k) s.size).size ≤ 35184372088831 := by rw [ByteArray.size_extract]; omega
        refine ⟨trivial, callsIn_wide.2 ((hL sc (s.extract (i + k) s.size) _ hsz (hTs _ _ hT3)).mono ?_)⟩
        rintro e w4 ⟨rfl, hb4⟩
        have hB4 := hBn.below hb4
        have hJ4 := hJb _ _ _ (hJs _ _ (.string (s.extract (i + k) s.size)) hJ3) hb4
        have hT4 := hTb _ _ (hTs _ _ hT3) hb4
        rw [toList_extract]
        have hdone : boxLeft sb w4 < boxLeft sb wr := by rw [boxLeft_eq hB4, boxLeft_eq hBr]; omega
        clear hc3 hr3 hf3 hc hr hfr
        gi_wp2
        exact ⟨⟨i + k, rfl, hle, hB4, hT4, hJ4⟩, hdone⟩
      · gi_wp2
        go_end0
        exact ⟨⟨_, rfl⟩, .inr ⟨_, hJx3⟩⟩
end Go.Proofs.YtgimbkfahfnplaaDoor.Lt
