/- A name that came in as an argument, opened: its script and its words in memory. -/
import Derived.Test.YtgimbkfahfnplaaDoorProg
import Derived.Test.YtgimbkfahfnplaaDoorWWords
import Derived.SliceStrings
import Derived.Lib.SmallJoins
import Derived.Carry
namespace Go.Proofs.YtgimbkfahfnplaaDoor.Rd
open Go Go.Proofs Go.Joins Go.ChangeShapes Go.WideShapes Go.ChangeAt Go.RowKit Go.Proofs.YtgimbkfahfnplaaDoorW.PrintWords
theorem laidOut : laidOutB Tryd.prog = true := by kernel_rfl
theorem open_row {H : Type} {enc : TypeId × Value → H} {W : World} {fuel : Nat} {c1 : Value} {y : DataW H × List MemPlace} (h : DataW.trod enc Tryd.prog W 0 (fun _ => true) true fuel 22 [c1] = some y) :
    ∃ A c l, c1 = .slice A l.length c ∧ l.length ≤ c ∧ Kd.C Kd.string W A l.length l := by
  rcases open_strings Tryd.underlying22 Tryd.underlying9 (by kernel_rfl) h with ⟨hcs, _⟩ | ⟨a, len, cap, ss, hcs, _, hl, hm, hss, _, hcell, _⟩
  · obtain rfl := (List.cons.inj hcs).1
    exact ⟨none, 0, [], rfl, Nat.le_refl _, Kd.C_nil _ _⟩
  · obtain rfl := (List.cons.inj hcs).1
    have hss' : ss.length = cap := by simpa using hss
    have hlen : (ss.take len).length = len := by rw [List.length_take]; omega
    refine ⟨some a, cap, ss.take len, by rw [hlen], by omega, rfl, ?_, fun _ => ⟨a, rfl, fun j p hj => ⟨[.string p], rfl, rfl, fun i u hi => ?_⟩⟩⟩
    · unfold maxLen at hm; omega
    · have hi0 : i = 0 := by
        have := (List.getElem?_eq_some_iff.1 hi).1
        simp at this
        exact this
      subst hi0
      obtain rfl := Option.some.inj hi
      have hjl : j < len := by have := (List.getElem?_eq_some_iff.1 hj).1; omega
      rw [List.getElem?_take_of_lt hjl] at hj
      have hg : ss.getD j ByteArray.empty = p := by rw [List.getD_eq_getElem?_getD, hj]; rfl
      have := hcell j (by omega)
      rw [hg] at this
      have e : j * Kd.string.sz + 0 = j := by show j * 1 + 0 = j; omega
      rw [e]
      exact this
theorem open_name {H : Type} {enc : TypeId × Value → H} {W : World} {r : Reach} {b0 : Nat} {v : Value} {d : DataW H} {p : List MemPlace} (hv : Value.okWide Tryd.prog W r b0 24 v) (h : DataW.Trod enc Tryd.prog W 0 (fun _ => true) true 24 v d p) :
    ∃ (a : Int) (A : Option Addr) (c : Nat) (l : List ByteArray), v = .agg #[.int .i64 a, .slice A l.length c] ∧ l.length ≤ c ∧ Kd.C Kd.string W A l.length l := by
  obtain ⟨c0, c1, y0, y1, m, rfl, _, _, hy0, hy1⟩ := open_agg2 Tryd.underlying24 (by kernel_rfl) (by kernel_rfl) hv h
  obtain ⟨a, e0, _, _⟩ := DataW.trod_int Tryd.underlying3 hy0
  obtain rfl := (List.cons.inj e0).1
  obtain ⟨A, c, l, rfl, h1, h2⟩ := open_row hy1
  exact ⟨a, A, c, l, rfl, h1, h2⟩
end Go.Proofs.YtgimbkfahfnplaaDoor.Rd
