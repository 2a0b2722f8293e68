/- A row of rational numbers as it is written out. -/
import Derived.Test.YtfaibifilpfikaaGreatDoorD
set_option linter.unusedVariables false
set_option linter.unusedSimpArgs false
namespace Go.Proofs.YtfaibifilpfikaaGreatDoor.F0
open Go.RowKit Go.Proofs.YtfaibifilpfikaaGreatDoorW.PrintWords Go.Proofs.YtfaibifilpfikaaGreatDoorW.PrintLast Go.Proofs.YtfaibifilpfikaaGreatDoorW.PrintMore Go.Proofs.YtfaibifilpfikaaGreatDoor.A
theorem flat3 (xs : List S23) : ∀ (j i : Nat) (x : S23), xs[j]? = some x → i < 3 → (xs.flatMap fun x => [Value.bool x.f0, .string x.f1, .string x.f2])[j * 3 + i]? = [Value.bool x.f0, .string x.f1, .string x.f2][i]? := by
  induction xs with
  | nil => intro j i x h; simp at h
  | cons y r ih =>
    intro j i x h hi
    rw [List.flatMap_cons]
    cases j with
    | zero =>
      obtain rfl : y = x := by simpa using h
      rw [Nat.zero_mul, Nat.zero_add, List.getElem?_append_left (by simpa using hi)]
    | succ j =>
      rw [List.getElem?_append_right (by simp; omega)]
      have := ih j i x (by simpa using h) hi
      rw [← this]
      congr 1
      simp; omega
theorem lit23 (W : World) (xs : List S23) (h : xs.length ≤ 1000) (l : List Value) (hl : l = xs.flatMap fun x => [Value.bool x.f0, .string x.f1, .string x.f2]) : Kd.C k23 (W.alloc (.cells l.toArray 23)) (some ⟨W.heap.size, 0, none⟩) xs.length xs := by
  subst hl
  refine ⟨rfl, by omega, fun _ => ⟨_, rfl, fun j p hj => ⟨_, rfl, k23_mk _ p, fun i u hi => ?_⟩⟩⟩
  have hi3 : i < 3 := by
    have := (List.getElem?_eq_some_iff.1 hi).1
    simpa using this
  have hadd : (⟨W.heap.size, 0, none⟩ : Addr).add (j * k23.sz + i) = ⟨W.heap.size, j * 3 + i, none⟩ := by
    show (⟨W.heap.size, 0, none⟩ : Addr).add (j * 3 + i) = _
    unfold Addr.add; split <;> simp_all
  rw [hadd, blk_cell (blk_new W _) (j * 3 + i)]
  rw [List.getElem?_toArray, flat3 xs j i p hj hi3]
  exact hi
end Go.Proofs.YtfaibifilpfikaaGreatDoor.F0
