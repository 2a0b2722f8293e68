/- The law of joined words, plain: no program in sight. -/
import Derived.Test.YtgimbkfahfnplaaDoorPu
import Derived.Test.YtgimbkfahfnplaaDoorPuTexts
import Derived.Test.YtgimbkfahfnplaaDoorC2
namespace Go.Proofs.YtgimbkfahfnplaaDoor.Pu
open Go.RowKit Go.Lib Go.Proofs.YtgimbkfahfnplaaDoorW.PrintWords Go.Proofs.YtgimbkfahfnplaaDoor.X1 Go.Proofs.YtgimbkfahfnplaaDoor.X2 Go.Proofs.YtgimbkfahfnplaaDoor.X3 Go.Proofs.YtgimbkfahfnplaaDoor.X5 Go.Proofs.YtgimbkfahfnplaaDoor.A Go.Proofs.YtgimbkfahfnplaaDoor.B Go.Proofs.YtgimbkfahfnplaaDoor.C

theorem joins_j2 (sc : Int) (a b : ByteArray) (ha : a.size ≤ 200) (hb : b.size ≤ 200) (wa : Scr.word sc a.data.toList = true) (wb : Scr.word sc b.data.toList = true) (x : Bool)
    (hx : x = false → sc = 4 → (Scr.letters sc a.data.toList).getLast? = some [110] → b.data.toList.head?.any Scr.vowS.contains = false) :
    customhouselaw09_ScriptJoins.j2 298 sc a b true ((Scr.letters sc a.data.toList).map bs) ((Scr.letters sc b.data.toList).map bs) x = some true := by
  obtain ⟨a1, a2, a3⟩ := word_parts wa
  obtain ⟨b1, b2, b3⟩ := word_parts wb
  show customhouselaw09_ScriptJoins.j2 (297 + 1) _ _ _ _ _ _ _ = _
  simp only [customhouselaw09_ScriptJoins.j2]
  by_cases hx1 : x = true
  · rw [if_pos hx1]
  · rw [if_neg hx1]
    have hx0 : x = false := by simpa using hx1
    have hacc : sc = 2 → b.data.toList.head?.any Scr.accS.contains = false := by
      intro e
      subst e
      cases hbl : b.data.toList with
      | nil => rfl
      | cons c r =>
        have hl : Scr.len 2 (c :: r) ≠ 0 := by
          intro h0
          rw [hbl, (Scr.letters_zero h0).1] at b2
          simp at b2
        have : (Scr.smallS ++ Scr.capS).contains c = true := by
          rw [Scr.len_cons] at hl
          unfold Scr.l2 at hl
          rw [if_neg (by decide), if_pos rfl] at hl
          cases h : (Scr.smallS ++ Scr.capS).contains c with
          | true => rfl
          | false => rw [h, if_neg (by simp)] at hl; exact absurd rfl hl
        exact Scr.let_acc c this
    obtain ⟨l1, l2⟩ := Scr.letters_append sc b.data.toList hacc a.data.toList a1 (hx hx0)
    have hd : (a ++ b).data.toList = a.data.toList ++ b.data.toList := by rw [ByteArray.data_append, Array.toList_append]
    have hsz : (a ++ b).size ≤ 1000000 := by rw [size_len, hd, List.length_append, ← size_len, ← size_len]; omega
    rw [if_pos (by omega), Letters_f sc (a ++ b) hsz, hd]
    have hw : wrap64 ((((Scr.letters sc a.data.toList).map bs).length : Int) + (((Scr.letters sc b.data.toList).map bs).length : Int)) = (((Scr.letters sc a.data.toList).length + (Scr.letters sc b.data.toList).length : Nat) : Int) := by
      rw [List.length_map, List.length_map]; unfold wrap64; omega
    rw [hw]
    by_cases hn : (Scr.letters sc a.data.toList).length + (Scr.letters sc b.data.toList).length ≤ 12
    · have hwd : Scr.word sc (a.data.toList ++ b.data.toList) = true := word_of ⟨by rw [l2, b1], by rw [l1, List.length_append]; omega, by rw [l1, List.length_append]; omega⟩
      rw [if_pos hwd, Option.bind_some, if_neg (by omega), if_pos rfl, if_pos trivial, Option.bind_some, if_pos (by simp; omega), Option.bind_some, if_pos (by simp; omega), l1]
      rw [texts_f _ _ _ (by simp; omega) (by simp; omega), Option.bind_some]
      simp
    · have hwd : ¬ Scr.word sc (a.data.toList ++ b.data.toList) = true := fun h => by
        have := (word_parts h).2.2
        rw [l1, List.length_append] at this
        omega
      rw [if_neg hwd, Option.bind_some, if_pos (by omega), if_pos trivial]
      rfl
theorem vowel_f (b : ByteArray) : customhouselaw09_vowel.f b = some (b.data.toList.head?.any Scr.vowS.contains) := by
  obtain ⟨⟨l⟩⟩ := b
  unfold customhouselaw09_vowel.f
  cases l with
  | nil => rfl
  | cons c r =>
    have hs : (⟨(c :: r).toArray⟩ : ByteArray).size = r.length + 1 := by rw [size_len]; rfl
    have hb : bt ⟨(c :: r).toArray⟩ 0 = (c.toNat : Int) := by
      have := bt_at ⟨(c :: r).toArray⟩ 0 (by rw [hs]; simp)
      rw [← this]
      rfl
    rw [hs, hb, if_pos (by omega), if_pos (by omega)]
    have key := Scr.dec_all (fun c => (if ((c.toNat : Nat) : Int) = 97 then (some true) else (if ((c.toNat : Nat) : Int) = 105 then (some true) else (if ((c.toNat : Nat) : Int) = 117 then (some true) else (if ((c.toNat : Nat) : Int) = 101 then (some true) else (some (((c.toNat : Nat) : Int) == 111)))))) == some (Scr.vowS.contains c)) (by decide +kernel) c
    exact beq_iff_eq.1 key
theorem joinsLaw (sc : Int) (a b : ByteArray) : customhouselaw09_ScriptJoins.f 300 sc a b = some true := by
  unfold customhouselaw09_ScriptJoins.f
  rw [head_f, Option.bind_some, short_f 300 [a, b] (by simp) (by simp), Option.bind_some]
  by_cases hs : a.size ≤ 200 ∧ b.size ≤ 200
  · have h1 : ([a, b].all fun s => decide (s.size ≤ 200)) = true := by simpa using hs
    rw [if_pos h1, Letters_f sc a (by omega), Letters_f sc b (by omega)]
    by_cases wa : Scr.word sc a.data.toList = true
    · rw [if_pos wa, Option.bind_some]
      by_cases wb : Scr.word sc b.data.toList = true
      · obtain ⟨a1, a2, a3⟩ := word_parts wa
        obtain ⟨b1, b2, b3⟩ := word_parts wb
        rw [if_pos wb, Option.bind_some, if_pos rfl]
        show customhouselaw09_ScriptJoins.j0 (299 + 1) _ _ _ _ _ _ _ = _
        simp only [customhouselaw09_ScriptJoins.j0]
        rw [if_neg (by simp), if_neg (by simp; omega)]
        show customhouselaw09_ScriptJoins.j1 (298 + 1) _ _ _ _ _ _ _ = _
        simp only [customhouselaw09_ScriptJoins.j1]
        rw [if_neg (by simp; omega)]
        by_cases h4 : sc = 4
        · obtain ⟨n, hn⟩ : ∃ n, (Scr.letters sc a.data.toList).length = n + 1 := ⟨(Scr.letters sc a.data.toList).length - 1, by omega⟩
          have hwl : wrap64 ((((Scr.letters sc a.data.toList).map bs).length : Int) - 1) = (n : Int) := by rw [List.length_map, hn]; unfold wrap64; omega
          rw [if_pos h4, hwl, if_pos (by omega), if_pos (by rw [List.length_map, hn]; omega), rd_lt _ n (by rw [List.length_map, hn]; omega)]
          have hlast : (Scr.letters sc a.data.toList).getLast? = some ((Scr.letters sc a.data.toList)[n]'(by omega)) := by
            rw [List.getLast?_eq_getElem?, show (Scr.letters sc a.data.toList).length - 1 = n by omega]
            exact List.getElem?_eq_getElem _
          have hget : (((Scr.letters sc a.data.toList).map bs)[n]'(by rw [List.length_map, hn]; omega)).toList = (Scr.letters sc a.data.toList)[n]'(by omega) := by
            rw [List.getElem_map, ByteArray.toList_eq]; rfl
          rw [hget]
          by_cases hl : (Scr.letters sc a.data.toList)[n]'(by omega) = [110]
          · rw [if_pos hl, vowel_f, Option.bind_some]
            exact joins_j2 sc a b hs.1 hs.2 wa wb _ (fun hx _ _ => hx)
          · rw [if_neg hl]
            exact joins_j2 sc a b hs.1 hs.2 wa wb _ (fun _ _ h => absurd (Option.some.inj (hlast.symm.trans h)) hl)
        · rw [if_neg h4]
          exact joins_j2 sc a b hs.1 hs.2 wa wb _ (fun _ h => absurd h h4)
      · rw [if_neg wb, Option.bind_some, if_pos rfl]
        show customhouselaw09_ScriptJoins.j0 (299 + 1) _ _ _ _ _ _ _ = _
        simp only [customhouselaw09_ScriptJoins.j0]
        rw [if_pos (by simp)]
    · rw [if_neg wa, Option.bind_some]
      cases hbv : (if Scr.word sc b.data.toList = true then some ((Scr.letters sc b.data.toList).map bs, (0 : Int)) else some ([], 1)) with
      | none => split at hbv <;> cases hbv
      | some y =>
        rw [Option.bind_some, if_neg (by simp)]
        show customhouselaw09_ScriptJoins.j0 (299 + 1) _ _ _ _ _ _ _ = _
        simp only [customhouselaw09_ScriptJoins.j0]
        rw [if_pos trivial]
  · have h1 : ([a, b].all fun s => decide (s.size ≤ 200)) = false := by
      cases h : ([a, b].all fun s => decide (s.size ≤ 200)) with
      | false => rfl
      | true => exact absurd (by simpa using h) hs
    rw [if_neg (by rw [h1]; simp)]
end Go.Proofs.YtgimbkfahfnplaaDoor.Pu
