/- The law of what the scripts have in common, plain: no program in sight. -/
import Derived.Test.YtgimbkfahfnplaaDoorPu
import Derived.Test.YtgimbkfahfnplaaDoorPuTexts
import Derived.Test.YtgimbkfahfnplaaDoorC6
namespace Scr
theorem singles (sc : Int) (P : UInt8 → Bool) (h : ∀ c r, P c = true → r.all P = true → len sc (c :: r) = 1) : ∀ s : Bs, s.all P = true → letters sc s = s.map (fun c => [c]) ∧ left sc s = []
  | [], _ => letters_nil sc
  | c :: r, hs => by
    rw [List.all_cons, Bool.and_eq_true] at hs
    have h1 := h c r hs.1 hs.2
    obtain ⟨e1, e2⟩ := letters_step (sc := sc) (s := c :: r) (by rw [h1]; decide)
    obtain ⟨i1, i2⟩ := singles sc P h r hs.2
    rw [h1] at e1 e2
    simp only [List.take_succ_cons, List.take_zero, List.drop_succ_cons, List.drop_zero] at e1 e2
    rw [e1, e2, i1, i2]
    exact ⟨rfl, rfl⟩
theorem left_all (sc : Int) (P : UInt8 → Bool) (h : ∀ s : Bs, len sc s ≠ 0 → (s.take (len sc s)).all P = true) (s : Bs) : left sc s = [] → s.all P = true := by
  refine ind (sc := sc) (P := fun s => left sc s = [] → s.all P = true) ?_ ?_ s
  · intro s h0 hl
    rw [(letters_zero h0).2] at hl
    subst hl
    rfl
  · intro s h0 ih hl
    rw [(letters_step h0).2] at hl
    have h1 := h s h0
    have h2 := ih hl
    rw [← List.take_append_drop (len sc s) s, List.all_append, h1, h2]
    rfl
def small1 (c : UInt8) : Bool := smallS.contains c
theorem small_plain (c : UInt8) (r : Bs) (h : small1 c = true) : len 1 (c :: r) = 1 := by
  rw [len_cons]; unfold l2; rw [if_pos rfl]; exact if_pos h
theorem small_cap (c : UInt8) (h : small1 c = true) : (smallS ++ capS).contains c = true := by
  have := dec_all (fun c => !small1 c || (smallS ++ capS).contains c) (by decide +kernel) c
  simpa [h] using this
theorem small_cased (c : UInt8) (r : Bs) (h : small1 c = true) (hr : r.all small1 = true) : len 2 (c :: r) = 1 := by
  have ha : r.head?.any accS.contains = false := by
    cases r with
    | nil => rfl
    | cons b r =>
      rw [List.all_cons, Bool.and_eq_true] at hr
      exact let_acc b (small_cap b hr.1)
  rw [len_cons]
  unfold l2
  rw [if_neg (by decide), if_pos rfl, if_pos (small_cap c h), ha, if_neg (by simp)]
theorem plain_small (s : Bs) (h : len 1 s ≠ 0) : (s.take (len 1 s)).all small1 = true := by
  match s, h with
  | [], h => exact absurd (len_nil 1) h
  | c :: r, h =>
    have hc : small1 c = true := by
      cases hc : small1 c with
      | true => rfl
      | false =>
        have hc' : hd (c :: r) smallS = false := hc
        unfold len at h
        rw [if_pos rfl, hc'] at h
        simp at h
    rw [small_plain c r hc]
    simp [hc]
def abj1 (c : UInt8) : Bool := abjS.contains c
theorem abj_len (c : UInt8) (r : Bs) (h : abj1 c = true) : len 3 (c :: r) = 1 := by
  rw [len_cons]; unfold l2; rw [if_neg (by decide), if_neg (by decide), if_pos rfl]; exact if_pos h
theorem abj_all (s : Bs) (h : len 3 s ≠ 0) : (s.take (len 3 s)).all abj1 = true := by
  match s, h with
  | [], h => exact absurd (len_nil 3) h
  | c :: r, h =>
    have hc : abj1 c = true := by
      cases hc : abj1 c with
      | true => rfl
      | false =>
        have hc' : hd (c :: r) abjS = false := hc
        unfold len at h
        rw [if_neg (by decide), if_neg (by decide), if_pos rfl, hc'] at h
        simp at h
    rw [abj_len c r hc]
    simp [hc]
theorem abj_small (c : UInt8) (h : abj1 c = true) (hq : c ≠ 39) : small1 c = true := by
  have := dec_all (fun c => !abj1 c || c == 39 || small1 c) (by decide +kernel) c
  simpa [h, hq] using this
theorem syl_small (s : Bs) (h : len 4 s ≠ 0) : (s.take (len 4 s)).all small1 = true := by
  have ho : ∀ c : UInt8, onsS.contains c = true → small1 c = true := fun c h => by
    have := dec_all (fun c => !onsS.contains c || small1 c) (by decide +kernel) c
    rw [h] at this; simpa using this
  have hv : ∀ c : UInt8, vowS.contains c = true → small1 c = true := fun c h => by
    have := dec_all (fun c => !vowS.contains c || small1 c) (by decide +kernel) c
    rw [h] at this; simpa using this
  match s, h with
  | [], h => exact absurd (len_nil 4) h
  | c :: r, h =>
    unfold len at h ⊢
    rw [if_neg (by decide), if_neg (by decide), if_neg (by decide), if_pos rfl] at h ⊢
    by_cases h2 : (hd (c :: r) onsS && hd (c :: r).tail vowS) = true
    · rw [if_pos h2]
      rw [Bool.and_eq_true] at h2
      match r, h2 with
      | [], h2 => exact absurd h2.2 (by simp [hd])
      | b :: r, h2 =>
        have e1 := ho c h2.1
        have e2 := hv b h2.2
        simp [e1, e2]
    · rw [if_neg h2] at h ⊢
      by_cases h1 : (hd (c :: r) vowS || hd (c :: r) [110]) = true
      · rw [if_pos h1]
        rw [Bool.or_eq_true] at h1
        have e1 : small1 c = true := by
          rcases h1 with h1 | h1
          · exact hv c h1
          · have : c = 110 := by simpa [hd] using h1
            subst this; decide
        simp [e1]
      · rw [if_neg h1] at h
        exact absurd rfl h
end Scr
namespace Go.Proofs.YtgimbkfahfnplaaDoor.Pu
open Go.RowKit Go.Lib Go.Proofs.YtgimbkfahfnplaaDoorW.PrintWords Go.Proofs.YtgimbkfahfnplaaDoor.X1 Go.Proofs.YtgimbkfahfnplaaDoor.X2 Go.Proofs.YtgimbkfahfnplaaDoor.X3 Go.Proofs.YtgimbkfahfnplaaDoor.X5 Go.Proofs.YtgimbkfahfnplaaDoor.A Go.Proofs.YtgimbkfahfnplaaDoor.B Go.Proofs.YtgimbkfahfnplaaDoor.C

theorem bt_get (s : ByteArray) (i : Nat) (h : i < s.size) : bt s (i : Int) = (((s.data.toList[i]'(by simpa using h)).toNat : Nat) : Int) := by
  rw [← bt_at s (i : Int) (by simpa using h)]
  rfl
theorem plain_word {s : Scr.Bs} (h : Scr.word 1 s = true) : s.all Scr.small1 = true := Scr.left_all 1 _ Scr.plain_small s (word_parts h).1
theorem plain_cased {s : Scr.Bs} (h : Scr.word 1 s = true) : Scr.word 2 s = true ∧ Scr.letters 1 s = Scr.letters 2 s := by
  have ha := plain_word h
  obtain ⟨p1, p2⟩ := Scr.singles 1 Scr.small1 (fun c r hc _ => Scr.small_plain c r hc) s ha
  obtain ⟨c1, c2⟩ := Scr.singles 2 Scr.small1 Scr.small_cased s ha
  have w := word_parts h
  rw [p1] at w
  exact ⟨word_of ⟨c2, by rw [c1]; exact w.2.1, by rw [c1]; exact w.2.2⟩, by rw [p1, c1]⟩
theorem abj_plain {s : Scr.Bs} (h : Scr.word 3 s = true) (hq : s.any (· == 39) = false) : Scr.word 1 s = true ∧ Scr.letters 1 s = Scr.letters 3 s := by
  have ha : s.all Scr.abj1 = true := Scr.left_all 3 _ Scr.abj_all s (word_parts h).1
  have hsm : s.all Scr.small1 = true := by
    rw [List.all_eq_true] at ha ⊢
    intro c hc
    refine Scr.abj_small c (ha c hc) (fun e => ?_)
    have := List.any_eq_false.1 hq c hc
    simp [e] at this
  obtain ⟨p1, p2⟩ := Scr.singles 1 Scr.small1 (fun c r hc _ => Scr.small_plain c r hc) s hsm
  obtain ⟨c1, c2⟩ := Scr.singles 3 Scr.abj1 (fun c r hc _ => Scr.abj_len c r hc) s ha
  have w := word_parts h
  rw [c1] at w
  exact ⟨word_of ⟨p2, by rw [p1]; exact w.2.1, by rw [p1]; exact w.2.2⟩, by rw [p1, c1]⟩
theorem syl_plain {s : Scr.Bs} (h : Scr.word 4 s = true) (hl : s.length ≤ 12) : Scr.word 1 s = true := by
  have ha : s.all Scr.small1 = true := Scr.left_all 4 _ Scr.syl_small s (word_parts h).1
  obtain ⟨p1, p2⟩ := Scr.singles 1 Scr.small1 (fun c r hc _ => Scr.small_plain c r hc) s ha
  have hne : s ≠ [] := fun e => by
    have := (word_parts h).2.1
    rw [e, (Scr.letters_nil 4).1] at this
    simp at this
  exact word_of ⟨p2, by rw [p1, List.length_map]; exact List.length_pos_iff.2 hne, by rw [p1, List.length_map]; exact hl⟩
theorem common_loop (s : ByteArray) (l1 l2 l3 : List ByteArray) (e1 e2 e3 e4 : Int) (hs : s.size ≤ 200) : ∀ (d k i : Nat) (q : Bool), i ≤ s.size → s.size - i = d → 
    customhouselaw09_ScriptCommon.l0 (k + d) s true l1 e1 l2 e2 l3 e3 e4 q (i : Int) = customhouselaw09_ScriptCommon.l0 k s true l1 e1 l2 e2 l3 e3 e4 (q || (s.data.toList.drop i).any (· == 39)) (s.size : Int) := by
  intro d
  induction d with
  | zero =>
    intro k i q hi hd
    have hie : i = s.size := by omega
    subst hie
    have : s.data.toList.drop s.size = [] := List.drop_eq_nil_of_le (by simp)
    rw [this]
    simp
  | succ d ih =>
    intro k i q hi hd
    have hlt : i < s.size := by omega
    have hll : i < s.data.toList.length := by simpa using hlt
    have hw1 : wrap64 ((i : Int) + 1) = ((i + 1 : Nat) : Int) := by unfold wrap64; omega
    rw [show k + (d + 1) = (k + d) + 1 by omega]
    conv => lhs; unfold customhouselaw09_ScriptCommon.l0
    rw [if_pos (by omega), hw1, List.drop_eq_getElem_cons hll, List.any_cons]
    cases q with
    | true =>
      rw [if_pos rfl, ih k (i + 1) true (by omega) (by omega)]
      simp
    | false =>
      rw [if_neg (by simp), if_pos (by omega), ih k (i + 1) _ (by omega) (by omega), bt_get s i hlt]
      have hb : (((((s.data.toList[i]'hll).toNat : Nat) : Int)) == 39) = ((s.data.toList[i]'hll) == 39) := by
        generalize s.data.toList[i]'hll = c
        have := Scr.dec_all (fun c => ((((c.toNat : Nat) : Int)) == 39) == (c == 39)) (by decide +kernel) c
        exact beq_iff_eq.1 this
      rw [hb, Bool.false_or]
theorem commonLaw (s : ByteArray) : customhouselaw09_ScriptCommon.f 300 s = some true := by
  unfold customhouselaw09_ScriptCommon.f
  rw [head_f, Option.bind_some, short_f 300 [s] (by simp) (by simp), Option.bind_some]
  by_cases hs : s.size ≤ 200
  · have h1 : ([s].all fun s => decide (s.size ≤ 200)) = true := by simpa using hs
    rw [if_pos h1]
    have key : ∀ sc : Int, script_Letters.f sc s = some ((if Scr.word sc s.data.toList = true then (Scr.letters sc s.data.toList).map bs else []), (if Scr.word sc s.data.toList = true then 0 else 1)) := fun sc => by
      rw [Letters_f sc s (by omega)]
      split <;> rfl
    rw [key 1, key 2, key 3, key 4]
    simp only [Option.bind_some]
    have hl := common_loop s (if Scr.word 1 s.data.toList = true then (Scr.letters 1 s.data.toList).map bs else []) (if Scr.word 2 s.data.toList = true then (Scr.letters 2 s.data.toList).map bs else []) (if Scr.word 3 s.data.toList = true then (Scr.letters 3 s.data.toList).map bs else []) (if Scr.word 1 s.data.toList = true then 0 else 1) (if Scr.word 2 s.data.toList = true then 0 else 1) (if Scr.word 3 s.data.toList = true then 0 else 1) (if Scr.word 4 s.data.toList = true then 0 else 1) hs s.size (300 - s.size) 0 false (by omega) (by omega)
    rw [Nat.sub_add_cancel (by omega)] at hl
    rw [show ((0 : Nat) : Int) = 0 from rfl] at hl
    rw [hl, List.drop_zero, Bool.false_or]
    obtain ⟨m, hm⟩ : ∃ m, 300 - s.size = (m + 50) + 1 := ⟨300 - s.size - 51, by omega⟩
    rw [hm]
    simp only [customhouselaw09_ScriptCommon.l0]
    rw [if_neg (by omega)]
    -- the end: what is asked of the three pairs of scripts
    have ends : ∀ (q : Bool) (n : Nat), 20 ≤ n → (q = false → s.data.toList.any (· == 39) = false) → customhouselaw09_ScriptCommon.j1 (n + 1) s true (if Scr.word 1 s.data.toList = true then (Scr.letters 1 s.data.toList).map bs else []) (if Scr.word 1 s.data.toList = true then 0 else 1) (if Scr.word 3 s.data.toList = true then (Scr.letters 3 s.data.toList).map bs else []) (if Scr.word 3 s.data.toList = true then 0 else 1) (if Scr.word 4 s.data.toList = true then 0 else 1) q false = some true := by
      intro q n hn hq
      have fin : (if (if Scr.word 4 s.data.toList = true then (0 : Int) else 1) = 0 then (if (s.size : Int) > 12 then (some true) else (some ((if Scr.word 1 s.data.toList = true then (0 : Int) else 1) == 0))) else (some true)) = some true := by
        by_cases h4 : Scr.word 4 s.data.toList = true
        · rw [if_pos h4, if_pos rfl]
          by_cases h12 : s.size ≤ 12
          · rw [if_neg (by omega), if_pos (syl_plain h4 (by rw [← size_len]; exact h12))]
            rfl
          · rw [if_pos (by omega)]
        · rw [if_neg h4, if_neg (by decide)]
      simp only [customhouselaw09_ScriptCommon.j1]
      rw [if_neg (by simp)]
      by_cases h3 : Scr.word 3 s.data.toList = true
      · rw [if_pos h3, if_pos rfl]
        cases q with
        | true => rw [if_pos rfl, if_pos trivial, fin]
        | false =>
          obtain ⟨p1, p2⟩ := abj_plain h3 (hq rfl)
          rw [if_neg (by simp), if_pos p1, if_pos rfl, if_pos p1, if_pos h3, p2, texts_f _ _ _ (by have := (word_parts h3).2.2; simp; omega) (by have := (word_parts h3).2.2; simp; omega), Option.bind_some, if_pos (by simp), if_pos trivial]
          rw [if_pos p1] at fin
          exact fin
      · rw [if_neg h3, if_neg (by decide), if_pos trivial, fin]
    by_cases h1 : Scr.word 1 s.data.toList = true
    · obtain ⟨c1, c2⟩ := plain_cased h1
      have hw := (word_parts h1).2.2
      have e0 := ends (s.data.toList.any (· == 39)) (m + 49) (by omega) (fun h => h)
      rw [if_pos h1, if_pos h1] at e0
      rw [if_pos h1, if_pos rfl, if_pos c1, if_pos rfl, if_pos h1, if_pos c1, c2, texts_f _ _ _ (by rw [← c2]; simp; omega) (by rw [← c2]; simp; omega), Option.bind_some]
      rw [c2] at e0
      simpa using e0
    · have e0 := ends (s.data.toList.any (· == 39)) (m + 49) (by omega) (fun h => h)
      rw [if_neg h1, if_neg h1] at e0
      rw [if_neg h1, if_neg (by decide), if_neg h1]
      exact e0
  · have h1 : ([s].all fun s => decide (s.size ≤ 200)) = false := by simpa using hs
    rw [if_neg (by rw [h1]; simp)]
end Go.Proofs.YtgimbkfahfnplaaDoor.Pu
