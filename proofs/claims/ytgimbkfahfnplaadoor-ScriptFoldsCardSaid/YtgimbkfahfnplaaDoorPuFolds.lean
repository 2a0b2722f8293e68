/- The law of the folded words, plain: no program in sight. -/
import Derived.Test.YtgimbkfahfnplaaDoorPu
import Derived.Test.YtgimbkfahfnplaaDoorC3
import Derived.Shelf.Strings.CaseAny
namespace Scr
def asc (c : UInt8) : Bool := decide (c.toNat < 128)
def cap1 (c : UInt8) : Bool := decide (65 ≤ c.toNat) && decide (c.toNat ≤ 90)
def low (c : UInt8) : UInt8 := Go.Lib.lowerB c
def lower (s : Bs) : Bs := s.map low
theorem sub_of (S T : Bs) (h : ((List.range 256).all fun n => !S.contains (UInt8.ofNat n) || T.contains (UInt8.ofNat n)) = true) (c : UInt8) (hc : S.contains c = true) : T.contains c = true := by
  have := dec_all (fun c => !S.contains c || T.contains c) h c
  rw [hc] at this
  simpa using this
def allS : Bs := smallS ++ capS ++ abjS
def someS : Bs := smallS ++ abjS
theorem l2_sets {sc : Int} {a : UInt8} {ob : Option UInt8} (h : l2 sc a ob ≠ 0) : allS.contains a = true ∧ (sc ≠ 2 → someS.contains a = true) := by
  have up : someS.contains a = true → allS.contains a = true ∧ (sc ≠ 2 → someS.contains a = true) := fun h => ⟨sub_of someS allS (by decide +kernel) a h, fun _ => h⟩
  unfold l2 at h
  by_cases h1 : sc = 1
  · rw [if_pos h1] at h
    by_cases hc : smallS.contains a = true
    · exact up (sub_of smallS someS (by decide +kernel) a hc)
    · rw [if_neg hc] at h; exact absurd rfl h
  rw [if_neg h1] at h
  by_cases h2 : sc = 2
  · rw [if_pos h2] at h
    by_cases hc : (smallS ++ capS).contains a = true
    · exact ⟨sub_of (smallS ++ capS) allS (by decide +kernel) a hc, fun h => absurd h2 h⟩
    · rw [if_neg hc] at h; exact absurd rfl h
  rw [if_neg h2] at h
  by_cases h3 : sc = 3
  · rw [if_pos h3] at h
    by_cases hc : abjS.contains a = true
    · exact up (sub_of abjS someS (by decide +kernel) a hc)
    · rw [if_neg hc] at h; exact absurd rfl h
  rw [if_neg h3] at h
  by_cases h4 : sc = 4
  · rw [if_pos h4] at h
    by_cases hc : onsS.contains a = true
    · exact up (sub_of onsS someS (by decide +kernel) a hc)
    · have hc' : onsS.contains a = false := by simpa using hc
      rw [hc', Bool.false_and, if_neg (by simp)] at h
      by_cases hv : (vowS.contains a || a == 110) = true
      · rw [Bool.or_eq_true] at hv
        rcases hv with hv | hv
        · exact up (sub_of vowS someS (by decide +kernel) a hv)
        · have : a = 110 := beq_iff_eq.1 hv
          subst this
          exact up (by decide)
      · rw [if_neg hv] at h; exact absurd rfl h
  · rw [if_neg h4] at h; exact absurd rfl h
theorem l2_two {sc : Int} {a : UInt8} {ob : Option UInt8} (h : l2 sc a ob = 2) : ∃ b, ob = some b ∧ (accS ++ vowS).contains b = true ∧ (sc ≠ 2 → vowS.contains b = true) := by
  unfold l2 at h
  by_cases h1 : sc = 1
  · rw [if_pos h1] at h; split at h <;> cases h
  rw [if_neg h1] at h
  by_cases h2 : sc = 2
  · rw [if_pos h2] at h
    split at h
    · cases ob with
      | none => simp at h
      | some b =>
        cases hb : accS.contains b with
        | true => exact ⟨b, rfl, sub_of accS (accS ++ vowS) (by decide +kernel) b hb, fun h => absurd h2 h⟩
        | false => rw [Option.any_some, hb, if_neg (by simp)] at h; cases h
    · cases h
  rw [if_neg h2] at h
  by_cases h3 : sc = 3
  · rw [if_pos h3] at h; split at h <;> cases h
  rw [if_neg h3] at h
  by_cases h4 : sc = 4
  · rw [if_pos h4] at h
    split at h
    · rename_i hh
      rw [Bool.and_eq_true] at hh
      cases ob with
      | none => exact absurd hh.2 (by simp)
      | some b => exact ⟨b, rfl, sub_of vowS (accS ++ vowS) (by decide +kernel) b hh.2, fun _ => hh.2⟩
    · split at h <;> cases h
  · rw [if_neg h4] at h; cases h
theorem letter_bytes (sc : Int) (Pr : UInt8 → Bool) (S T : Bs) (hS : ∀ c, S.contains c = true → Pr c = true) (hT : ∀ c, T.contains c = true → Pr c = true)
    (h1 : ∀ a ob, l2 sc a ob ≠ 0 → S.contains a = true) (h2 : ∀ a ob, l2 sc a ob = 2 → ∃ b, ob = some b ∧ T.contains b = true) (s : Bs) (h : len sc s ≠ 0) : (s.take (len sc s)).all Pr = true := by
  match s, h with
  | [], h => exact absurd (len_nil sc) h
  | a :: r, h =>
    have h3 := len_two sc (a :: r)
    rw [len_cons] at h h3 ⊢
    have ha := hS a (h1 a _ h)
    by_cases e : l2 sc a r.head? = 2
    · obtain ⟨b, hb, hT'⟩ := h2 a _ e
      cases r with
      | nil => cases hb
      | cons b' r =>
        obtain rfl : b' = b := Option.some.inj hb
        rw [e]
        simp [ha, hT b' hT']
    · have e1 : l2 sc a r.head? = 1 := by omega
      rw [e1]
      simp [ha]
theorem left_all' (sc : Int) (s : Bs) (P : UInt8 → Bool) (h : ∀ s : Bs, len sc s ≠ 0 → (s.take (len sc s)).all P = true) : left sc s = [] → s.all P = true := by
  refine ind (sc := sc) (P := fun s => left sc s = [] → s.all P = true) ?_ ?_ s
  · intro s h0 hl
    rw [(letters_zero h0).2] at hl
    subst hl
    rfl
  · intro s h0 ih hl
    rw [(letters_step h0).2] at hl
    have h1 := h s h0
    have h2 := ih hl
    rw [← List.take_append_drop (len sc s) s, List.all_append, h1, h2]
    rfl
theorem word_asc {sc : Int} {s : Bs} (h : left sc s = []) : s.all asc = true := by
  refine left_all' sc s asc (fun s hs => letter_bytes sc asc allS (accS ++ vowS) (fun c hc => ?_) (fun c hc => ?_) (fun a ob h => (l2_sets h).1) (fun a ob h => ?_) s hs) h
  · have := dec_all (fun c => !allS.contains c || asc c) (by decide +kernel) c
    rw [hc] at this; simpa using this
  · have := dec_all (fun c => !(accS ++ vowS).contains c || asc c) (by decide +kernel) c
    rw [hc] at this; simpa using this
  · obtain ⟨b, h1, h2, _⟩ := l2_two h
    exact ⟨b, h1, h2⟩
theorem word_nocap {sc : Int} {s : Bs} (hsc : sc ≠ 2) (h : left sc s = []) : s.all (fun c => !cap1 c) = true := by
  refine left_all' sc s (fun c => !cap1 c) (fun s hs => letter_bytes sc (fun c => !cap1 c) someS vowS (fun c hc => ?_) (fun c hc => ?_) (fun a ob h => (l2_sets h).2 hsc) (fun a ob h => ?_) s hs) h
  · have := dec_all (fun c => !someS.contains c || !cap1 c) (by decide +kernel) c
    rw [hc] at this; simpa using this
  · have := dec_all (fun c => !vowS.contains c || !cap1 c) (by decide +kernel) c
    rw [hc] at this; simpa using this
  · obtain ⟨b, h1, _, h2⟩ := l2_two h
    exact ⟨b, h1, h2 hsc⟩
theorem low_nocap (c : UInt8) (h : cap1 c = false) : low c = c := by
  have := dec_all (fun c => cap1 c || low c == c) (by decide +kernel) c
  rw [h] at this; simpa using this
theorem low_cap (c : UInt8) (h : cap1 c = true) : low c ≠ c := by
  have := dec_all (fun c => !cap1 c || low c != c) (by decide +kernel) c
  rw [h] at this; simpa using this
theorem low_low (c : UInt8) : low (low c) = low c := beq_iff_eq.1 (dec_all (fun c => low (low c) == low c) (by decide +kernel) c)
theorem lower_lower (s : Bs) : lower (lower s) = lower s := by unfold lower; rw [List.map_map]; exact List.map_congr_left (fun c _ => low_low c)
theorem lower_same {s : Bs} (h : s.all (fun c => !cap1 c) = true) : lower s = s := by
  unfold lower
  rw [List.all_eq_true] at h
  conv => rhs; rw [← List.map_id s]
  exact List.map_congr_left (fun c hc => low_nocap c (by simpa using h c hc))
theorem lower_diff : ∀ {s : Bs}, s.any cap1 = true → lower s ≠ s
  | c :: r, h, e => by
    rw [List.any_cons, Bool.or_eq_true] at h
    unfold lower at e
    rw [List.map_cons, List.cons.injEq] at e
    rcases h with h | h
    · exact low_cap c h e.1
    · exact lower_diff h e.2
theorem len_lower (s : Bs) : len 2 (lower s) = len 2 s := by
  match s with
  | [] => rfl
  | a :: r =>
    have hh : (lower r).head? = r.head?.map low := by cases r <;> rfl
    show len 2 (low a :: lower r) = _
    rw [len_cons, len_cons, hh]
    unfold l2
    have e1 : (smallS ++ capS).contains (low a) = (smallS ++ capS).contains a := beq_iff_eq.1 (dec_all (fun a => (smallS ++ capS).contains (low a) == (smallS ++ capS).contains a) (by decide +kernel) a)
    have e2 : (r.head?.map low).any accS.contains = r.head?.any accS.contains := by
      cases r.head? with
      | none => rfl
      | some b => exact beq_iff_eq.1 (dec_all (fun a => accS.contains (low a) == accS.contains a) (by decide +kernel) b)
    rw [e1, e2]
    simp
theorem letters_lower (s : Bs) : letters 2 (lower s) = (letters 2 s).map lower ∧ left 2 (lower s) = lower (left 2 s) := by
  refine ind (sc := 2) (P := fun s => letters 2 (lower s) = (letters 2 s).map lower ∧ left 2 (lower s) = lower (left 2 s)) ?_ ?_ s
  · intro s h
    have h' : len 2 (lower s) = 0 := by rw [len_lower]; exact h
    rw [(letters_zero h).1, (letters_zero h).2, (letters_zero h').1, (letters_zero h').2]
    exact ⟨rfl, rfl⟩
  · intro s h ih
    have h' : len 2 (lower s) ≠ 0 := by rw [len_lower]; exact h
    have ht : (lower s).take (len 2 s) = lower (s.take (len 2 s)) := by unfold lower; rw [List.map_take]
    have hd : (lower s).drop (len 2 s) = lower (s.drop (len 2 s)) := by unfold lower; rw [List.map_drop]
    rw [(letters_step h).1, (letters_step h).2, (letters_step h').1, (letters_step h').2, len_lower, ht, hd, ih.1, ih.2]
    exact ⟨rfl, rfl⟩
end Scr
namespace Go.Proofs.YtgimbkfahfnplaaDoor.Pu
open Go.RowKit Go.Lib Go.Proofs.YtgimbkfahfnplaaDoorW.PrintWords Go.Proofs.YtgimbkfahfnplaaDoor.X1 Go.Proofs.YtgimbkfahfnplaaDoor.X2 Go.Proofs.YtgimbkfahfnplaaDoor.X3 Go.Proofs.YtgimbkfahfnplaaDoor.X5 Go.Proofs.YtgimbkfahfnplaaDoor.A Go.Proofs.YtgimbkfahfnplaaDoor.B Go.Proofs.YtgimbkfahfnplaaDoor.C

/-- The folded form has the folded letters, in whatever script. -/
theorem fold_letters {sc : Int} {s : Scr.Bs} (h : Scr.word sc s = true) : Scr.word sc (Scr.lower s) = true ∧ Scr.letters sc (Scr.lower s) = (Scr.letters sc s).map Scr.lower := by
  obtain ⟨w1, w2, w3⟩ := word_parts h
  by_cases h2 : sc = 2
  · subst h2
    obtain ⟨e1, e2⟩ := Scr.letters_lower s
    exact ⟨word_of ⟨by rw [e2, w1]; rfl, by rw [e1, List.length_map]; exact w2, by rw [e1, List.length_map]; exact w3⟩, e1⟩
  · have hs := Scr.lower_same (Scr.word_nocap h2 w1)
    rw [hs]
    refine ⟨h, ?_⟩
    conv => lhs; rw [← List.map_id (Scr.letters sc s)]
    refine List.map_congr_left (fun x hx => ?_)
    exact (Scr.lower_same (Scr.word_nocap h2 (Scr.letters_own sc s x hx).2)).symm
theorem Fold_f (sc : Int) (s : ByteArray) (hs : s.size ≤ 1000000) : script_Fold.f sc s = if Scr.word sc s.data.toList = true then some (bs (Scr.lower s.data.toList), 0) else some (⟨#[]⟩, 1) := by
  unfold script_Fold.f
  rw [Letters_f sc s hs]
  by_cases h : Scr.word sc s.data.toList = true
  · rw [if_pos h, if_pos h, Option.bind_some, if_pos rfl]
    unfold strings_ToLower.f
    rw [if_pos (by omega), Option.bind_some]
    have ha := Scr.word_asc (word_parts h).1
    rw [toLowerD_ascii _ (fun b hb => by have := List.all_eq_true.1 ha b hb; simpa [Scr.asc] using this)]
    rfl
  · rw [if_neg h, if_neg h, Option.bind_some, if_neg (by decide)]
theorem bt_get' (s : ByteArray) (i : Nat) (h : i < s.size) : bt s (i : Int) = (((s.data.toList[i]'(by simpa using h)).toNat : Nat) : Int) := by
  rw [← bt_at s (i : Int) (by simpa using h)]
  rfl
theorem folds_l1 (sc : Int) (s t : ByteArray) (hs : s.size ≤ 200) : ∀ (d k i : Nat) (q : Bool), i ≤ s.size → s.size - i = d → d < k →
    customhouselaw09_ScriptFolds.l1 k sc s true t q (i : Int) = if ((t.toList != s.toList) == (q || (s.data.toList.drop i).any Scr.cap1)) = true then (if (q || (s.data.toList.drop i).any Scr.cap1) = true then (some (sc == 2)) else (some true)) else (some false) := by
  intro d
  induction d with
  | zero =>
    intro k i q hi hd hk
    obtain ⟨k, rfl⟩ : ∃ m, k = m + 1 := ⟨k - 1, by omega⟩
    have : s.data.toList.drop i = [] := List.drop_eq_nil_of_le (by rw [← size_len]; omega)
    simp only [customhouselaw09_ScriptFolds.l1]
    rw [if_neg (by omega), if_pos trivial, this]
    simp
  | succ d ih =>
    intro k i q hi hd hk
    obtain ⟨k, rfl⟩ : ∃ m, k = m + 1 := ⟨k - 1, by omega⟩
    have hlt : i < s.size := by omega
    have hll : i < s.data.toList.length := by simpa using hlt
    have hw1 : wrap64 ((i : Int) + 1) = ((i + 1 : Nat) : Int) := by unfold wrap64; omega
    simp only [customhouselaw09_ScriptFolds.l1]
    rw [if_pos (by omega), hw1, List.drop_eq_getElem_cons hll, List.any_cons]
    cases q with
    | true =>
      rw [if_pos rfl, ih k (i + 1) true (by omega) (by omega) (by omega)]
      simp only [Bool.true_or]
    | false =>
      rw [if_neg (by simp), if_pos (by omega), bt_get' s i hlt]
      generalize s.data.toList[i]'hll = c
      by_cases h65 : ((c.toNat : Nat) : Int) ≥ 65
      · rw [if_pos h65, ih k (i + 1) _ (by omega) (by omega) (by omega)]
        have : decide (((c.toNat : Nat) : Int) ≤ 90) = Scr.cap1 c := by
          unfold Scr.cap1
          rw [decide_eq_true (show 65 ≤ c.toNat by omega), Bool.true_and]
          by_cases h9 : c.toNat ≤ 90
          · rw [decide_eq_true h9, decide_eq_true (by omega)]
          · rw [decide_eq_false h9, decide_eq_false (by omega)]
        rw [this, Bool.false_or]
      · rw [if_neg h65, ih k (i + 1) _ (by omega) (by omega) (by omega)]
        have : Scr.cap1 c = false := by
          unfold Scr.cap1
          rw [decide_eq_false (show ¬ 65 ≤ c.toNat by omega), Bool.false_and]
        rw [this, Bool.false_or, Bool.false_or]
theorem folds_l0 (sc : Int) (s t : ByteArray) (hs : s.size ≤ 200) (l m : List ByteArray) (hl : l.length ≤ 12) (hm : m.length = l.length)
    (hf : ∀ (i : Nat) (h : i < l.length), ∃ u, script_Fold.f sc l[i] = some (u, 0) ∧ (m[i]'(by omega)).toList = u.toList) : ∀ (d k i : Nat), i ≤ l.length → l.length - i = d → d + 250 < k →
    customhouselaw09_ScriptFolds.l0 k sc s true t l m (i : Int) = if ((t.toList != s.toList) == s.data.toList.any Scr.cap1) = true then (if s.data.toList.any Scr.cap1 = true then (some (sc == 2)) else (some true)) else (some false) := by
  intro d
  induction d with
  | zero =>
    intro k i hi hd hk
    obtain ⟨k, rfl⟩ : ∃ m, k = m + 1 := ⟨k - 1, by omega⟩
    simp only [customhouselaw09_ScriptFolds.l0]
    rw [if_neg (by omega)]
    have := folds_l1 sc s t hs s.size k 0 false (by omega) (by omega) (by omega)
    simpa using this
  | succ d ih =>
    intro k i hi hd hk
    obtain ⟨k, rfl⟩ : ∃ m, k = m + 1 := ⟨k - 1, by omega⟩
    have hlt : i < l.length := by omega
    have hlm : i < m.length := by omega
    have hw1 : wrap64 ((i : Int) + 1) = ((i + 1 : Nat) : Int) := by unfold wrap64; omega
    obtain ⟨u, hu, hmu⟩ := hf i hlt
    simp only [customhouselaw09_ScriptFolds.l0]
    rw [if_pos (by omega), if_pos (by omega), rd_lt l i hlt, hu, Option.bind_some, if_pos rfl, if_pos (by omega), rd_lt m i hlm, if_pos hmu, hw1]
    exact ih k (i + 1) (by omega) (by omega) (by omega)
theorem foldsLaw (sc : Int) (s : ByteArray) : customhouselaw09_ScriptFolds.f 300 sc s = some true := by
  unfold customhouselaw09_ScriptFolds.f
  rw [head_f, Option.bind_some, short_f 300 [s] (by simp) (by simp), Option.bind_some]
  by_cases hs : s.size ≤ 200
  · have h1 : ([s].all fun s => decide (s.size ≤ 200)) = true := by simpa using hs
    rw [if_pos h1, Fold_f sc s (by omega), Letters_f sc s (by omega)]
    by_cases hw : Scr.word sc s.data.toList = true
    · obtain ⟨w1, w2, w3⟩ := word_parts hw
      obtain ⟨f1, f2⟩ := fold_letters hw
      have hls : (bs (Scr.lower s.data.toList)).size ≤ 1000000 := by
        rw [size_len, data_bs]; unfold Scr.lower; rw [List.length_map, ← size_len]; omega
      rw [if_pos hw, if_pos hw, Option.bind_some, Option.bind_some, if_pos rfl, if_pos rfl]
      simp only
      rw [Fold_f sc _ hls, Letters_f sc _ hls, data_bs, if_pos f1, if_pos f1, Option.bind_some, Option.bind_some, if_pos rfl, Scr.lower_lower, if_pos rfl, if_pos rfl, f2]
      show customhouselaw09_ScriptFolds.j0 (299 + 1) _ _ _ _ _ _ _ = _
      simp only [customhouselaw09_ScriptFolds.j0]
      rw [if_neg (by simp)]
      have key := folds_l0 sc s (bs (Scr.lower s.data.toList)) hs ((Scr.letters sc s.data.toList).map bs) (((Scr.letters sc s.data.toList).map Scr.lower).map bs) (by simpa using w3) (by simp) (fun i hi => by
        have hi' : i < (Scr.letters sc s.data.toList).length := by simpa using hi
        have hm := List.getElem_mem hi'
        obtain ⟨o1, o2⟩ := Scr.letters_own sc _ _ hm
        have hwy : Scr.word sc ((Scr.letters sc s.data.toList)[i]) = true := word_of ⟨o2, by rw [o1]; simp, by rw [o1]; simp⟩
        have hgz : (((Scr.letters sc s.data.toList).map bs)[i]).data.toList = (Scr.letters sc s.data.toList)[i] := by rw [List.getElem_map]; rfl
        refine ⟨bs (Scr.lower (Scr.letters sc s.data.toList)[i]), ?_, ?_⟩
        · rw [Fold_f sc _ ?_, hgz, if_pos hwy]
          rw [size_len, hgz]
          have := (word_len sc _ hwy).1
          omega
        · rw [List.getElem_map, List.getElem_map]) ((Scr.letters sc s.data.toList).map bs).length 299 0 (by omega) (by omega) (by rw [List.length_map]; omega)
      rw [show ((0 : Nat) : Int) = 0 from rfl] at key
      rw [key]
      have hne : ((bs (Scr.lower s.data.toList)).toList != s.toList) = s.data.toList.any Scr.cap1 := by
        have e1 : (bs (Scr.lower s.data.toList)).toList = Scr.lower s.data.toList := by rw [ByteArray.toList_eq]; rfl
        have e2 : s.toList = s.data.toList := ByteArray.toList_eq ..
        rw [e1, e2]
        cases hc : s.data.toList.any Scr.cap1 with
        | true => simpa using Scr.lower_diff hc
        | false =>
          have : s.data.toList.all (fun c => !Scr.cap1 c) = true := by
            rw [List.all_eq_true]
            intro c hcm
            have := List.any_eq_false.1 hc c hcm
            simpa using this
          rw [Scr.lower_same this]
          simp
      rw [hne]
      cases hc : s.data.toList.any Scr.cap1 with
      | false => simp
      | true =>
        have h2 : sc = 2 := by
          by_cases h2 : sc = 2
          · exact h2
          · have := Scr.word_nocap h2 w1
            rw [List.all_eq_true] at this
            obtain ⟨c, hcm, hc1⟩ := List.any_eq_true.1 hc
            have := this c hcm
            rw [hc1] at this
            exact absurd this (by decide)
        rw [h2]
        simp
    · rw [if_neg hw, if_neg hw, Option.bind_some, Option.bind_some, if_pos rfl, if_neg (by decide), if_pos rfl]
      simp [ByteArray.toList_eq]
  · have h1 : ([s].all fun s => decide (s.size ≤ 200)) = false := by simpa using hs
    rw [if_neg (by rw [h1]; simp)]
end Go.Proofs.YtgimbkfahfnplaaDoor.Pu
