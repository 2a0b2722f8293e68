/- The law of the folded words, plain: no program in sight. -/
import Derived.Test.YtgimbkfahfnplaaDoorPu
import Derived.Test.YtgimbkfahfnplaaDoorB
import Derived.Shelf.Strings.CaseAny
namespace Scr
def asc (c : UInt8) : Bool := decide (c.toNat < 128)
def cap1 (c : UInt8) : Bool := decide (65 ≤ c.toNat) && decide (c.toNat ≤ 90)
def low (c : UInt8) : UInt8 := Go.Lib.lowerB c
def lower (s : Bs) : Bs := s.map low
theorem sub_of (S T : Bs) (h : ((List.range 256).all fun n => !S.contains (UInt8.ofNat n) || T.contains (UInt8.ofNat n)) = true) (c : UInt8) (hc : S.contains c = true) : T.contains c = true := by
  have := dec_all (fun c => !S.contains c || T.contains c) h c
  rw [hc] at this
  simpa using this
def allS : Bs := smallS ++ capS ++ abjS
def someS : Bs := smallS ++ abjS
theorem l2_sets {sc : Int} {a : UInt8} {ob : Option UInt8} (h : l2 sc a ob ≠ 0) : allS.contains a = true ∧ (sc ≠ 2 → someS.contains a = true) := by
  have up : someS.contains a = true → allS.contains a = true ∧ (sc ≠ 2 → someS.contains a = true) := fun h => ⟨sub_of someS allS (by decide +kernel) a h, fun _ => h⟩
  unfold l2 at h
  by_cases h1 : sc = 1
  · rw [if_pos h1] at h
    by_cases hc : smallS.contains a = true
    · exact up (sub_of smallS someS (by decide +kernel) a hc)
    · rw [if_neg hc] at h; exact absurd rfl h
  rw [if_neg h1] at h
  by_cases h2 : sc = 2
  · rw [if_pos h2] at h
    by_cases hc : (smallS ++ capS).contains a = true
    · exact ⟨sub_of (smallS ++ capS) allS (by decide +kernel) a hc, fun h => absurd h2 h⟩
    · rw [if_neg hc] at h; exact absurd rfl h
  rw [if_neg h2] at h
  by_cases h3 : sc = 3
  · rw [if_pos h3] at h
    by_cases hc : abjS.contains a = true
    · exact up (sub_of abjS someS (by decide +kernel) a hc)
    · rw [if_neg hc] at h; exact absurd rfl h
  rw [if_neg h3] at h
  by_cases h4 : sc = 4
  · rw [if_pos h4] at h
    by_cases hc : onsS.contains a = true
    · exact up (sub_of onsS someS (by decide +kernel) a hc)
    · have hc' : onsS.contains a = false := by simpa using hc
      rw [hc', Bool.false_and, if_neg (by simp)] at h
      by_cases hv : (vowS.contains a || a == 110) = true
      · rw [Bool.or_eq_true] at hv
        rcases hv with hv | hv
        · exact up (sub_of vowS someS (by decide +kernel) a hv)
        · have : a = 110 := beq_iff_eq.1 hv
          subst this
          exact up (by decide)
      · rw [if_neg hv] at h; exact absurd rfl h
  · rw [if_neg h4] at h; exact absurd rfl h
theorem l2_two {sc : Int} {a : UInt8} {ob : Option UInt8} (h : l2 sc a ob = 2) : ∃ b, ob = some b ∧ (accS ++ vowS).contains b = true ∧ (sc ≠ 2 → vowS.contains b = true) := by
  unfold l2 at h
  by_cases h1 : sc = 1
  · rw [if_pos h1] at h; split at h <;> cases h
  rw [if_neg h1] at h
  by_cases h2 : sc = 2
  · rw [if_pos h2] at h
    split at h
    · cases ob with
      | none => simp at h
      | some b =>
        cases hb : accS.contains b with
        | true => exact ⟨b, rfl, sub_of accS (accS ++ vowS) (by decide +kernel) b hb, fun h => absurd h2 h⟩
        | false => rw [Option.any_some, hb, if_neg (by simp)] at h; cases h
    · cases h
  rw [if_neg h2] at h
  by_cases h3 : sc = 3
  · rw [if_pos h3] at h; split at h <;> cases h
  rw [if_neg h3] at h
  by_cases h4 : sc = 4
  · rw [if_pos h4] at h
    split at h
    · rename_i hh
      rw [Bool.and_eq_true] at hh
      cases ob with
      | none => exact absurd hh.2 (by simp)
      | some b => exact ⟨b, rfl, sub_of vowS (accS ++ vowS) (by decide +kernel) b hh.2, fun _ => hh.2⟩
    · split at h <;> cases h
  · rw [if_neg h4] at h; cases h
theorem letter_bytes (sc : Int) (Pr : UInt8 → Bool) (S T : Bs) (hS : ∀ c, S.contains c = true → Pr c = true) (hT : ∀ c, T.contains c = true → Pr c = true)
    (h1 : ∀ a ob, l2 sc a ob ≠ 0 → S.contains a = true) (h2 : ∀ a ob, l2 sc a ob = 2 → ∃ b, ob = some b ∧ T.contains b = true) (s : Bs) (h : len sc s ≠ 0) : (s.take (len sc s)).all Pr = true := by
  match s, h with
  | [], h => exact absurd (len_nil sc) h
  | a :: r, h =>
    have h3 := len_two sc (a :: r)
    rw [len_cons] at h h3 ⊢
    have ha := hS a (h1 a _ h)
    by_cases e : l2 sc a r.head? = 2
    · obtain ⟨b, hb, hT'⟩ := h2 a _ e
      cases r with
      | nil => cases hb
      | cons b' r =>
        obtain rfl : b' = b := Option.some.inj hb
        rw [e]
        simp [ha, hT b' hT']
    · have e1 : l2 sc a r.head? = 1 := by omega
      rw [e1]
      simp [ha]
theorem left_all' (sc : Int) (s : Bs) (P : UInt8 → Bool) (h : ∀ s : Bs, len sc s ≠ 0 → (s.take (len sc s)).all P = true) : left sc s = [] → s.all P = true := by
  refine ind (sc := sc) (P := fun s => left sc s = [] → s.all P = true) ?_ ?_ s
  · intro s h0 hl
    rw [(letters_zero h0).2] at hl
    subst hl
    rfl
  · intro s h0 ih hl
    rw [(letters_step h0).2] at hl
    have h1 := h s h0
    have h2 := ih hl
    rw [← List.take_append_drop (len sc s) s, List.all_append, h1, h2]
    rfl
theorem word_asc {sc : Int} {s : Bs} (h : left sc s = []) : s.all asc = true := by
  refine left_all' sc s asc (fun s hs => letter_bytes sc asc allS (accS ++ vowS) (fun c hc => ?_) (fun c hc => ?_) (fun a ob h => (l2_sets h).1) (fun a ob h => ?_) s hs) h
  · have := dec_all (fun c => !allS.contains c || asc c) (by decide +kernel) c
    rw [hc] at this; simpa using this
  · have := dec_all (fun c => !(accS ++ vowS).contains c || asc c) (by decide +kernel) c
    rw [hc] at this; simpa using this
  · obtain ⟨b, h1, h2, _⟩ := l2_two h
    exact ⟨b, h1, h2⟩
theorem word_nocap {sc : Int} {s : Bs} (hsc : sc ≠ 2) (h : left sc s = []) : s.all (fun c => !cap1 c) = true := by
  refine left_all' sc s (fun c => !cap1 c) (fun s hs => letter_bytes sc (fun c => !cap1 c) someS vowS (fun c hc => ?_) (fun c hc => ?_) (fun a ob h => (l2_sets h).2 hsc) (fun a ob h => ?_) s hs) h
  · have := dec_all (fun c => !someS.contains c || !cap1 c) (by decide +kernel) c
    rw [hc] at this; simpa using this
  · have := dec_all (fun c => !vowS.contains c || !cap1 c) (by decide +kernel) c
    rw [hc] at this; simpa using this
  · obtain ⟨b, h1, _, h2⟩ := l2_two h
    exact ⟨b, h1, h2 hsc⟩
theorem low_nocap (c : UInt8) (h : cap1 c = false) : low c = c := by
  have := dec_all (fun c => cap1 c || low c == c) (by decide +kernel) c
  rw [h] at this; simpa using this
theorem low_cap (c : UInt8) (h : cap1 c = true) : low c ≠ c := by
  have := dec_all (fun c => !cap1 c || low c != c) (by decide +kernel) c
  rw [h] at this; simpa using this
theorem low_low (c : UInt8) : low (low c) = low c := beq_iff_eq.1 (dec_all (fun c => low (low c) == low c) (by decide +kernel) c)
theorem lower_lower (s : Bs) : lower (lower s) = lower s := by unfold lower; rw [List.map_map]; exact List.map_congr_left (fun c _ => low_low c)
theorem lower_same {s : Bs} (h : s.all (fun c => !cap1 c) = true) : lower s = s := by
  unfold lower
  rw [List.all_eq_true] at h
  conv => rhs; rw [← List.map_id s]
  exact List.map_congr_left (fun c hc => low_nocap c (by simpa using h c hc))
theorem lower_diff : ∀ {s : Bs}, s.any cap1 = true → lower s ≠ s
  | c :: r, h, e => by
    rw [List.any_cons, Bool.or_eq_true] at h
    unfold lower at e
    rw [List.map_cons, List.cons.injEq] at e
    rcases h with h | h
    · exact low_cap c h e.1
    · exact lower_diff h e.2
theorem len_lower (s : Bs) : len 2 (lower s) = len 2 s := by
  match s with
  | [] => rfl
  | a :: r =>
    have hh : (lower r).head? = r.head?.map low := by cases r <;> rfl
    show len 2 (low a :: lower r) = _
    rw [len_cons, len_cons, hh]
    unfold l2
    have e1 : (smallS ++ capS).contains (low a) = (smallS ++ capS).contains a := beq_iff_eq.1 (dec_all (fun a => (smallS ++ capS).contains (low a) == (smallS ++ capS).contains a) (by decide +kernel) a)
    have e2 : (r.head?.map low).any accS.contains = r.head?.any accS.contains := by
      cases r.head? with
      | none => rfl
      | some b => exact beq_iff_eq.1 (dec_all (fun a => accS.contains (low a) == accS.contains a) (by decide +kernel) b)
    rw [e1, e2]
    simp
theorem letters_lower (s : Bs) : letters 2 (lower s) = (letters 2 s).map lower ∧ left 2 (lower s) = lower (left 2 s) := by
  refine ind (sc := 2) (P := fun s => letters 2 (lower s) = (letters 2 s).map lower ∧ left 2 (lower s) = lower (left 2 s)) ?_ ?_ s
  · intro s h
    have h' : len 2 (lower s) = 0 := by rw [len_lower]; exact h
    rw [(letters_zero h).1, (letters_zero h).2, (letters_zero h').1, (letters_zero h').2]
    exact ⟨rfl, rfl⟩
  · intro s h ih
    have h' : len 2 (lower s) ≠ 0 := by rw [len_lower]; exact h
    have ht : (lower s).take (len 2 s) = lower (s.take (len 2 s)) := by unfold lower; rw [List.map_take]
    have hd : (lower s).drop (len 2 s) = lower (s.drop (len 2 s)) := by unfold lower; rw [List.map_drop]
    rw [(letters_step h).1, (letters_step h).2, (letters_step h').1, (letters_step h').2, len_lower, ht, hd, ih.1, ih.2]
    exact ⟨rfl, rfl⟩
end Scr
namespace Go.Proofs.YtgimbkfahfnplaaDoor.Pu
open Go.RowKit Go.Lib Go.Proofs.YtgimbkfahfnplaaDoorW.PrintWords Go.Proofs.YtgimbkfahfnplaaDoor.X1 Go.Proofs.YtgimbkfahfnplaaDoor.X2 Go.Proofs.YtgimbkfahfnplaaDoor.X3 Go.Proofs.YtgimbkfahfnplaaDoor.X5 Go.Proofs.YtgimbkfahfnplaaDoor.A Go.Proofs.YtgimbkfahfnplaaDoor.B

/-- The folded form has the folded letters, in whatever script. -/
theorem fold_letters {sc : Int} {s : Scr.Bs} (h : Scr.word sc s = true) : Scr.word sc (Scr.lower s) = true ∧ Scr.letters sc (Scr.lower s) = (Scr.letters sc s).map Scr.lower := by
  obtain ⟨w1, w2, w3⟩ := word_parts h
  by_cases h2 : sc = 2
  · subst h2
    obtain ⟨e1, e2⟩ := Scr.letters_lower s
    exact ⟨word_of ⟨by rw [e2, w1]; rfl, by rw [e1, List.length_map]; exact w2, by rw [e1, List.length_map]; exact w3⟩, e1⟩
  · have hs := Scr.lower_same (Scr.word_nocap h2 w1)
    rw [hs]
    refine ⟨h, ?_⟩
    conv => lhs; rw [← List.map_id (Scr.letters sc s)]
    refine List.map_congr_left (fun x hx => ?_)
    exact (Scr.lower_same (Scr.word_nocap h2 (Scr.letters_own sc s x hx).2)).symm
theorem Fold_f (sc : Int) (s : ByteArray) (hs : s.size ≤ 1000000) : script_Fold.f sc s = if Scr.word sc s.data.toList = true then some (bs (Scr.lower s.data.toList), 0) else some (⟨#[]⟩, 1) := by
  unfold script_Fold.f
  rw [Letters_f sc s hs]
  by_cases h : Scr.word sc s.data.toList = true
  · rw [if_pos h, if_pos h, Option.bind_some, if_pos rfl]
    unfold strings_ToLower.f
    rw [if_pos (by omega), Option.bind_some]
    have ha := Scr.word_asc (word_parts h).1
    rw [toLowerD_ascii _ (fun b hb => by have := List.all_eq_true.1 ha b hb; simpa [Scr.asc] using this)]
    rfl
  · rw [if_neg h, if_neg h, Option.bind_some, if_neg (by decide)]
theorem bt_get' (s : ByteArray) (i : Nat) (h : i < s.size) : bt s (i : Int) = (((s.data.toList[i]'(by simpa using h)).toNat : Nat) : Int) := by
  rw [← bt_at s (i : Int) (by simpa using h)]
  rfl
end Go.Proofs.YtgimbkfahfnplaaDoor.Pu
