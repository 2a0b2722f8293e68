/- Package script's length: it returns the length of the letter with which a text begins; conditions: texts shorter than 2^45 bytes, and that the world holds Go's tables. -/
import Derived.Test.YtgimbkfahfnplaaDoorA1
import Derived.Test.YtgimbkfahfnplaaDoorLt
namespace Go.Proofs.YtgimbkfahfnplaaDoor.Ln
open Go.RowKit Go.Lib Go.Proofs.YtgimbkfahfnplaaDoorW.PrintWords Go.Proofs.YtgimbkfahfnplaaDoor.X1 Go.Proofs.YtgimbkfahfnplaaDoor.A

theorem lower_head (c : UInt8) : Scr.hd (Lib.toLowerD [c]) Scr.smallS = (Scr.smallS ++ Scr.capS).contains c := by
  have := Scr.dec_all (fun c => Scr.hd (Lib.toLowerD [c]) Scr.smallS == (Scr.smallS ++ Scr.capS).contains c) (by decide +kernel) c
  simpa using this
theorem idx (c : UInt8) : ∀ set : List UInt8, decide (Lib.indexByte set c ≥ 0) = set.contains c
  | [] => rfl
  | b :: l => by
    have ih := idx c l
    have hg := Lib.indexByte_ge l c
    unfold Lib.indexByte
    by_cases hb : b = c
    · subst hb; simp
    · have h1 : (b == c) = false := by simpa using hb
      have h2 : (c == b) = false := by simpa using fun e : c = b => hb e.symm
      simp only [h1, List.contains_cons, h2, Bool.false_or, ← ih]
      by_cases hz : Lib.indexByte l c = -1
      · rw [hz]; simp
      · have h3 : (Lib.indexByte l c == -1) = false := by simpa using hz
        simp only [h3]
        by_cases h4 : Lib.indexByte l c ≥ 0
        · simp [h4]; omega
        · omega
theorem is_f (s : ByteArray) (i : Nat) (set : ByteArray) : script_is.f s (i : Int) set = some (Scr.hd (s.data.toList.drop i) set.data.toList) := by
  have hl := data_length s
  unfold script_is.f strings_IndexByte.f
  by_cases h : i < s.size
  · rw [if_pos (by omega), if_pos (by omega)]
    have hd : s.data.toList.drop i = s.data.toList[i]'(by omega) :: s.data.toList.drop (i + 1) := List.drop_eq_getElem_cons (by omega)
    rw [hd]
    have hb : (bt s (i : Int)).toNat.toUInt8 = s.data.toList[i]'(by omega) := by
      have e : bt s (i : Int) = ((s[i]'h).toNat : Int) := by unfold bt; simp [h]
      rw [e, Int.toNat_natCast]
      have : s.data.toList[i]'(by omega) = s[i]'h := by rw [Array.getElem_toList]; rfl
      rw [this]; simp
    rw [hb]
    simp only [Option.bind_some, idx]
    rfl
  · rw [if_neg (by omega), List.drop_eq_nil_of_le (by omega)]; rfl
theorem is_f0 (s : ByteArray) (set : ByteArray) : script_is.f s 0 set = some (Scr.hd s.data.toList set.data.toList) := by
  have := is_f s 0 set; simpa using this
theorem is_f1 (s : ByteArray) (set : ByteArray) : script_is.f s 1 set = some (Scr.hd s.data.toList.tail set.data.toList) := by
  have := is_f s 1 set; simpa using this
theorem length_f (k : Nat) (sc : Int) (s : ByteArray) (hs : s.size < 35184372088832) : script_length.f (k + 1) sc s = some ((Scr.len sc s.data.toList : Nat) : Int) := by
  unfold script_length.f Scr.len
  by_cases h1 : sc = 1
  · rw [if_pos h1, if_pos h1, is_f0]
    simp only [Option.bind_some]
    show (if Scr.hd s.data.toList Scr.smallS = true then _ else _) = _
    split <;> rfl
  rw [if_neg h1, if_neg h1]
  by_cases h2 : sc = 2
  · rw [if_pos h2, if_pos h2]
    have hm : 0 ≤ mn 1 (s.size : Int) := by unfold mn; split <;> omega
    have hm2 : mn 1 (s.size : Int) ≤ (s.size : Int) := by unfold mn; split <;> omega
    rw [if_pos hm, if_pos hm2]
    have hl := data_length s
    have key : ∃ t : ByteArray, strings_ToLower.f (s.extract 0 (mn 1 (s.size : Int)).toNat) = some t ∧ Scr.hd t.data.toList Scr.smallS = Scr.hd s.data.toList (Scr.smallS ++ Scr.capS) := by
      unfold strings_ToLower.f
      rw [if_pos (by rw [ByteArray.size_extract]; omega)]
      refine ⟨_, rfl, ?_⟩
      have he : (s.extract 0 (mn 1 (s.size : Int)).toNat).data.toList = s.data.toList.take 1 := by
        rw [ByteArray.data_extract, Array.toList_extract, List.extract_eq_take_drop]
        unfold mn
        split
        · have : s.data.toList = [] := List.eq_nil_of_length_eq_zero (by omega)
          rw [this]; simp
        · rfl
      rw [he]
      show Scr.hd (Lib.toLowerD (s.data.toList.take 1)) Scr.smallS = _
      cases hs' : s.data.toList with
      | nil => rfl
      | cons c r => exact lower_head c
    obtain ⟨t, ht, hh⟩ := key
    rw [ht]
    simp only [Option.bind_some]
    rw [is_f0]
    simp only [Option.bind_some]
    show (if Scr.hd t.data.toList Scr.smallS = true then _ else _) = _
    rw [hh]
    split
    · rw [is_f1]
      simp only [Option.bind_some]
      show (if Scr.hd s.data.toList.tail Scr.accS = true then _ else _) = _
      split <;> rfl
    · rfl
  rw [if_neg h2, if_neg h2]
  by_cases h3 : sc = 3
  · rw [if_pos h3, if_pos h3, is_f0]
    simp only [Option.bind_some]
    show (if Scr.hd s.data.toList Scr.abjS = true then _ else _) = _
    split <;> rfl
  rw [if_neg h3, if_neg h3]
  by_cases h4 : sc = 4
  · rw [if_pos h4, if_pos h4, is_f0]
    simp only [Option.bind_some, script_length.j0, is_f0, is_f1]
    show (if Scr.hd s.data.toList Scr.onsS = true then (if Scr.hd s.data.toList.tail Scr.vowS = true then _ else (if Scr.hd s.data.toList Scr.vowS = true then _ else if Scr.hd s.data.toList [110] = true then _ else _)) else (if false = true then _ else (if Scr.hd s.data.toList Scr.vowS = true then _ else if Scr.hd s.data.toList [110] = true then _ else _))) = _
    cases Scr.hd s.data.toList Scr.onsS <;> cases Scr.hd s.data.toList.tail Scr.vowS <;> cases Scr.hd s.data.toList Scr.vowS <;> cases Scr.hd s.data.toList [110] <;> rfl
  rw [if_neg h4, if_neg h4]; rfl
theorem lenSaid (w : World) (hT : Tabs w) : Lt.LenSaid (fun W => Below w.heap.size w W) := fun sc s W hs hb =>
  script_length.calls 1 sc s _ W (length_f 0 sc s (by omega)) (hT.below hb)
end Go.Proofs.YtgimbkfahfnplaaDoor.Ln
