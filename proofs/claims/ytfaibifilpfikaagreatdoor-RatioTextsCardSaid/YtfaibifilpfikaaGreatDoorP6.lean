/- Texts of rational numbers in plain Lean: what Text and Parse answer, and that they are each other's inverse; conditions: texts of fewer than 2^32 bytes. -/
import Derived.Test.YtfaibifilpfikaaGreatDoorMg
import Derived.Test.YtfaibifilpfikaaGreatDoorCp
import Derived.Test.YtfaibifilpfikaaGreatDoorCt
import Derived.Lib.IndexLaws
namespace Go.Proofs.YtfaibifilpfikaaGreatDoor.P6
open Go.Proofs.YtfaibifilpfikaaGreatDoorW.PrintWords Go.Proofs.YtfaibifilpfikaaGreatDoor.A Go.Proofs.YtfaibifilpfikaaGreatDoor.N10 Go.Proofs.YtfaibifilpfikaaGreatDoor.N11 Go.Proofs.YtfaibifilpfikaaGreatDoor.X2 Go.Proofs.YtfaibifilpfikaaGreatDoor.C Go.Proofs.YtfaibifilpfikaaGreatDoor.D Go.Proofs.YtfaibifilpfikaaGreatDoor.N12 Go.Proofs.YtfaibifilpfikaaGreatDoor.N13 Go.Proofs.YtfaibifilpfikaaGreatDoor.N14 Go.Proofs.YtfaibifilpfikaaGreatDoor.N15 Go.Proofs.YtfaibifilpfikaaGreatDoor.N16 Go.Proofs.YtfaibifilpfikaaGreatDoor.N18 Go.Proofs.YtfaibifilpfikaaGreatDoor.P1 Go.Proofs.YtfaibifilpfikaaGreatDoor.P2 Go.Proofs.YtfaibifilpfikaaGreatDoor.P3 Go.Proofs.YtfaibifilpfikaaGreatDoor.P4 Go.Proofs.YtfaibifilpfikaaGreatDoor.P5 Go.Proofs.YtfaibifilpfikaaGreatDoor.Cp Go.Proofs.YtfaibifilpfikaaGreatDoor.Ct
open Rq Go.RowKit
set_option linter.unusedVariables false
set_option linter.unusedSimpArgs false

def sgn (s : Bool) (n : ByteArray) : ByteArray := if s = true then (⟨#[45]⟩ : ByteArray) ++ n else n
def txt (a : S23) : ByteArray := if a.f2.toList = [49] then sgn a.f0 a.f1 else sgn a.f0 a.f1 ++ ((⟨#[47]⟩ : ByteArray) ++ a.f2)
theorem sz1 (c : UInt8) (n : ByteArray) : ((⟨#[c]⟩ : ByteArray) ++ n).size = 1 + n.size := by rw [ByteArray.size_append]; rfl
theorem sz_sgn (s : Bool) (n : ByteArray) : (sgn s n).size ≤ 1 + n.size := by
  unfold sgn
  split
  · rw [sz1]; omega
  · omega
theorem text_f {k : Nat} (hk : 0 < k) (a : S23) : ratio_Text.f k a.f0 a.f1 a.f2 = some (if vld a = true then (txt a, 0) else (⟨#[]⟩, 1)) := by
  unfold ratio_Text.f
  rw [valid_f2 hk, Option.bind_some]
  by_cases hv : vld a = true
  · rw [if_pos hv, if_pos hv]
    obtain ⟨h1, h2, _⟩ := valid_parts hv
    have z1 := (isN_num h1).2
    have z2 := (isN_num h2).2
    have s1 := sz1 45 a.f1
    have s2 := sz1 47 a.f2
    unfold txt sgn
    by_cases hs : a.f0 = true
    · rw [if_pos hs, if_pos hs, if_pos (by omega)]
      by_cases h1 : a.f2.toList = [49]
      · rw [if_pos h1, if_pos h1]
      · rw [if_neg h1, if_neg h1, if_pos (by omega), if_pos (by omega)]
    · rw [if_neg hs, if_neg hs]
      by_cases h1 : a.f2.toList = [49]
      · rw [if_pos h1, if_pos h1]
      · rw [if_neg h1, if_neg h1, if_pos (by omega), if_pos (by omega)]
  · rw [if_neg hv, if_neg hv]

/-! ### Parse -/
def negP (l : List UInt8) : Bool := Go.Lib.hasPrefix l [45]
def digP (l : List UInt8) : List UInt8 := Go.Lib.trimPrefix l [45]
def mk (l : List UInt8) : ByteArray := ⟨l.toArray⟩
theorem mk_list (l : List UInt8) : (mk l).data.toList = l := rfl
theorem mk_self (b : ByteArray) : mk b.data.toList = b := Rq.ext rfl
def okP (a : S23) : R4 := if vld a = true then (a.f0, a.f1, a.f2, 0) else bad 5
def cutP (s : Bool) (d : List UInt8) : R4 :=
  if 0 ≤ Go.Lib.indexByte d 47 then (if d.drop ((Go.Lib.indexByte d 47).toNat + 1) = [49] then bad 5 else okP ⟨s, mk (d.take (Go.Lib.indexByte d 47).toNat), mk (d.drop ((Go.Lib.indexByte d 47).toNat + 1))⟩)
  else okP ⟨s, mk d, one1⟩
def parseR (t : ByteArray) : R4 := cutP (negP t.data.toList) (digP t.data.toList)
theorem ext_take (b : ByteArray) (i : Nat) : b.extract 0 i = mk (b.data.toList.take i) := by
  refine Rq.ext ?_
  rw [mk_list, ByteArray.data_extract, Array.toList_extract]
  simp
theorem ext_drop (b : ByteArray) (i : Nat) : b.extract i b.size = mk (b.data.toList.drop i) := by
  refine Rq.ext ?_
  rw [mk_list, ByteArray.data_extract, Array.toList_extract]
  rw [List.extract_eq_take_drop, ByteArray.size, ← Array.length_toList, List.take_of_length_le (by rw [List.length_drop]; omega)]
theorem digP_length (l : List UInt8) : (digP l).length ≤ l.length := by
  unfold digP Go.Lib.trimPrefix
  split
  · rw [List.length_drop]; omega
  · omega
theorem index_lt {l : List UInt8} {c : UInt8} (h : 0 ≤ Go.Lib.indexByte l c) : (Go.Lib.indexByte l c).toNat < l.length := by
  have := (Go.Lib.indexByte_some (l := l) (c := c) (o := (Go.Lib.indexByte l c).toNat) (by omega)).1
  exact (List.getElem?_eq_some_iff.1 this).1
theorem valid_f3 {k : Nat} (hk : 0 < k) (s : Bool) (n d : ByteArray) : ratio_Valid.f k s n d = some (vld ⟨s, n, d⟩) := valid_f2 hk ⟨s, n, d⟩
theorem parse_f {k : Nat} (hk : 0 < k) (t : ByteArray) (ht : t.size ≤ 4294967295) : ratio_Parse.f k t = some (parseR t) := by
  unfold ratio_Parse.f strings_CutPrefix.f
  rw [Option.bind_some]
  show ((strings_Cut.f (mk (digP t.data.toList)) ⟨#[47]⟩).bind _) = _
  unfold strings_Cut.f stringslite_Cut.f
  have hi : stringslite_Index.f (mk (digP t.data.toList)) ⟨#[47]⟩ = some (Go.Lib.indexByte (digP t.data.toList) 47) := rfl
  rw [hi, Option.bind_some]
  have hlen : (mk (digP t.data.toList)).size ≤ 4294967295 := by
    rw [Rq.size_list, mk_list]
    have := digP_length t.data.toList
    rw [← Rq.size_list] at this
    omega
  show _ = some (cutP (negP t.data.toList) (digP t.data.toList))
  rw [show Go.Lib.hasPrefix t.data.toList (⟨#[45]⟩ : ByteArray).data.toList = negP t.data.toList from rfl]
  generalize negP t.data.toList = s
  generalize hd : digP t.data.toList = d at *
  unfold cutP
  have hsz : (mk d).size = d.length := by rw [Rq.size_list, mk_list]
  by_cases h0 : 0 ≤ Go.Lib.indexByte d 47
  · have hlt := index_lt h0
    have hw : wrap64 (Go.Lib.indexByte d 47 + (((⟨#[47]⟩ : ByteArray).size : Nat) : Int)) = Go.Lib.indexByte d 47 + 1 := by
      rw [show (((⟨#[47]⟩ : ByteArray).size : Nat) : Int) = 1 from rfl]
      unfold wrap64; omega
    rw [if_pos h0, if_pos h0, if_pos h0, if_pos (by omega), hw, if_pos (by omega), if_pos (by omega), Option.bind_some]
    have hx : (Go.Lib.indexByte d 47 + 1).toNat = (Go.Lib.indexByte d 47).toNat + 1 := by omega
    rw [hx, ext_take, ext_drop, mk_list, Option.bind_some, if_pos rfl, ByteArray.toList_eq, mk_list]
    by_cases h1 : d.drop ((Go.Lib.indexByte d 47).toNat + 1) = [49]
    · rw [if_pos h1, if_pos h1]; rfl
    · rw [if_neg h1, if_neg h1]
      simp only
      rw [valid_f3 hk, Option.bind_some]
      unfold okP
      by_cases hv : vld ⟨s, mk (d.take (Go.Lib.indexByte d 47).toNat), mk (d.drop ((Go.Lib.indexByte d 47).toNat + 1))⟩ = true
      · rw [if_pos hv, if_pos hv]
      · rw [if_neg hv, if_neg hv]; rfl
  · rw [if_neg h0, if_neg h0, Option.bind_some, Option.bind_some]
    simp only
    rw [if_neg (by simp)]
    show ((ratio_Valid.f k s (mk d) one1).bind _) = _
    rw [valid_f3 hk, Option.bind_some]
    unfold okP
    by_cases hv : vld ⟨s, mk d, one1⟩ = true
    · rw [if_pos hv, if_pos hv]; rfl
    · rw [if_neg hv, if_neg hv]; rfl

/-! ### Each is the other's inverse -/
theorem okP_cases (a : S23) : (vld a = true ∧ okP a = (a.f0, a.f1, a.f2, 0)) ∨ okP a = bad 5 := by
  unfold okP
  by_cases h : vld a = true
  · exact .inl ⟨h, if_pos h⟩
  · exact .inr (if_neg h)
theorem toList_list (b : ByteArray) : b.toList = b.data.toList := ByteArray.toList_eq b
theorem list1 (c : UInt8) (b : ByteArray) : ((⟨#[c]⟩ : ByteArray) ++ b).data.toList = c :: b.data.toList := by
  rw [ByteArray.data_append]; simp
theorem list2 (a b : ByteArray) : (a ++ b).data.toList = a.data.toList ++ b.data.toList := by
  rw [ByteArray.data_append]; simp
theorem sgn_list (s : Bool) (n : ByteArray) : (sgn s n).data.toList = (if s = true then [45] else []) ++ n.data.toList := by
  unfold sgn
  cases s
  · rfl
  · rw [if_pos rfl, if_pos rfl, list1]; rfl
theorem neg_split (l : List UInt8) : l = (if negP l = true then [45] else []) ++ digP l := by
  unfold negP digP Go.Lib.trimPrefix
  by_cases h : Go.Lib.hasPrefix l [45] = true
  · rw [if_pos h, if_pos h]
    unfold Go.Lib.hasPrefix at h
    obtain ⟨r, rfl⟩ := List.isPrefixOf_iff_prefix.1 h
    simp
  · rw [if_neg h, if_neg h]; rfl
theorem txt_parse (t : ByteArray) : (∃ a : S23, vld a = true ∧ parseR t = (a.f0, a.f1, a.f2, 0) ∧ txt a = t) ∨ parseR t = bad 5 := by
  unfold parseR cutP
  have hs := neg_split t.data.toList
  generalize negP t.data.toList = s at *
  generalize digP t.data.toList = d at *
  by_cases h0 : 0 ≤ Go.Lib.indexByte d 47
  · rw [if_pos h0]
    by_cases h1 : d.drop ((Go.Lib.indexByte d 47).toNat + 1) = [49]
    · rw [if_pos h1]; exact .inr rfl
    · rw [if_neg h1]
      have hat := (Go.Lib.indexByte_some (l := d) (c := 47) (o := (Go.Lib.indexByte d 47).toNat) (by omega)).1
      generalize (Go.Lib.indexByte d 47).toNat = i at *
      rcases okP_cases ⟨s, mk (d.take i), mk (d.drop (i + 1))⟩ with ⟨hv, e⟩ | e
      · refine .inl ⟨_, hv, e, Rq.ext ?_⟩
        unfold txt
        simp only
        rw [if_neg (by rw [toList_list, mk_list]; exact h1), list2, list1, sgn_list, mk_list, mk_list, hs, List.append_assoc]
        congr 1
        obtain ⟨hlt, hg⟩ := List.getElem?_eq_some_iff.1 hat
        rw [← hg, ← List.drop_eq_getElem_cons hlt, List.take_append_drop]
      · exact .inr e
  · rw [if_neg h0]
    rcases okP_cases ⟨s, mk d, one1⟩ with ⟨hv, e⟩ | e
    · refine .inl ⟨_, hv, e, Rq.ext ?_⟩
      unfold txt
      simp only
      rw [if_pos (by rw [toList_list]; rfl), sgn_list, mk_list, ← hs]
    · exact .inr e
theorem dig_of {b : ByteArray} (h : isN b = true) {c : UInt8} (hc : c ∈ b.data.toList) : c ≠ 45 ∧ c ≠ 47 := by
  have := Nb.dig_le (isN_digs h c hc)
  constructor <;> (intro e; subst e; revert this; decide)
theorem num_cons {b : ByteArray} (h : isN b = true) : ∃ c r, b.data.toList = c :: r := by
  cases e : b.data.toList with
  | nil =>
    have := (isN_num h).1
    rw [e] at this
    exact absurd this (by decide)
  | cons c r => exact ⟨c, r, rfl⟩
theorem split_sgn (s : Bool) {n : ByteArray} (hn : isN n = true) (r : List UInt8) : negP ((if s = true then [45] else []) ++ (n.data.toList ++ r)) = s ∧ digP ((if s = true then [45] else []) ++ (n.data.toList ++ r)) = n.data.toList ++ r := by
  obtain ⟨c, q, e⟩ := num_cons hn
  have hc := (dig_of hn (c := c) (by rw [e]; exact List.mem_cons_self)).1
  unfold negP digP Go.Lib.trimPrefix Go.Lib.hasPrefix
  cases s
  · rw [if_neg (by decide), List.nil_append, e]
    have hp : ([45] : List UInt8).isPrefixOf (c :: q ++ r) = false := by
      simp only [List.cons_append, List.isPrefixOf, Bool.and_true]
      exact beq_eq_false_iff_ne.2 (fun h => hc h.symm)
    rw [hp]
    exact ⟨rfl, rfl⟩
  · rw [if_pos rfl]
    have hp : ([45] : List UInt8).isPrefixOf ([45] ++ (n.data.toList ++ r)) = true := by simp [List.isPrefixOf]
    rw [hp]
    exact ⟨rfl, rfl⟩
theorem index_none {l : List UInt8} {c : UInt8} (h : ∀ x ∈ l, x ≠ c) : Go.Lib.indexByte l c = -1 := by
  have hge := Go.Lib.indexByte_ge l c
  by_cases h0 : 0 ≤ Go.Lib.indexByte l c
  · have := (Go.Lib.indexByte_some (l := l) (c := c) (o := (Go.Lib.indexByte l c).toNat) (by omega)).1
    exact absurd rfl (h c (List.mem_of_getElem? this))
  · omega
theorem index_at {l r : List UInt8} {c : UInt8} (h : ∀ x ∈ l, x ≠ c) : Go.Lib.indexByte (l ++ c :: r) c = (l.length : Int) := by
  have hge := Go.Lib.indexByte_ge (l ++ c :: r) c
  have hat : (l ++ c :: r)[l.length]? = some c := by simp
  by_cases h0 : 0 ≤ Go.Lib.indexByte (l ++ c :: r) c
  · obtain ⟨h1, h2⟩ := Go.Lib.indexByte_some (l := l ++ c :: r) (c := c) (o := (Go.Lib.indexByte (l ++ c :: r) c).toNat) (by omega)
    by_cases h3 : (Go.Lib.indexByte (l ++ c :: r) c).toNat < l.length
    · rw [List.getElem?_append_left h3] at h1
      exact absurd rfl (h c (List.mem_of_getElem? h1))
    · by_cases h4 : l.length < (Go.Lib.indexByte (l ++ c :: r) c).toNat
      · exact absurd hat (h2 _ h4)
      · omega
  · exact absurd hat (Go.Lib.indexByte_none (by omega) _)
theorem parse_txt {a : S23} (hv : vld a = true) : parseR (txt a) = (a.f0, a.f1, a.f2, 0) := by
  obtain ⟨h1, h2, h3, h4, h5⟩ := valid_parts hv
  have ho : okP a = (a.f0, a.f1, a.f2, 0) := if_pos hv
  unfold parseR txt
  by_cases hd : a.f2.toList = [49]
  · rw [if_pos hd, sgn_list]
    obtain ⟨e1, e2⟩ := split_sgn a.f0 h1 []
    rw [List.append_nil] at e1 e2
    rw [e1, e2]
    unfold cutP
    rw [index_none (fun x hx => (dig_of h1 hx).2), if_neg (by decide), mk_self]
    have : one1 = a.f2 := Rq.ext (by rw [← toList_list a.f2, hd]; rfl)
    rw [this]
    exact ho
  · rw [if_neg hd, list2, list1, sgn_list, List.append_assoc]
    obtain ⟨e1, e2⟩ := split_sgn a.f0 h1 (47 :: a.f2.data.toList)
    rw [e1, e2]
    unfold cutP
    rw [index_at (fun x hx => (dig_of h1 hx).2), if_pos (by omega), Int.toNat_natCast]
    have hdr : (a.f1.data.toList ++ 47 :: a.f2.data.toList).drop (a.f1.data.toList.length + 1) = a.f2.data.toList := by
      rw [← List.drop_drop, List.drop_left]; rfl
    rw [hdr, List.take_left, mk_self, mk_self, if_neg (by rw [← toList_list]; exact hd)]
    exact ho
end Go.Proofs.YtfaibifilpfikaaGreatDoor.P6
