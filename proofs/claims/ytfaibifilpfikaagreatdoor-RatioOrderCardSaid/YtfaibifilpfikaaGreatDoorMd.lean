/- Package natural's exported functions and three of Go's library as Lean functions with their contracts; conditions: that the world holds Go's table of powers of ten and strconv's two errors. -/
import Derived.Test.YtfaibifilpfikaaGreatDoorB
namespace Go.Proofs.YtfaibifilpfikaaGreatDoor.N11
open Go.RowKit Go.Shelf Go.Proofs.YtfaibifilpfikaaGreatDoorW.PrintWords Go.Proofs.YtfaibifilpfikaaGreatDoorW.PrintLast Go.Proofs.YtfaibifilpfikaaGreatDoorW.PrintMore Go.Proofs.YtfaibifilpfikaaGreatDoor.A Go.Proofs.YtfaibifilpfikaaGreatDoor.N1 Go.Proofs.YtfaibifilpfikaaGreatDoor.N3 Go.Proofs.YtfaibifilpfikaaGreatDoor.N4 Go.Proofs.YtfaibifilpfikaaGreatDoor.Rb Go.Proofs.YtfaibifilpfikaaGreatDoor.N5 Go.Proofs.YtfaibifilpfikaaGreatDoor.N6 Go.Proofs.YtfaibifilpfikaaGreatDoor.N7 Go.Proofs.YtfaibifilpfikaaGreatDoor.N8 Go.Proofs.YtfaibifilpfikaaGreatDoor.N9 Go.Proofs.YtfaibifilpfikaaGreatDoor.N10 Go.Proofs.YtfaibifilpfikaaGreatDoor.X1 Go.Proofs.YtfaibifilpfikaaGreatDoor.B
set_option linter.unusedVariables false
set_option linter.unusedSimpArgs false

set_option maxRecDepth 10000 in
theorem ten_dig (c : UInt8) : ten.data.toList.contains c = Nb.dig c := by
  have h : ∀ n, n < 256 → ten.data.toList.contains (UInt8.ofNat n) = (decide (48 ≤ n) && decide (n ≤ 57)) := by decide
  have := h c.toNat c.toNat_lt
  rw [UInt8.ofNat_toNat] at this
  exact this
theorem dropWhile_nil {α : Type} (p : α → Bool) (l : List α) : l.dropWhile p = [] ↔ ∀ c ∈ l, p c = true := by
  induction l with
  | nil => simp
  | cons a l ih =>
    rw [List.dropWhile_cons]
    by_cases h : p a = true
    · rw [if_pos h, ih]; simp [h]
    · rw [if_neg h]; simp [h]
theorem trim_nil (l cs : List UInt8) : Lib.trimS l cs = [] ↔ ∀ c ∈ l, cs.contains c = true := by
  show (Lib.trimRightS l cs).dropWhile (cs.contains ·) = [] ↔ _
  rw [dropWhile_nil]
  show (∀ c ∈ (l.reverse.dropWhile (cs.contains ·)).reverse, _) ↔ _
  constructor
  · intro h
    have h2 : l.reverse.dropWhile (cs.contains ·) = [] := by
      cases hd : l.reverse.dropWhile (cs.contains ·) with
      | nil => rfl
      | cons a r =>
        have h3 := h a (by rw [hd]; simp)
        have := List.head_dropWhile_not (cs.contains ·) (l := l.reverse) (by rw [hd]; simp)
        simp only [hd, List.head_cons] at this
        rw [h3] at this
        cases this
    intro c hc
    exact (dropWhile_nil _ _).1 h2 c (List.mem_reverse.2 hc)
  · intro h c hc
    rw [(dropWhile_nil (cs.contains ·) l.reverse).2 (fun c hc => h c (List.mem_reverse.1 hc))] at hc
    simp at hc
theorem is_eq (s : ByteArray) : natural_Is.f s = some (Rq.isN s) := by
  have ht : s.toList = s.data.toList := ByteArray.toList_eq s
  have hz := Rq.size_list s
  unfold natural_Is.f Rq.isN Nb.num
  rw [ht]
  by_cases h0 : s.data.toList = []
  · rw [if_pos h0, h0]; rfl
  · rw [if_neg h0]
    by_cases h3 : s.size ≤ 300
    · rw [if_pos (by omega)]
      unfold strings_Trim.f
      rw [if_pos ⟨by omega, rfl⟩, Option.bind_some]
      have hd : decide (s.size ≤ 300) = true := decide_eq_true h3
      have hall : (Lib.trimS s.data.toList ten.data.toList = []) ↔ s.data.toList.all Nb.dig = true := by
        rw [trim_nil, List.all_eq_true]
        exact ⟨fun h c hc => (ten_dig c) ▸ h c hc, fun h c hc => (ten_dig c).symm ▸ h c hc⟩
      have ht2 : (⟨(Lib.trimS s.data.toList ten.data.toList).toArray⟩ : ByteArray).toList = Lib.trimS s.data.toList ten.data.toList := by rw [ByteArray.toList_eq]
      rw [ht2]
      by_cases hA : s.data.toList.all Nb.dig = true
      · rw [if_pos (hall.2 hA), hA, hd, Bool.true_and, Bool.and_true]
        by_cases h1 : s.size = 1
        · rw [if_pos (by omega)]
          simp [← hz, h1]
        · have hpos : 0 < s.size := by rw [hz]; exact List.length_pos_iff.2 h0
          rw [if_neg (by omega), if_pos (by omega)]
          have hb : bt s 0 = (((s.data.toList[0]'(by rw [← hz]; exact hpos)).toNat : Nat) : Int) := by
            unfold bt
            rw [dif_pos (show (0 : Int).toNat < s.size from hpos)]
            rfl
          have hh : s.data.toList.head? = some (s.data.toList[0]'(by rw [← hz]; exact hpos)) := by rw [List.head?_eq_getElem?, List.getElem?_eq_getElem]
          rw [hb, hh, decide_eq_false (by rw [← hz]; exact h1), decide_eq_true (by rw [← hz]; omega), Bool.false_or, Bool.true_and]
          generalize s.data.toList[0]'(by rw [← hz]; exact hpos) = c
          congr 1
          by_cases hc : c = 48
          · subst hc; rfl
          · rw [decide_eq_true (by simpa using hc)]
            simp only [bne_iff_ne, ne_eq]
            intro e
            exact hc (UInt8.toNat_inj.1 (by show c.toNat = 48; omega))
      · rw [if_neg (fun h => hA (hall.1 h)), Bool.eq_false_iff.2 hA]
        rfl
    · rw [if_neg (by omega), decide_eq_false h3, Bool.and_false]
theorem is_calls (s : ByteArray) (w : World) : Calls Tryz.prog 67 #[.string s] w fun e w' => e = .returned (.bool (Rq.isN s)) ∧ Below w.heap.size w w' := natural_Is.calls s _ w (is_eq s)
theorem isN_digs {s : ByteArray} (h : Rq.isN s = true) : ∀ c ∈ s.data.toList, Nb.dig c = true := (Nb.num_parts (Rq.isN_num h).1).1
theorem parse_num (s : ByteArray) (h : Rq.isN s = true) (w : World) :
    Calls Tryz.prog 107 #[.string s] w fun e w' => ∃ v', e = .returned v' ∧ NumB w.heap.size w' v' (Rq.nv s) ∧ Below w.heap.size w w' := parse_any s (isN_digs h) (Nat.le_trans (Rq.isN_num h).2 (by decide)) w
theorem few_of {n k : Nat} (h : n < 10 ^ (9 * k)) (hk : k ≤ 3999) : Few' n := by
  refine Nat.le_trans (Nb.limbs_length_le (k := k) ?_) hk
  rw [Nat.pow_mul] at h
  exact h
theorem few_m {n k m : Nat} (hm : m ≤ 9 * k) (h : n < 10 ^ m) (hk : k ≤ 3999) : Few' n := few_of (Rq.lt_pow h hm) hk
theorem few_nv {s : ByteArray} (h : Rq.isN s = true) : Few' (Rq.nv s) := few_m (k := 34) (by decide) (Rq.nv_lt h (Rq.isN_num h).2) (by decide)
/-- What an operation on two numbers does. -/
def Does (f : FuncId) (a b N : Nat) : Prop := ∀ (w : World) (u v : Value), NumAt w u a → NumAt w v b → Calls Tryz.prog f #[u, v] w fun e w' => ∃ v', e = .returned v' ∧ NumAt w' v' N ∧ Below w.heap.size w w'
set_option maxRecDepth 100000 in
theorem apply_any (f : FuncId) (a b : ByteArray) (N : Nat) (hN : Few N) (ha : Rq.isN a = true) (hb : Rq.isN b = true) (hop : Does f (Rq.nv a) (Rq.nv b) N) (w : World) (ht : Pow w)
    (hf : ∀ args w, (callFunc f args).run Tryz.prog w = .ok (.enter f args) w) :
    Calls Tryz.prog 110 #[.string a, .string b, .func (.func f) #[] #[]] w fun e w' => e = .returned (.tuple #[.string (txS N), .int .i64 (txE N)]) ∧ Below w.heap.size w w' := by
  have HA := Aside0.mk ha
  have HB := Aside0.mk hb
  have HT := Aside0.mk ht
  have HO := Aside0.mk hop
  clear ha hb ht hop
  go_enter Tryz.func110, Tryz.ntmps110
  go_wp2_with (first
    | (have _ := B5.out; go_at_call 109; refine (text_any N hN _ (HT.out.below B5.out) _ HR.out).mono ?_; rintro e w6 ⟨rfl, hb⟩; have B6 := Aside0.mk (below_step B5.out hb); clear hb)
    | (have _ := B4.out; go_at_fn f; refine (HO.out _ _ _ HU1.out HV.out).mono ?_; rintro e w5 ⟨v5, rfl, hn, hb⟩; have HR := Aside0.mk hn; have B5 := Aside0.mk (below_step B4.out hb); clear hn hb)
    | (have _ := B3.out; go_at_call 107; refine (parse_num b HB.out _).mono ?_; rintro e w4 ⟨v4, rfl, hn, hb⟩; have HV := Aside0.mk hn.num; have HU1 := Aside0.mk (HU.out.below hb); have B4 := Aside0.mk (below_step B3.out hb); clear hn hb)
    | (have _ := B2.out; go_at_call 107; refine (parse_num a HA.out _).mono ?_; rintro e w3 ⟨v3, rfl, hn, hb⟩; have HU := Aside0.mk hn.num; have B3 := Aside0.mk (below_step B2.out hb); clear hn hb)
    | (have _ := B1.out; go_at_call 67; refine (is_calls b _).mono ?_; rintro e w2 ⟨rfl, hb⟩; rw [HB.out]; have B2 := Aside0.mk (below_step B1.out hb); clear hb)
    | (go_at_call 67; refine (is_calls a _).mono ?_; rintro e w1 ⟨rfl, hb⟩; rw [HA.out]; have B1 := Aside0.mk hb; clear hb))
  go_ret2
  exact ⟨rfl, B6.out⟩
theorem apply_bad (fv : Value) (a b : ByteArray) (hab : (Rq.isN a && Rq.isN b) = false) (w : World) :
    Calls Tryz.prog 110 #[.string a, .string b, fv] w fun e w' => e = .returned (.tuple #[.string ⟨#[]⟩, .int .i64 1]) ∧ Below w.heap.size w w' := by
  cases ha : Rq.isN a with
  | false =>
    have HA := Aside0.mk ha
    clear ha hab
    go_enter Tryz.func110, Tryz.ntmps110
    go_wp2_with (first
      | (go_at_call 67; refine (is_calls a _).mono ?_; rintro e w1 ⟨rfl, hb⟩; rw [HA.out]; have B1 := Aside0.mk hb; clear hb))
    go_ret2
    exact ⟨rfl, B1.out⟩
  | true =>
    rw [ha, Bool.true_and] at hab
    have HA := Aside0.mk ha
    have HB := Aside0.mk hab
    clear ha hab
    go_enter Tryz.func110, Tryz.ntmps110
    go_wp2_with (first
      | (have _ := B1.out; go_at_call 67; refine (is_calls b _).mono ?_; rintro e w2 ⟨rfl, hb⟩; rw [HB.out]; have B2 := Aside0.mk (below_step B1.out hb); clear hb)
      | (go_at_call 67; refine (is_calls a _).mono ?_; rintro e w1 ⟨rfl, hb⟩; rw [HA.out]; have B1 := Aside0.mk hb; clear hb))
    go_ret2
    exact ⟨rfl, B2.out⟩
/-- Both are numbers. -/
def ok2 (a b : ByteArray) : Bool := Rq.isN a && Rq.isN b
theorem ok2_iff {a b : ByteArray} : ok2 a b = true ↔ Rq.isN a = true ∧ Rq.isN b = true := by unfold ok2; rw [Bool.and_eq_true]
def resS (a b : ByteArray) (N : Nat) : ByteArray := if ok2 a b then txS N else ⟨#[]⟩
def resE (a b : ByteArray) (N : Nat) : Int := if ok2 a b then txE N else 1
theorem apply_all (f : FuncId) (a b : ByteArray) (N : Nat) (hN : ok2 a b = true → Few N) (hop : ok2 a b = true → Does f (Rq.nv a) (Rq.nv b) N) (w : World) (ht : Pow w)
    (hf : ∀ args w, (callFunc f args).run Tryz.prog w = .ok (.enter f args) w) :
    Calls Tryz.prog 110 #[.string a, .string b, .func (.func f) #[] #[]] w fun e w' => e = .returned (.tuple #[.string (resS a b N), .int .i64 (resE a b N)]) ∧ Below w.heap.size w w' := by
  unfold resS resE
  by_cases h : ok2 a b = true
  · rw [if_pos h, if_pos h]
    exact apply_any f a b N (hN h) (ok2_iff.1 h).1 (ok2_iff.1 h).2 (hop h) w ht hf
  · rw [if_neg h, if_neg h]
    exact apply_bad _ a b (Bool.eq_false_iff.2 h) w
theorem does_add {a b : Nat} (ha : Few a) (hb : Few b) : Does 111 a b (a + b) := fun w u v hu hv => (add_any a b ha hb w u v hu hv).mono fun e w' ⟨v', h1, h2, h3⟩ => ⟨v', h1, h2.num, h3⟩
theorem does_sub {a b : Nat} (ha : Few a) (hab : b ≤ a) : Does 140 a b (a - b) := fun w u v hu hv => (subB a b ha hab w u v hu hv).mono fun e w' ⟨v', h1, h2, h3⟩ => ⟨v', h1, h2.num, h3⟩
theorem does_mul {a b : Nat} (ha : Few a) (hb : Few b) : Does 139 a b (a * b) := fun w u v hu hv => (mulB a b ha hb w u v hu hv).mono fun e w' ⟨v', h1, h2, h3⟩ => ⟨v', h1, h2.num, h3⟩
theorem does_gcd {a b : Nat} (ha : Few' a) (hb : Few' b) : Does 115 a b (Nat.gcd a b) := fun w u v hu hv => gcd_any a b ha hb w u v hu hv
theorem enters111 : ∀ args w, (callFunc 111 args).run Tryz.prog w = .ok (.enter 111 args) w := enters_of (P := Tryz.prog) Tryz.func111 (by kernel_rfl) rfl
theorem enters140 : ∀ args w, (callFunc 140 args).run Tryz.prog w = .ok (.enter 140 args) w := enters_of (P := Tryz.prog) Tryz.func140 (by kernel_rfl) rfl
theorem enters139 : ∀ args w, (callFunc 139 args).run Tryz.prog w = .ok (.enter 139 args) w := enters_of (P := Tryz.prog) Tryz.func139 (by kernel_rfl) rfl
theorem enters115 : ∀ args w, (callFunc 115 args).run Tryz.prog w = .ok (.enter 115 args) w := enters_of (P := Tryz.prog) Tryz.func115 (by kernel_rfl) rfl
theorem lt300 {a : ByteArray} (h : Rq.isN a = true) : Rq.nv a < 10 ^ 300 := Rq.nv_lt (k := 300) h (Rq.isN_num h).2
theorem few_add {a b : ByteArray} (h : ok2 a b = true) : Few (Rq.nv a + Rq.nv b) := by
  have h1 := lt300 (ok2_iff.1 h).1
  have h2 := lt300 (ok2_iff.1 h).2
  exact Few'.few (few_m (k := 34) (m := 301) (by decide) (Rq.add_lt (m := 300) (n := 301) h1 h2 (by decide)) (by decide))
theorem few_mul {a b : ByteArray} (h : ok2 a b = true) : Few (Rq.nv a * Rq.nv b) := by
  have h1 := lt300 (ok2_iff.1 h).1
  have h2 := lt300 (ok2_iff.1 h).2
  exact Few'.few (few_m (k := 67) (m := 600) (by decide) (Rq.mul_lt (m := 300) (k := 300) (n := 600) h1 h2 (by decide)) (by decide))
set_option maxRecDepth 100000 in
theorem add_calls (a b : ByteArray) (w : World) (ht : Pow w) : Calls Tryz.prog 64 #[.string a, .string b] w fun e w' => e = .returned (.tuple #[.string (resS a b (Rq.nv a + Rq.nv b)), .int .i64 (resE a b (Rq.nv a + Rq.nv b))]) ∧ Below w.heap.size w w' := by
  have H := Aside0.mk (apply_all 111 a b _ few_add (fun h => does_add (few_nv (ok2_iff.1 h).1).few (few_nv (ok2_iff.1 h).2).few) w ht enters111)
  clear ht
  go_enter Tryz.func64, Tryz.ntmps64
  go_wp2_with (go_at_call 110; refine H.out.mono ?_; rintro e w1 ⟨rfl, hb⟩; have B := Aside0.mk hb; clear hb H)
  go_ret2
  exact ⟨rfl, B.out⟩
set_option maxRecDepth 100000 in
theorem mul_calls (a b : ByteArray) (w : World) (ht : Pow w) : Calls Tryz.prog 159 #[.string a, .string b] w fun e w' => e = .returned (.tuple #[.string (resS a b (Rq.nv a * Rq.nv b)), .int .i64 (resE a b (Rq.nv a * Rq.nv b))]) ∧ Below w.heap.size w w' := by
  have H := Aside0.mk (apply_all 139 a b _ few_mul (fun h => does_mul (few_nv (ok2_iff.1 h).1).few (few_nv (ok2_iff.1 h).2).few) w ht enters139)
  clear ht
  go_enter Tryz.func159, Tryz.ntmps159
  go_wp2_with (go_at_call 110; refine H.out.mono ?_; rintro e w1 ⟨rfl, hb⟩; have B := Aside0.mk hb; clear hb H)
  go_ret2
  exact ⟨rfl, B.out⟩
theorem few_gcd {a b : ByteArray} (h : ok2 a b = true) : Few (Nat.gcd (Rq.nv a) (Rq.nv b)) := by
  by_cases h0 : Rq.nv a = 0
  · rw [h0, Nat.gcd_zero_left]; exact (few_nv (ok2_iff.1 h).2).few
  · exact ((few_nv (ok2_iff.1 h).1).le (Nat.gcd_le_left _ (Nat.pos_of_ne_zero h0))).few
set_option maxRecDepth 100000 in
theorem gcd_calls (a b : ByteArray) (w : World) (ht : Pow w) : Calls Tryz.prog 68 #[.string a, .string b] w fun e w' => e = .returned (.tuple #[.string (resS a b (Nat.gcd (Rq.nv a) (Rq.nv b))), .int .i64 (resE a b (Nat.gcd (Rq.nv a) (Rq.nv b)))]) ∧ Below w.heap.size w w' := by
  have H := Aside0.mk (apply_all 115 a b _ few_gcd (fun h => does_gcd (few_nv (ok2_iff.1 h).1) (few_nv (ok2_iff.1 h).2)) w ht enters115)
  clear ht
  go_enter Tryz.func68, Tryz.ntmps68
  go_wp2_with (go_at_call 110; refine H.out.mono ?_; rintro e w1 ⟨rfl, hb⟩; have B := Aside0.mk hb; clear hb H)
  go_ret2
  exact ⟨rfl, B.out⟩
/-! ### Compare, Sub, Div -/
def cmpR (a b : ByteArray) : Int := if ok2 a b then cmpN (Rq.nv a) (Rq.nv b) else 0
def cmpE (a b : ByteArray) : Int := if ok2 a b then 0 else 1
set_option maxRecDepth 100000 in
theorem compare_calls (a b : ByteArray) (w : World) : Calls Tryz.prog 118 #[.string a, .string b] w fun e w' => e = .returned (.tuple #[.int .i64 (cmpR a b), .int .i64 (cmpE a b)]) ∧ Below w.heap.size w w' := by
  unfold cmpR cmpE ok2
  cases ha : Rq.isN a with
  | false =>
    rw [Bool.false_and, if_neg (by decide), if_neg (by decide)]
    have HA := Aside0.mk ha
    clear ha
    go_enter Tryz.func118, Tryz.ntmps118
    go_wp2_with (first
      | (go_at_call 67; refine (is_calls a _).mono ?_; rintro e w1 ⟨rfl, hb⟩; rw [HA.out]; have B1 := Aside0.mk hb; clear hb))
    go_ret2
    exact ⟨rfl, B1.out⟩
  | true =>
    rw [Bool.true_and]
    cases hb : Rq.isN b with
    | false =>
      rw [if_neg (by decide), if_neg (by decide)]
      have HA := Aside0.mk ha
      have HB := Aside0.mk hb
      clear ha hb
      go_enter Tryz.func118, Tryz.ntmps118
      go_wp2_with (first
        | (have _ := B1.out; go_at_call 67; refine (is_calls b _).mono ?_; rintro e w2 ⟨rfl, hb⟩; rw [HB.out]; have B2 := Aside0.mk (below_step B1.out hb); clear hb)
        | (go_at_call 67; refine (is_calls a _).mono ?_; rintro e w1 ⟨rfl, hb⟩; rw [HA.out]; have B1 := Aside0.mk hb; clear hb))
      go_ret2
      exact ⟨rfl, B2.out⟩
    | true =>
      rw [if_pos rfl, if_pos rfl]
      have HA := Aside0.mk ha
      have HB := Aside0.mk hb
      clear ha hb
      go_enter Tryz.func118, Tryz.ntmps118
      go_wp2_with (first
        | (have _ := B4.out; go_at_call 136; refine (compareS _ _ (few_nv HA.out).few (few_nv HB.out).few _ _ _ HU1.out HV.out).mono ?_; rintro e w5 ⟨rfl, hb⟩; have B5 := Aside0.mk (below_step B4.out hb); clear hb)
        | (have _ := B3.out; go_at_call 107; refine (parse_num b HB.out _).mono ?_; rintro e w4 ⟨v4, rfl, hn, hb⟩; have HV := Aside0.mk hn.num; have HU1 := Aside0.mk (HU.out.below hb); have B4 := Aside0.mk (below_step B3.out hb); clear hn hb)
        | (have _ := B2.out; go_at_call 107; refine (parse_num a HA.out _).mono ?_; rintro e w3 ⟨v3, rfl, hn, hb⟩; have HU := Aside0.mk hn.num; have B3 := Aside0.mk (below_step B2.out hb); clear hn hb)
        | (have _ := B1.out; go_at_call 67; refine (is_calls b _).mono ?_; rintro e w2 ⟨rfl, hb⟩; rw [HB.out]; have B2 := Aside0.mk (below_step B1.out hb); clear hb)
        | (go_at_call 67; refine (is_calls a _).mono ?_; rintro e w1 ⟨rfl, hb⟩; rw [HA.out]; have B1 := Aside0.mk hb; clear hb))
      go_ret2
      exact ⟨rfl, B5.out⟩
def subS (a b : ByteArray) : ByteArray := if ok2 a b then (if Rq.nv a < Rq.nv b then ⟨#[]⟩ else txS (Rq.nv a - Rq.nv b)) else ⟨#[]⟩
def subE (a b : ByteArray) : Int := if ok2 a b then (if Rq.nv a < Rq.nv b then 10 else txE (Rq.nv a - Rq.nv b)) else 1
theorem cmpN_neg (a b : Nat) : cmpN a b < 0 ↔ a < b := by unfold cmpN; split <;> (try split) <;> omega
set_option maxRecDepth 100000 in
theorem sub_calls (a b : ByteArray) (w : World) (ht : Pow w) : Calls Tryz.prog 119 #[.string a, .string b] w fun e w' => e = .returned (.tuple #[.string (subS a b), .int .i64 (subE a b)]) ∧ Below w.heap.size w w' := by
  have HT := Aside0.mk ht
  clear ht
  unfold subS subE
  have HC := Aside0.mk (compare_calls a b w)
  unfold cmpR cmpE at HC
  by_cases h : ok2 a b = true
  · rw [if_pos h, if_pos h] at HC ⊢
    by_cases hl : Rq.nv a < Rq.nv b
    · rw [if_pos hl, if_pos hl]
      have hc : decide (cmpN (Rq.nv a) (Rq.nv b) < 0) = true := decide_eq_true ((cmpN_neg _ _).2 hl)
      clear h hl
      go_enter Tryz.func119, Tryz.ntmps119
      go_wp2_with (first
        | (go_at_call 118; refine HC.out.mono ?_; rintro e w1 ⟨rfl, hb⟩; have B1 := Aside0.mk hb; clear hb HC))
      go_ret2
      exact ⟨rfl, B1.out⟩
    · rw [if_neg hl, if_neg hl]
      have hc : decide (cmpN (Rq.nv a) (Rq.nv b) < 0) = false := decide_eq_false (fun e => hl ((cmpN_neg _ _).1 e))
      have HN : ∀ W, Pow W → Calls Tryz.prog 110 #[.string a, .string b, .func (.func 140) #[] #[]] W fun e w' => e = .returned (.tuple #[.string (txS (Rq.nv a - Rq.nv b)), .int .i64 (txE (Rq.nv a - Rq.nv b))]) ∧ Below W.heap.size W w' := fun W hW =>
        apply_any 140 a b _ ((few_nv (ok2_iff.1 h).1).le (Nat.sub_le _ _)).few (ok2_iff.1 h).1 (ok2_iff.1 h).2 (does_sub (few_nv (ok2_iff.1 h).1).few (by omega)) W hW enters140
      have HN := Aside0.mk HN
      clear h hl
      go_enter Tryz.func119, Tryz.ntmps119
      go_wp2_with (first
        | (have _ := B1.out; go_at_call 110; refine (HN.out _ (HT.out.below B1.out)).mono ?_; rintro e w2 ⟨rfl, hb⟩; have B2 := Aside0.mk (below_step B1.out hb); clear hb)
        | (go_at_call 118; refine HC.out.mono ?_; rintro e w1 ⟨rfl, hb⟩; have B1 := Aside0.mk hb; clear hb HC))
      go_ret2
      exact ⟨rfl, B2.out⟩
  · rw [if_neg h, if_neg h] at HC ⊢
    have HN : ∀ W, Calls Tryz.prog 110 #[.string a, .string b, .func (.func 140) #[] #[]] W fun e w' => e = .returned (.tuple #[.string ⟨#[]⟩, .int .i64 1]) ∧ Below W.heap.size W w' := fun W => apply_bad _ a b (Bool.eq_false_iff.2 h) W
    have HN := Aside0.mk HN
    clear h
    go_enter Tryz.func119, Tryz.ntmps119
    go_wp2_with (first
      | (have _ := B1.out; go_at_call 110; refine (HN.out _).mono ?_; rintro e w2 ⟨rfl, hb⟩; have B2 := Aside0.mk (below_step B1.out hb); clear hb)
      | (go_at_call 118; refine HC.out.mono ?_; rintro e w1 ⟨rfl, hb⟩; have B1 := Aside0.mk hb; clear hb HC))
    go_ret2
    exact ⟨rfl, B2.out⟩
theorem txS_small {n : Nat} (h : n < 10 ^ 300) : txS n = Rq.dec n := if_pos (by rw [Lib.decDigits_length]; exact Rq.nDigits_m (k := 299) (m := 300) rfl h)
theorem txE_small {n : Nat} (h : n < 10 ^ 300) : txE n = 0 := if_pos (by rw [Lib.decDigits_length]; exact Rq.nDigits_m (k := 299) (m := 300) rfl h)
def zero1 : ByteArray := ⟨#[48]⟩
theorem nv_zero1 : Rq.nv zero1 = 0 := rfl
theorem isN_zero1 : Rq.isN zero1 = true := rfl
theorem is_zero {b : ByteArray} (h : Rq.isN b = true) : (b.toList == [48]) = decide (Rq.nv b = 0) := by
  rw [ByteArray.toList_eq]
  by_cases h0 : Rq.nv b = 0
  · have : b = zero1 := Rq.nv_inj h isN_zero1 (h0.trans nv_zero1.symm)
    subst this
    rfl
  · rw [decide_eq_false h0]
    refine beq_eq_false_iff_ne.2 (fun e => h0 ?_)
    unfold Rq.nv
    rw [e]
    rfl
def divQ (a b : ByteArray) : ByteArray := if ok2 a b then (if Rq.nv b = 0 then ⟨#[]⟩ else Rq.dec (Rq.nv a / Rq.nv b)) else ⟨#[]⟩
def divR (a b : ByteArray) : ByteArray := if ok2 a b then (if Rq.nv b = 0 then ⟨#[]⟩ else Rq.dec (Rq.nv a % Rq.nv b)) else ⟨#[]⟩
def divE (a b : ByteArray) : Int := if ok2 a b then (if Rq.nv b = 0 then 15 else 0) else 1
set_option maxRecDepth 100000 in
set_option maxHeartbeats 1000000 in
theorem div_calls (a b : ByteArray) (w : World) (ht : Pow w) : Calls Tryz.prog 63 #[.string a, .string b] w fun e w' => e = .returned (.tuple #[.string (divQ a b), .string (divR a b), .int .i64 (divE a b)]) ∧ Below w.heap.size w w' := by
  unfold divQ divR divE ok2
  have HT := Aside0.mk ht
  clear ht
  cases ha : Rq.isN a with
  | false =>
    rw [Bool.false_and, if_neg (by decide), if_neg (by decide), if_neg (by decide)]
    have HA := Aside0.mk ha
    clear ha
    go_enter Tryz.func63, Tryz.ntmps63
    go_wp2_with (first
      | (go_at_call 67; refine (is_calls a _).mono ?_; rintro e w1 ⟨rfl, hb⟩; rw [HA.out]; have B1 := Aside0.mk hb; clear hb))
    go_ret3
    exact ⟨rfl, B1.out⟩
  | true =>
    rw [Bool.true_and]
    cases hb : Rq.isN b with
    | false =>
      rw [if_neg (by decide), if_neg (by decide), if_neg (by decide)]
      have HA := Aside0.mk ha
      have HB := Aside0.mk hb
      clear ha hb
      go_enter Tryz.func63, Tryz.ntmps63
      go_wp2_with (first
        | (have _ := B1.out; go_at_call 67; refine (is_calls b _).mono ?_; rintro e w2 ⟨rfl, hb⟩; rw [HB.out]; have B2 := Aside0.mk (below_step B1.out hb); clear hb)
        | (go_at_call 67; refine (is_calls a _).mono ?_; rintro e w1 ⟨rfl, hb⟩; rw [HA.out]; have B1 := Aside0.mk hb; clear hb))
      go_ret3
      exact ⟨rfl, B2.out⟩
    | true =>
      rw [if_pos rfl, if_pos rfl, if_pos rfl]
      have hz := is_zero hb
      have HA := Aside0.mk ha
      have HB := Aside0.mk hb
      clear ha hb
      by_cases h0 : Rq.nv b = 0
      · rw [if_pos h0, if_pos h0, if_pos h0]
        rw [decide_eq_true h0] at hz
        clear h0
        go_enter Tryz.func63, Tryz.ntmps63
        go_wp2_with (first
          | (have _ := B1.out; go_at_call 67; refine (is_calls b _).mono ?_; rintro e w2 ⟨rfl, hb⟩; rw [HB.out]; have B2 := Aside0.mk (below_step B1.out hb); clear hb)
          | (go_at_call 67; refine (is_calls a _).mono ?_; rintro e w1 ⟨rfl, hb⟩; rw [HA.out]; have B1 := Aside0.mk hb; clear hb))
        go_ret3
        exact ⟨rfl, B2.out⟩
      · rw [if_neg h0, if_neg h0, if_neg h0]
        rw [decide_eq_false h0] at hz
        have HZ := Aside0.mk h0
        have HQ : Aside0 (Few (Rq.nv a / Rq.nv b)) := Aside0.mk ((few_nv HA.out).le (Nat.div_le_self _ _)).few
        have HR : Aside0 (Few (Rq.nv a % Rq.nv b)) := Aside0.mk ((few_nv HA.out).le (Nat.mod_le _ _)).few
        have HQ3 : Aside0 (Rq.nv a / Rq.nv b < 10 ^ 300) := Aside0.mk (Nat.lt_of_le_of_lt (Nat.div_le_self _ _) (lt300 HA.out))
        have HR3 : Aside0 (Rq.nv a % Rq.nv b < 10 ^ 300) := Aside0.mk (Nat.lt_of_le_of_lt (Nat.mod_le _ _) (lt300 HA.out))
        rw [← txS_small HQ3.out, ← txS_small HR3.out]
        clear h0
        go_enter Tryz.func63, Tryz.ntmps63
        go_wp2_with (first
          | (have _ := B6.out; go_at_call 109; refine (text_any _ HR.out _ (HT.out.below B6.out) _ HRr.out).mono ?_; rintro e w7 ⟨rfl, hb⟩; have B7 := Aside0.mk (below_step B6.out hb); clear hb)
          | (have _ := B5.out; go_at_call 109; refine (text_any _ HQ.out _ (HT.out.below B5.out) _ HQr.out).mono ?_; rintro e w6 ⟨rfl, hb⟩; have B6 := Aside0.mk (below_step B5.out hb); have HRr := Aside0.mk (HRr0.out.below hb); clear hb)
          | (have _ := B4.out; go_at_call 108; refine (divB _ _ (few_nv HA.out).few (few_nv HB.out).mul HZ.out _ _ _ HU1.out HV.out).mono ?_; rintro e w5 ⟨q, r, rfl, hq, hr, hb⟩; have HQr := Aside0.mk hq.num; have HRr0 := Aside0.mk hr.num; have B5 := Aside0.mk (below_step B4.out hb); clear hq hr hb)
          | (have _ := B3.out; go_at_call 107; refine (parse_num b HB.out _).mono ?_; rintro e w4 ⟨v4, rfl, hn, hb⟩; have HV := Aside0.mk hn.num; have HU1 := Aside0.mk (HU.out.below hb); have B4 := Aside0.mk (below_step B3.out hb); clear hn hb)
          | (have _ := B2.out; go_at_call 107; refine (parse_num a HA.out _).mono ?_; rintro e w3 ⟨v3, rfl, hn, hb⟩; have HU := Aside0.mk hn.num; have B3 := Aside0.mk (below_step B2.out hb); clear hn hb)
          | (have _ := B1.out; go_at_call 67; refine (is_calls b _).mono ?_; rintro e w2 ⟨rfl, hb⟩; rw [HB.out]; have B2 := Aside0.mk (below_step B1.out hb); clear hb)
          | (go_at_call 67; refine (is_calls a _).mono ?_; rintro e w1 ⟨rfl, hb⟩; rw [HA.out]; have B1 := Aside0.mk hb; clear hb))
        go_ret3
        exact ⟨rfl, B7.out⟩
end Go.Proofs.YtfaibifilpfikaaGreatDoor.N11

set_option linter.unusedVariables false
set_option linter.unusedSimpArgs false
namespace Go.Proofs.YtfaibifilpfikaaGreatDoor.X2
open Go.RowKit Go.Lib Go.Proofs.YtfaibifilpfikaaGreatDoorW.PrintWords Go.Proofs.YtfaibifilpfikaaGreatDoor.N9 Go.Proofs.YtfaibifilpfikaaGreatDoor.N11

theorem var_below {n : String} {g : Nat} {W W' : World} {cs : Array Value} (h : Below W.heap.size W W') (hg : Tryz.prog.globalNamed n = some g) (hv : W.var? Tryz.prog n = some cs) : W'.var? Tryz.prog n = some cs := by
  unfold World.var? at hv ⊢
  simp only [hg, Option.bind_some] at hv ⊢
  have hlt : g < W.heap.size := by
    cases e : W.heap[g]? with
    | none => rw [e] at hv; cases hv
    | some o => exact (Array.getElem?_eq_some_iff.1 e).1
  rw [h.block g hlt]
  exact hv
/-- What the world holds of Go's library. -/
structure Tabs (w : World) : Prop where
  pow : Pow w
  errR : ∃ tp p, w.var? Tryz.prog "strconv.ErrRange" = some #[.iface tp p]
  errS : ∃ tp p, w.var? Tryz.prog "strconv.ErrSyntax" = some #[.iface tp p]
theorem Tabs.below {w w' : World} (h : Tabs w) (hb : Below w.heap.size w w') : Tabs w' :=
  ⟨h.pow.below hb, let ⟨tp, p, e⟩ := h.errR; ⟨tp, p, var_below (g := 1) hb (by kernel_rfl) e⟩, let ⟨tp, p, e⟩ := h.errS; ⟨tp, p, var_below (g := 0) hb (by kernel_rfl) e⟩⟩
theorem Tabs.drew {w : World} (h : Tabs w) : Tabs w.drew := h.below (below_drew (Below.refl _ _))
theorem Tabs.drewN {w : World} (n : Nat) (h : Tabs w) : Tabs (w.drewN n) := h.below (pw_below_drewN (Below.refl _ _) n)

def natural_Gcd.f (a0 a1 : ByteArray) : Option (ByteArray × Int) := some (resS a0 a1 (Nat.gcd (Rq.nv a0) (Rq.nv a1)), resE a0 a1 (Nat.gcd (Rq.nv a0) (Rq.nv a1)))
theorem natural_Gcd.calls (a0 a1 : ByteArray) (r1 : ByteArray) (r2 : Int) (w : World) (h : natural_Gcd.f a0 a1 = some (r1, r2)) (hT : Tabs w) :
    Calls Tryz.prog 68 #[.string a0, .string a1] w fun e w' => e = .returned (.tuple #[.string r1, .int .i64 r2]) ∧ Below w.heap.size w w' := by
  obtain ⟨rfl, rfl⟩ := Prod.mk.injEq .. ▸ Option.some.inj h
  exact gcd_calls a0 a1 w hT.pow
def natural_Add.f (a0 a1 : ByteArray) : Option (ByteArray × Int) := some (resS a0 a1 (Rq.nv a0 + Rq.nv a1), resE a0 a1 (Rq.nv a0 + Rq.nv a1))
theorem natural_Add.calls (a0 a1 : ByteArray) (r1 : ByteArray) (r2 : Int) (w : World) (h : natural_Add.f a0 a1 = some (r1, r2)) (hT : Tabs w) :
    Calls Tryz.prog 64 #[.string a0, .string a1] w fun e w' => e = .returned (.tuple #[.string r1, .int .i64 r2]) ∧ Below w.heap.size w w' := by
  obtain ⟨rfl, rfl⟩ := Prod.mk.injEq .. ▸ Option.some.inj h
  exact add_calls a0 a1 w hT.pow
def natural_Mul.f (a0 a1 : ByteArray) : Option (ByteArray × Int) := some (resS a0 a1 (Rq.nv a0 * Rq.nv a1), resE a0 a1 (Rq.nv a0 * Rq.nv a1))
theorem natural_Mul.calls (a0 a1 : ByteArray) (r1 : ByteArray) (r2 : Int) (w : World) (h : natural_Mul.f a0 a1 = some (r1, r2)) (hT : Tabs w) :
    Calls Tryz.prog 159 #[.string a0, .string a1] w fun e w' => e = .returned (.tuple #[.string r1, .int .i64 r2]) ∧ Below w.heap.size w w' := by
  obtain ⟨rfl, rfl⟩ := Prod.mk.injEq .. ▸ Option.some.inj h
  exact mul_calls a0 a1 w hT.pow
def natural_Sub.f (a0 a1 : ByteArray) : Option (ByteArray × Int) := some (subS a0 a1, subE a0 a1)
theorem natural_Sub.calls (a0 a1 : ByteArray) (r1 : ByteArray) (r2 : Int) (w : World) (h : natural_Sub.f a0 a1 = some (r1, r2)) (hT : Tabs w) :
    Calls Tryz.prog 119 #[.string a0, .string a1] w fun e w' => e = .returned (.tuple #[.string r1, .int .i64 r2]) ∧ Below w.heap.size w w' := by
  obtain ⟨rfl, rfl⟩ := Prod.mk.injEq .. ▸ Option.some.inj h
  exact sub_calls a0 a1 w hT.pow
def natural_Compare.f (a0 a1 : ByteArray) : Option (Int × Int) := some (cmpR a0 a1, cmpE a0 a1)
theorem natural_Compare.calls (a0 a1 : ByteArray) (r1 : Int) (r2 : Int) (w : World) (h : natural_Compare.f a0 a1 = some (r1, r2)) (hT : Tabs w) :
    Calls Tryz.prog 118 #[.string a0, .string a1] w fun e w' => e = .returned (.tuple #[.int .i64 r1, .int .i64 r2]) ∧ Below w.heap.size w w' := by
  obtain ⟨rfl, rfl⟩ := Prod.mk.injEq .. ▸ Option.some.inj h
  exact compare_calls a0 a1 w
def natural_Div.f (a0 a1 : ByteArray) : Option (ByteArray × ByteArray × Int) := some (divQ a0 a1, divR a0 a1, divE a0 a1)
theorem natural_Div.calls (a0 a1 : ByteArray) (r1 r2 : ByteArray) (r3 : Int) (w : World) (h : natural_Div.f a0 a1 = some (r1, r2, r3)) (hT : Tabs w) :
    Calls Tryz.prog 63 #[.string a0, .string a1] w fun e w' => e = .returned (.tuple #[.string r1, .string r2, .int .i64 r3]) ∧ Below w.heap.size w w' := by
  have h := Option.some.inj h
  rw [Prod.mk.injEq, Prod.mk.injEq] at h
  obtain ⟨rfl, rfl, rfl⟩ := h
  exact div_calls a0 a1 w hT.pow
def strings_CutPrefix.f (a0 a1 : ByteArray) : Option (ByteArray × Bool) := some (⟨(Lib.trimPrefix a0.data.toList a1.data.toList).toArray⟩, Lib.hasPrefix a0.data.toList a1.data.toList)
theorem strings_CutPrefix.calls (a0 a1 : ByteArray) (r1 : ByteArray) (r2 : Bool) (w : World) (h : strings_CutPrefix.f a0 a1 = some (r1, r2)) :
    Calls Tryz.prog 87 #[.string a0, .string a1] w fun e w' => e = .returned (.tuple #[.string r1, .bool r2]) ∧ Drawn0 w w' := by
  have h := Option.some.inj h
  rw [Prod.mk.injEq] at h
  obtain ⟨rfl, rfl⟩ := h
  exact (Tryz.strings_CutPrefix a0 a1 w).mono fun e w' ⟨he, hw⟩ => ⟨he, by subst hw; exact Drawn0.refl _⟩
theorem lays219 : Lays.n219 Tryz.prog Tryz.lays220_ren := { Tryz.lays220 with }
def stringslite_Index.f (a0 : ByteArray) (a1 : ByteArray) : Option Int := match a1.data.toList with | [c] => some (Lib.indexByte a0.data.toList c) | _ => none
theorem stringslite_Index.calls (a0 : ByteArray) (a1 : ByteArray) (r : Int) (w : World) (h : stringslite_Index.f a0 a1 = some r) :
    Calls Tryz.prog 164 #[.string a0, .string a1] w fun e w' => e = .returned (.int .i64 r) ∧ Drawn0 w w' := by
  obtain ⟨⟨l⟩⟩ := a1
  unfold stringslite_Index.f at h
  split at h
  · rename_i c hc
    simp only at hc
    subst hc
    obtain rfl := Option.some.inj h
    exact (Any.stringslite_Index_one lays219 a0 c w).mono fun e w' ⟨he, hw⟩ => ⟨he, by subst hw; exact Drawn0.refl _⟩
  · cases h
end Go.Proofs.YtfaibifilpfikaaGreatDoor.X2
