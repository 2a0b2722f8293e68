/- Package natural's gcd and add, walked; conditions: at most 3999 limbs. -/
import Derived.Test.YtfaibifilpfikaaGreatDoorA
import Derived.Test.YtfaibifilpfikaaGreatDoorMa
import Derived.Laws.Bits64
import Derived.RangeFuncNested
import Derived.RangeFuncBound
import Derived.RangeFuncCalls
import Derived.RangeFuncLeaves
import Derived.RangeFuncBox
import Derived.Shelf.Abstract
import Derived.Shelf.RegionOpen
import Derived.WalkKit
import Derived.OwnWalkIn
import Derived.TacticsInMore
import Derived.LoopNIn
import Derived.LoopIn
import Derived.Lib.Hide
import Derived.Outline
import Derived.OrdersIn
import Derived.Test.YtfaibifilpfikaaGreatDoorWo
set_option linter.unusedVariables false
set_option linter.unusedSimpArgs false
namespace Go.Proofs.YtfaibifilpfikaaGreatDoor.N1
open Go.RowKit Go.Lib Go.Proofs.YtfaibifilpfikaaGreatDoorW.PrintWords Go.Proofs.YtfaibifilpfikaaGreatDoor.A

def u64s (l : List Nat) : List Int := l.map (fun (n : Nat) => (n : Int))
theorem u64s_length (l : List Nat) : (u64s l).length = l.length := List.length_map ..
theorem rd_u64s (l : List Nat) (i : Nat) : rd (u64s l) (i : Int) = ((l.getD i 0 : Nat) : Int) := by
  unfold rd u64s
  rw [Int.toNat_natCast, List.getD_eq_getElem?_getD, List.getElem?_map, List.getD_eq_getElem?_getD]
  cases l[i]? <;> rfl
theorem u64s_take (l : List Nat) (i : Nat) : (u64s l).take i = u64s (l.take i) := by unfold u64s; rw [List.map_take]
theorem u64s_append (l m : List Nat) : u64s (l ++ m) = u64s l ++ u64s m := by unfold u64s; rw [List.map_append]
theorem u64s_zeros (k : Nat) : u64s (List.replicate k 0) = List.replicate k 0 := by unfold u64s; rw [List.map_replicate]; rfl
theorem set_mid (done rest : List Nat) (z v : Nat) (i : Nat) (h : done.length = i) : (u64s (done ++ z :: rest)).set i (v : Int) = u64s ((done ++ [v]) ++ rest) := by
  subst h
  unfold u64s
  rw [List.map_append, List.map_cons, List.set_append_right _ _ (by simp), List.length_map, Nat.sub_self, List.set_cons_zero, List.append_assoc, List.map_append, List.singleton_append, List.map_cons]
theorem trim_snoc (l : List Nat) (x : Nat) : Nb.trim (l ++ [x]) = if x = 0 then Nb.trim l else l ++ [x] := by
  induction l with
  | nil =>
    show (if Nb.trim [] = [] ∧ x = 0 then [] else x :: Nb.trim []) = _
    by_cases h : x = 0
    · rw [if_pos ⟨rfl, h⟩, if_pos h]; rfl
    · rw [if_neg (fun e => h e.2), if_neg h]; rfl
  | cons a r ih =>
    rw [List.cons_append, Nb.trim, ih]
    by_cases h : x = 0
    · rw [if_pos h, if_pos h]; rfl
    · rw [if_neg h, if_neg h, if_neg (by simp)]
theorem trim_l (l : List Nat) : l.length ≤ 1000000 → ∀ k, l.length < k → natural_number_trim.l0 k (u64s l) = some (u64s (Nb.trim l)) := by
  refine Nb.snoc_ind (P := fun l => l.length ≤ 1000000 → ∀ k, l.length < k → natural_number_trim.l0 k (u64s l) = some (u64s (Nb.trim l))) ?_ ?_ l
  · intro _ k hk
    obtain ⟨k, rfl⟩ : ∃ m, k = m + 1 := ⟨k - 1, by omega⟩
    simp only [natural_number_trim.l0]
    rw [if_neg (by simp [u64s])]
    rfl
  · intro r x ih hl k hk
    obtain ⟨k, rfl⟩ : ∃ m, k = m + 1 := ⟨k - 1, by omega⟩
    rw [List.length_append, List.length_singleton] at hl hk
    have hlen : ((u64s (r ++ [x])).length : Int) = (r.length : Int) + 1 := by rw [u64s_length, List.length_append, List.length_singleton]; omega
    have hw : wrap64 ((r.length : Int) + 1 - 1) = (r.length : Int) := by unfold wrap64; omega
    have hx : (r ++ [x]).getD r.length 0 = x := by simp [List.getD_eq_getElem?_getD]
    simp only [natural_number_trim.l0]
    rw [hlen, hw, rd_u64s, hx, if_pos (by omega), if_pos (by omega), if_pos (by omega), trim_snoc, Int.toNat_natCast, u64s_take, List.take_left]
    by_cases h : x = 0
    · rw [if_pos (by omega), if_pos (by omega), if_pos h]
      exact ih (by omega) k (by omega)
    · rw [if_neg (by omega), if_neg h]
theorem trim_f (k : Nat) (l : List Nat) (hl : l.length ≤ 1000000) (hk : l.length < k) : natural_number_trim.f k (u64s l) = some (u64s (Nb.trim l)) := trim_l l hl k hk

theorem headD_drop (l : List Nat) (i : Nat) : (l.drop i).headD 0 = l.getD i 0 := by
  rw [List.headD_eq_head?_getD, List.head?_drop, List.getD_eq_getElem?_getD]
theorem w1 {i : Nat} (h : i ≤ 1000000000000) : wrap64 ((i : Int) + 1) = ((i + 1 : Nat) : Int) := by unfold wrap64; omega
theorem wrap_sub1 {x b y : Nat} {t : Int} (hx : x < 1000000000) (hb : b ≤ 1) (hy : y < 1000000000) (ht : t = ((b + y : Nat) : Int)) (hc : x < b + y) : IntKind.u64.wrap ((IntKind.u64.wrap ((x : Int) + 1000000000)) - t) = ((x + 1000000000 - (b + y) : Nat) : Int) := by
  rw [IntKind.wrap_u64, IntKind.wrap_u64]; omega
theorem wrap_sub0 {x b y : Nat} {t : Int} (hx : x < 1000000000) (hb : b ≤ 1) (hy : y < 1000000000) (ht : t = ((b + y : Nat) : Int)) (hc : ¬ x < b + y) : IntKind.u64.wrap ((x : Int) - t) = ((x - (b + y) : Nat) : Int) := by
  rw [IntKind.wrap_u64]; omega
theorem sub_l (xs ys : List Nat) (hx : Nb.Ok xs) (hy : Nb.Ok ys) (hl : xs.length ≤ 1000000) : ∀ (d k i b : Nat) (done : List Nat), i ≤ xs.length → xs.length - i = d → done.length = i → b ≤ 1 → xs.length + d + 2 < k →
    natural_number_sub.l0 k (u64s ys) (u64s (done ++ List.replicate d 0)) (b : Int) (u64s xs) ((u64s xs).length : Int) (i : Int) = some (u64s (Nb.trim (done ++ Nb.subL b (xs.drop i) (ys.drop i)))) := by
  intro d
  induction d with
  | zero =>
    intro k i b done hi hd hdl hb hk
    obtain ⟨k, rfl⟩ : ∃ m, k = m + 1 := ⟨k - 1, by omega⟩
    simp only [natural_number_sub.l0]
    rw [u64s_length, if_neg (by omega), List.replicate_zero, List.append_nil, trim_f k done (by omega) (by omega), List.drop_eq_nil_of_le (by omega), Nb.subL, List.append_nil]
    rfl
  | succ d ih =>
    intro k i b done hi hd hdl hb hk
    obtain ⟨k, rfl⟩ : ∃ m, k = m + 1 := ⟨k - 1, by omega⟩
    have hlt : i < xs.length := by omega
    have hxd : xs.drop i = xs[i] :: xs.drop (i + 1) := List.drop_eq_getElem_cons hlt
    have hxi := hx _ (List.getElem_mem hlt)
    have hg : xs.getD i 0 = xs[i] := by rw [List.getD_eq_getElem?_getD, List.getElem?_eq_getElem hlt]; rfl
    have hyd := (hy.drop i).headD
    have hyt : (ys.drop i).tail = ys.drop (i + 1) := by rw [List.tail_drop]
    have hol : (u64s (done ++ List.replicate (d + 1) 0)).length = xs.length := by rw [u64s_length, List.length_append, List.length_replicate]; omega
    have hL : (u64s xs).length = xs.length := u64s_length xs
    simp only [natural_number_sub.l0]
    rw [hol, hL, if_pos (by omega), if_pos (by omega), if_pos (by omega), rd_u64s xs, hg, u64s_length ys, hxd, Nb.subL, hyt, Int.toNat_natCast, w1 (by omega), List.replicate_succ]
    rw [hL] at ih
    clear hg hxd hyt
    have hcond : (i : Int) < (xs.length : Int) := by omega
    have fin : ∀ t : Int, t = ((b + (ys.drop i).headD 0 : Nat) : Int) →
        (if ((xs[i] : Nat) : Int) < t then (if (i : Int) < (xs.length : Int) then natural_number_sub.l0 k (u64s ys) ((u64s (done ++ 0 :: List.replicate d 0)).set i (IntKind.u64.wrap ((IntKind.u64.wrap (((xs[i] : Nat) : Int) + 1000000000)) - t))) 1 (u64s xs) (xs.length : Int) ((i + 1 : Nat) : Int) else none)
          else (if (i : Int) < (xs.length : Int) then natural_number_sub.l0 k (u64s ys) ((u64s (done ++ 0 :: List.replicate d 0)).set i (IntKind.u64.wrap (((xs[i] : Nat) : Int) - t))) 0 (u64s xs) (xs.length : Int) ((i + 1 : Nat) : Int) else none)) =
        some (u64s (Nb.trim (done ++ ((if xs[i] < b + (ys.drop i).headD 0 then xs[i] + 1000000000 - (b + (ys.drop i).headD 0) else xs[i] - (b + (ys.drop i).headD 0)) :: Nb.subL (if xs[i] < b + (ys.drop i).headD 0 then 1 else 0) (xs.drop (i + 1)) (ys.drop (i + 1)))))) := by
      intro t ht
      generalize (ys.drop i).headD 0 = y at ht hyd ⊢
      generalize xs[i] = x at hxi ⊢
      rw [if_pos hcond, if_pos hcond]
      by_cases hc : x < b + y
      · have hv := wrap_sub1 hxi hb hyd ht hc
        rw [if_pos (by omega), if_pos hc, if_pos hc, hv, set_mid _ _ _ _ _ hdl]
        have := ih k (i + 1) 1 (done ++ [x + 1000000000 - (b + y)]) (by omega) (by omega) (by simp; omega) (by omega) (by omega)
        rw [show ((1 : Nat) : Int) = 1 from rfl] at this
        rw [this, List.append_assoc, List.singleton_append]
      · have hv := wrap_sub0 hxi hb hyd ht hc
        rw [if_neg (by omega), if_neg hc, if_neg hc, hv, set_mid _ _ _ _ _ hdl]
        have := ih k (i + 1) 0 (done ++ [x - (b + y)]) (by omega) (by omega) (by simp; omega) (by omega) (by omega)
        rw [show ((0 : Nat) : Int) = 0 from rfl] at this
        rw [this, List.append_assoc, List.singleton_append]
    by_cases hyi : i < ys.length
    · rw [if_pos (by omega), rd_u64s ys, ← headD_drop]
      exact fin _ (by rw [IntKind.wrap_u64]; omega)
    · rw [if_neg (by omega)]
      refine fin _ ?_
      rw [headD_drop, List.getD_eq_getElem?_getD, List.getElem?_eq_none (by omega)]
      simp
theorem sub_f (k : Nat) (xs ys : List Nat) (hx : Nb.Ok xs) (hy : Nb.Ok ys) (hl : xs.length ≤ 1000000) (hk : 2 * xs.length + 2 < k) : natural_number_sub.f k (u64s xs) (u64s ys) = some (u64s (Nb.trim (Nb.subL 0 xs ys))) := by
  unfold natural_number_sub.f
  have hL : (u64s xs).length = xs.length := u64s_length xs
  rw [hL, Int.toNat_natCast, if_pos (by omega), if_pos (by omega)]
  have := sub_l xs ys hx hy hl xs.length k 0 0 [] (by omega) (by omega) rfl (by omega) (by omega)
  rw [List.nil_append, List.nil_append, u64s_zeros, hL] at this
  exact this
theorem mul_step {o a b c : Nat} (ho : o < 1000000000) (ha : a < 1000000000) (hb : b < 1000000000) (hc : c < 1000000000) :
    IntKind.u64.wrap (IntKind.u64.wrap ((o : Int) + IntKind.u64.wrap ((a : Int) * (b : Int))) + (c : Int)) = ((o + a * b + c : Nat) : Int) := by
  have h1 : a * b ≤ 999999999 * 999999999 := Nat.mul_le_mul (by omega) (by omega)
  rw [← Int.natCast_mul]
  generalize a * b = p at h1 ⊢
  rw [IntKind.wrap_u64, IntKind.wrap_u64, IntKind.wrap_u64]
  omega
theorem tmod_nat (n : Nat) : Int.tmod (n : Int) 1000000000 = ((n % 1000000000 : Nat) : Int) := by
  rw [Int.tmod_eq_emod_of_nonneg (by omega)]; omega
theorem tdiv_nat {n : Nat} (h : n < 1000000000000000000) : IntKind.u64.wrap (Int.tdiv (n : Int) 1000000000) = ((n / 1000000000 : Nat) : Int) := by
  rw [Int.tdiv_eq_ediv_of_nonneg (by omega), IntKind.wrap_u64]; omega
theorem w2 {i j : Nat} (h : i + j ≤ 1000000000000) : wrap64 ((i : Int) + (j : Int)) = ((i + j : Nat) : Int) := by unfold wrap64; omega
theorem getD_mid (pre r : List Nat) (o n : Nat) (h : pre.length = n) : (pre ++ o :: r).getD n 0 = o := by
  subst h
  rw [List.getD_eq_getElem?_getD, List.getElem?_append_right (Nat.le_refl _), Nat.sub_self]; rfl
theorem mul_l1 (xs ms : List Nat) (hm : Nb.Ok ms) (i a : Nat) (ha : a < 1000000000) (hi : i + ms.length ≤ 1000000) : ∀ (d k j c : Nat) (pre os : List Nat), j ≤ ms.length → ms.length - j = d → pre.length = i + j → d < os.length → c < 1000000000 → Nb.Ok os →
    natural_number_mul.l1 (d + 1 + k) (u64s ms) (u64s (pre ++ os)) (i : Int) (a : Int) (c : Int) (u64s xs) ((u64s xs).length : Int) (i : Int) (u64s ms) ((u64s ms).length : Int) (j : Int) =
      natural_number_mul.l0 k (u64s ms) (u64s (pre ++ Nb.rowL a c os (ms.drop j))) (u64s xs) ((u64s xs).length : Int) ((i + 1 : Nat) : Int) := by
  have hL : (u64s ms).length = ms.length := u64s_length ms
  intro d
  induction d with
  | zero =>
    intro k j c pre os hj hd hp ho hc hok
    rw [show 0 + 1 + k = k + 1 by omega]
    simp only [natural_number_mul.l1]
    cases os with
    | nil => simp at ho
    | cons o r =>
      have hol : (u64s (pre ++ o :: r)).length = i + ms.length + (r.length + 1) := by rw [u64s_length, List.length_append, List.length_cons]; omega
      rw [hL, if_neg (by omega), w2 (by omega), hol, if_pos (by omega), if_pos (by omega), w1 (by omega), Int.toNat_natCast, set_mid pre r o c (i + ms.length) (by omega), List.drop_eq_nil_of_le (by omega), Nb.rowL, List.tail_cons, List.append_assoc, List.singleton_append]
  | succ d ih =>
    intro k j c pre os hj hd hp ho hc hok
    have hlt : j < ms.length := by omega
    have hxd : ms.drop j = ms[j] :: ms.drop (j + 1) := List.drop_eq_getElem_cons hlt
    have hbj := hm _ (List.getElem_mem hlt)
    have hg : ms.getD j 0 = ms[j] := by rw [List.getD_eq_getElem?_getD, List.getElem?_eq_getElem hlt]; rfl
    rw [show d + 1 + 1 + k = (d + 1 + k) + 1 by omega]
    simp only [natural_number_mul.l1]
    cases os with
    | nil => simp at ho
    | cons o r =>
      have hol : (u64s (pre ++ o :: r)).length = i + j + (r.length + 1) := by rw [u64s_length, List.length_append, List.length_cons]; omega
      have hcl := Nb.carry_lt hok.head ha hbj hc
      rw [hL, if_pos (by omega), if_pos (by omega), if_pos (by omega), w2 (by omega), hol, if_pos (by omega), if_pos (by omega), w1 (by omega), Int.toNat_natCast, rd_u64s, getD_mid pre r o (i + j) hp, rd_u64s, hg,
        mul_step hok.head ha hbj hc, tmod_nat, tdiv_nat hcl.1, set_mid pre r o _ (i + j) hp, hxd, Nb.rowL, List.headD_cons, List.tail_cons]
      rw [hL] at ih
      have := ih k (j + 1) ((o + a * ms[j] + c) / 1000000000) (pre ++ [(o + a * ms[j] + c) % 1000000000]) r (by omega) (by omega) (by rw [List.length_append, List.length_singleton]; omega) (by rw [List.length_cons] at ho; omega) hcl.2 hok.tail
      rw [this, List.append_assoc pre, List.singleton_append]
theorem mul_l0 (xs ms : List Nat) (hx : Nb.Ok xs) (hm : Nb.Ok ms) (hl : xs.length + ms.length ≤ 1000000) : ∀ (d k i : Nat) (pre os : List Nat), i ≤ xs.length → xs.length - i = d → pre.length = i → d + ms.length ≤ os.length → i + os.length ≤ 1000000 → Nb.Ok os → d * (ms.length + 2) + os.length + i + 2 < k →
    natural_number_mul.l0 k (u64s ms) (u64s (pre ++ os)) (u64s xs) ((u64s xs).length : Int) (i : Int) = some (u64s (Nb.trim (pre ++ Nb.mulL ms (xs.drop i) os))) := by
  have hL : (u64s xs).length = xs.length := u64s_length xs
  intro d
  induction d with
  | zero =>
    intro k i pre os hi hd hp ho ho2 hok hk
    obtain ⟨k, rfl⟩ : ∃ m, k = m + 1 := ⟨k - 1, by omega⟩
    simp only [natural_number_mul.l0]
    rw [hL, if_neg (by omega), trim_f k (pre ++ os) (by rw [List.length_append]; omega) (by rw [List.length_append]; omega), List.drop_eq_nil_of_le (by omega), Nb.mulL]
    rfl
  | succ d ih =>
    intro k i pre os hi hd hp ho ho2 hok hk
    have hlt : i < xs.length := by omega
    have hxd : xs.drop i = xs[i] :: xs.drop (i + 1) := List.drop_eq_getElem_cons hlt
    have hai := hx _ (List.getElem_mem hlt)
    have hg : xs.getD i 0 = xs[i] := by rw [List.getD_eq_getElem?_getD, List.getElem?_eq_getElem hlt]; rfl
    have hk' : (d + 1) * (ms.length + 2) = d * (ms.length + 2) + (ms.length + 2) := Nat.succ_mul _ _
    obtain ⟨k, rfl⟩ : ∃ m, k = (ms.length + 1 + m) + 1 := ⟨k - (ms.length + 2), by omega⟩
    have hrow := mul_l1 xs ms hm i xs[i] hai (by omega) ms.length k 0 0 pre os (by omega) (by omega) (by omega) (by omega) (by omega) hok
    rw [hL, show ((0 : Nat) : Int) = 0 from rfl, List.drop_zero] at hrow
    simp only [natural_number_mul.l0]
    rw [hL, if_pos (by omega), if_pos (by omega), if_pos (by omega), rd_u64s, hg, hrow, hxd, Nb.mulL]
    have hlen := Nb.length_rowL xs[i] ms os 0 (by omega)
    have hok' := Nb.ok_rowL xs[i] hai ms os 0 (by omega) hm hok
    cases hr : Nb.rowL xs[i] 0 os ms with
    | nil => rw [hr] at hlen; simp at hlen; omega
    | cons r rs =>
      rw [hr] at hlen hok'
      rw [List.length_cons] at hlen
      rw [hL] at ih
      have := ih k (i + 1) (pre ++ [r]) rs (by omega) (by omega) (by rw [List.length_append, List.length_singleton]; omega) (by omega) (by omega) hok'.tail (by omega)
      rw [List.append_assoc, List.append_assoc, List.singleton_append, List.singleton_append] at this
      exact this
theorem mul_f (k : Nat) (xs ms : List Nat) (hx : Nb.Ok xs) (hm : Nb.Ok ms) (hl : xs.length + ms.length ≤ 1000000) (hk : xs.length * (ms.length + 2) + xs.length + ms.length + 2 < k) : natural_number_mul.f k (u64s xs) (u64s ms) = some (u64s (Nb.trim (Nb.mulL ms xs (List.replicate (xs.length + ms.length) 0)))) := by
  unfold natural_number_mul.f
  have hL : (u64s xs).length = xs.length := u64s_length xs
  have hM : (u64s ms).length = ms.length := u64s_length ms
  have hok : Nb.Ok (List.replicate (xs.length + ms.length) 0) := fun x hx => by rw [List.eq_of_mem_replicate hx]; decide
  rw [hL, hM, w2 (by omega), Int.toNat_natCast, if_pos (by omega), if_pos (by omega)]
  have := mul_l0 xs ms hx hm hl xs.length k 0 [] (List.replicate (xs.length + ms.length) 0) (by omega) (by omega) rfl (by rw [List.length_replicate]; omega) (by rw [List.length_replicate]; omega) hok (by rw [List.length_replicate]; omega)
  rw [List.nil_append, List.nil_append, u64s_zeros, hL] at this
  exact this
/-! ### The contracts -/
/-- A row of limbs, in memory. -/
def RowAt (w : World) (v : Value) (l : List Nat) : Prop := ∃ A c, v = .slice A (u64s l).length c ∧ (u64s l).length ≤ c ∧ Kd.C (Kd.int .u64) w A (u64s l).length (u64s l)
/-- A number, in memory. -/
def NumAt (w : World) (v : Value) (n : Nat) : Prop := RowAt w v (Nb.limbs n)
theorem RowAt.below {w w' : World} {v : Value} {l : List Nat} (h : RowAt w v l) (hb : Below w.heap.size w w') : RowAt w' v l := by
  obtain ⟨A, c, hv, hl, hC⟩ := h
  exact ⟨A, c, hv, hl, Kd.C_below hC hb⟩
theorem RowAt.nil (w : World) : RowAt w (.slice none 0 0) [] := ⟨none, 0, rfl, Nat.le_refl _, Kd.C_nil _ _⟩
theorem RowAt.of_V {e base : Nat} {w : World} {ok : Nat → Prop} {v : Value} {l : List Nat} (h : Kd.V (Kd.int .u64) e w base ok v (u64s l)) : RowAt w v l := by
  obtain ⟨A, c, hv, hl, hf⟩ := h
  exact ⟨A, c, hv, hl, Kd.F_now hf⟩
theorem NumAt.below {w w' : World} {v : Value} {n : Nat} (h : NumAt w v n) (hb : Below w.heap.size w w') : NumAt w' v n := RowAt.below h hb
theorem trimS (l : List Nat) (hl : l.length ≤ 100000) (w : World) (v : Value) (h : RowAt w v l) :
    Calls Tryz.prog 134 #[v] w fun e w' => ∃ v', e = .returned v' ∧ RowAt w' v' (Nb.trim l) ∧ Below w.heap.size w w' := by
  obtain ⟨A, c, rfl, hc, hC⟩ := h
  refine (natural_number_trim.calls (l.length + 1) (fun k => k < w.heap.size) A c (u64s l) _ w (Kd.V_mk hc (Kd.C_F (Kd.heap_int _) hC)) (trim_f _ l (by omega) (by omega))).mono ?_
  rintro e w' ⟨v', rfl, hv, hb⟩
  exact ⟨v', rfl, RowAt.of_V hv, hb⟩
/-- At most 4000 limbs: the numbers that are spoken of here. -/
def Few (n : Nat) : Prop := (Nb.limbs n).length ≤ 4000
theorem subS (a b : Nat) (ha : Few a) (hab : b ≤ a) (w : World) (u v : Value) (hu : NumAt w u a) (hv : NumAt w v b) :
    Calls Tryz.prog 140 #[u, v] w fun e w' => ∃ v', e = .returned v' ∧ NumAt w' v' (a - b) ∧ Below w.heap.size w w' := by
  obtain ⟨A, c, rfl, hc, hC⟩ := hu
  obtain ⟨B, d, rfl, hd, hD⟩ := hv
  unfold Few at ha
  refine (natural_number_sub.calls (2 * (Nb.limbs a).length + 3) A c (u64s (Nb.limbs a)) B d (u64s (Nb.limbs b)) _ w hC hc hD hd (sub_f _ _ _ (Nb.ok_limbs a) (Nb.ok_limbs b) (by omega) (by omega))).mono ?_
  rintro e w' ⟨v', rfl, hv, hb⟩
  rw [Nb.sub_limbs a b hab] at hv
  exact ⟨v', rfl, RowAt.of_V hv, hb⟩
theorem mulS (a b : Nat) (ha : Few a) (hb : Few b) (w : World) (u v : Value) (hu : NumAt w u a) (hv : NumAt w v b) :
    Calls Tryz.prog 139 #[u, v] w fun e w' => ∃ v', e = .returned v' ∧ NumAt w' v' (a * b) ∧ Below w.heap.size w w' := by
  obtain ⟨A, c, rfl, hc, hC⟩ := hu
  obtain ⟨B, d, rfl, hd, hD⟩ := hv
  unfold Few at ha hb
  refine (natural_number_mul.calls ((Nb.limbs a).length * ((Nb.limbs b).length + 2) + (Nb.limbs a).length + (Nb.limbs b).length + 3) A c (u64s (Nb.limbs a)) B d (u64s (Nb.limbs b)) _ w hC hc hD hd (mul_f _ _ _ (Nb.ok_limbs a) (Nb.ok_limbs b) (by omega) (by omega))).mono ?_
  rintro e w' ⟨v', rfl, hv, hb⟩
  rw [Nb.mul_limbs a b] at hv
  exact ⟨v', rfl, RowAt.of_V hv, hb⟩
end Go.Proofs.YtfaibifilpfikaaGreatDoor.N1

set_option linter.unusedVariables false
set_option linter.unusedSimpArgs false
namespace Go.Proofs.YtfaibifilpfikaaGreatDoor.Bw
open Go.RowKit Go.Shelf Go.Proofs.YtfaibifilpfikaaGreatDoorW.PrintWords Go.Proofs.YtfaibifilpfikaaGreatDoorW.PrintLast Go.Proofs.YtfaibifilpfikaaGreatDoor.N1
attribute [local go_sem] Oper.semAt_some

/-- What the iterator reads: its box, and the limbs. -/
structure Rf (bs : Nat) (A : Option Addr) (c : Nat) (xs : List Nat) (w : World) : Prop where
  box : w.heap[bs]? = some (.cells #[.slice A (u64s xs).length c] 105 (0, 0))
  row : Kd.C (Kd.int .u64) w A (u64s xs).length (u64s xs)
theorem Rf.below {bs : Nat} {A : Option Addr} {c : Nat} {xs : List Nat} {w w' : World} (h : Rf bs A c xs w) (hb : Below w.heap.size w w') : Rf bs A c xs w' :=
  ⟨blk_below h.box hb, Kd.C_below h.row hb⟩
def idx (v : Value) : Nat := match v with | .int _ i => (i + 1).toNat | _ => 0
set_option maxHeartbeats 1000000 in
theorem back1 (l bs : Nat) (A : Option Addr) (c : Nat) (xs : List Nat) (hs : xs.length ≤ 1000000) (J Jx : Nat → World → Prop)
    (hY : ∀ j W, J (j + 1) W → Rf bs A c xs W → j < xs.length → YieldAt Fence.wide 0 Tryz.prog l #[.int .i64 (j : Int), .int .u64 ((xs[j]?.getD 0 : Nat) : Int)] W fun e W' =>
        (e = .returned (.bool true) ∧ J j W' ∧ Rf bs A c xs W') ∨ (e = .returned (.bool false) ∧ Jx j W'))
    (W : World) (hR : Rf bs A c xs W) (h0 : J xs.length W) :
    Calls Tryz.prog 172 #[.func (.yield l) #[] #[], .pointer (some ⟨bs, 0, none⟩)] W fun e W' => (∃ v, e = .returned v) ∧ (J 0 W' ∨ (∃ j, Jx j W')) := by
  refine (callsIn_wide (n := 1)).1 ?_
  refine callsIn_of_wp Tryz.func172 rfl trivial ?_ rfl
  simp only [Tryz.ntmps172, List.size_toArray, List.length_cons, List.length_nil, Nat.reduceAdd, Nat.reduceSub, Array.replicate_succ, Array.replicate_zero, List.push_toArray, List.append_toArray, List.nil_append, List.cons_append]
  have hc : W.cell? ⟨bs, 0, none⟩ = some (.slice A (u64s xs).length c) := (blk_cell hR.box 0).trans rfl
  have hL : (u64s xs).length = xs.length := u64s_length xs
  gi_wp2
  gi_loopw [3] (fun i wr => ∃ j : Nat, i = .int .i64 ((j : Int) - 1) ∧ j ≤ xs.length ∧ Rf bs A c xs wr ∧ J j wr) (fun i _ => idx i)
  case atStart => exact ⟨xs.length, rfl, Nat.le_refl _, hR, h0⟩
  case round =>
    obtain ⟨j, rfl, hj, hRr, hJr⟩ := hrel
    clear hR h0 hc
    have hc : wr.cell? ⟨bs, 0, none⟩ = some (.slice A (u64s xs).length c) := (blk_cell hRr.box 0).trans rfl
    cases j with
    | zero =>
      rw [show ((0 : Nat) : Int) - 1 = -1 from rfl]
      gi_wp2
      go_end0
      exact ⟨⟨_, rfl⟩, .inl hJr⟩
    | succ j =>
      rw [show ((j + 1 : Nat) : Int) - 1 = (j : Int) by omega]
      obtain ⟨ad, rfl, hcell⟩ := Kd.at_int hRr.row (j : Int) (by omega) (by rw [hL]; omega)
      rw [rd_u64s, Int.toNat_natCast, List.getD_eq_getElem?_getD] at hcell
      obtain ⟨fn, tmps, assign, body, hy, hRd⟩ := hY j wr hJr hRr (by omega)
      have hjl : j < (u64s xs).length := by rw [hL]; omega
      gi_wp2
      refine hRd.mono ?_
      rintro e W3 (⟨rfl, hJ3, hR3⟩ | ⟨rfl, hJx3⟩)
      · gi_wp2
        go_roundw
        case rel => exact ⟨j, rfl, by omega, hR3, hJ3⟩
        case measure => simp [idx]
      · gi_wp2
        refine bodyPost_ret (results_none rfl _ _ _) rfl ?_
        exact ⟨⟨_, rfl⟩, .inr ⟨_, hJx3⟩⟩

/-- How the body of a round may be left. -/
def bodyPost1 (Kp : World → Prop) (I : World → Prop) (Ix : Code → World → Prop) : Exit → Act → World → Prop
  | .normal, _, W' => Kp W' ∧ I W'
  | .ret, _, W' => Kp W' ∧ Ix .ret W'
  | .exit id, _, W' => Kp W' ∧ Ix (.exit id) W'
  | .goto t, _, W' => Kp W' ∧ Ix (.goto t) W'
  | .panic _, _, _ => False
  | .outgrown, _, _ => False

theorem heap_set (W : World) (b l : Nat) (v : Value) (h : b ≠ l) : (W.setCell ⟨b, 0, none⟩ v).heap[l]? = W.heap[l]? := Below.heap_setCell W ⟨b, 0, none⟩ v l (fun e => h e.symm)
theorem heap_below {W W' : World} (h : Below W.heap.size W W') {l : Nat} {o : Obj} (hl : W.heap[l]? = some o) : W'.heap[l]? = some o := (h.block l (Array.getElem?_eq_some_iff.1 hl).1).trans hl
theorem row_putObj {A : Option Addr} {n : Nat} {xs : List Int} {W : World} (h : Kd.C (Kd.int .u64) W A n xs) {l : Nat} {o₀ : Obj} (o : Obj) (hl : W.heap[l]? = some o₀) (hc : o₀.isCells = false) : Kd.C (Kd.int .u64) (W.putObj l o) A n xs := by
  obtain ⟨h1, h2, h3⟩ := h
  refine ⟨h1, h2, fun hn => ?_⟩
  obtain ⟨ad, e, hh⟩ := h3 hn
  refine ⟨ad, e, fun j p hj => ?_⟩
  obtain ⟨cs, q1, q2, q3⟩ := hh j p hj
  exact ⟨cs, q1, q2, fun i u hu => Go.cell_kept (q3 i u hu) (grownBy_putObj' W l o) (fun r e => by cases e; exact ⟨_, hl, hc⟩)⟩
theorem Rf.putObj {bs : Nat} {A : Option Addr} {c : Nat} {xs : List Nat} {W : World} (h : Rf bs A c xs W) {l : Nat} {o₀ : Obj} (o : Obj) (hl : W.heap[l]? = some o₀) (hc : o₀.isCells = false) : Rf bs A c xs (W.putObj l o) :=
  ⟨(World.putObj_heap_other (fun e => by subst e; rw [h.box] at hl; cases hl; simp [Obj.isCells] at hc)).trans h.box, row_putObj h.row o hl hc⟩
set_option maxHeartbeats 1000000 in
/-- for i, limb := range slices.Backward(n) { .. }: I j: what holds when the limbs from j on have come. -/
theorem wp_back {g : Operand} {ps : Array Tmp} {assign body : Code} {Q : Exit → Act → World → Prop} {a : Act} {w : World} {bs : Nat} {A : Option Addr} {c : Nat} {xs : List Nat}
    (hg : a.eval g = .func (.func 172) #[] #[.pointer (some ⟨bs, 0, none⟩)]) (hs : xs.length ≤ 1000000) (hps : ps.size = 2) (hB : Rf bs A c xs w)
    (I : Nat → World → Prop) (Ix : Code → Nat → World → Prop)
    (hIb : ∀ i W W', I i W → Below W.heap.size W W' → I i W')
    (hIo : ∀ i W l o, I i W → w.heap.size ≤ l → (∃ o₀, W.heap[l]? = some o₀ ∧ o₀.isCells = false) → I i (W.putObj l o))
    (hXo : ∀ c i W l o, Ix c i W → w.heap.size ≤ l → (∃ o₀, W.heap[l]? = some o₀ ∧ o₀.isCells = false) → Ix c i (W.putObj l o))
    (h0 : I xs.length w) (a₁ : Nat → Act)
    (hassign : ∀ (l : Nat) (j : Nat) (W : World) (K : Act → World → Prop), K (a₁ j) W →
      assign.wpIn (Fence.wide.inRound l) 0 Tryz.prog (Exit.then K (fun _ _ _ => False)) { tmps := (ps.zip #[.int .i64 (j : Int), .int .u64 ((xs[j]?.getD 0 : Nat) : Int)]).foldl (fun t (p, v) => t.setIfInBounds p v) a.tmps, defers := [] } W)
    (hbody : ∀ (l j : Nat) (W : World), I (j + 1) W → Rf bs A c xs W → j < xs.length →
      body.wpIn (Fence.wide.inRound l) 0 Tryz.prog (bodyPost1 (KeepsOthers W) (fun W' => I j W' ∧ Rf bs A c xs W') (fun c => Ix c j)) (a₁ j) W)
    (hdone : ∀ (D : Nat) (W : World), w.heap.size ≤ D → I 0 W → W.heap[D]? = some (.deferred (some [])) → Q .normal { a with defers := { target := .collected D, args := #[] } :: a.defers } W)
    (hstop : ∀ (D : Nat) (c : Code) (j : Nat) (W : World), w.heap.size ≤ D → Ix c j W → W.heap[D]? = some (.deferred (some [])) → c.wpIn Fence.wide 2 Tryz.prog Q { a with defers := { target := .collected D, args := #[] } :: a.defers } W) :
    (Code.rangeFunc g ps assign body).wpIn Fence.wide 2 Tryz.prog Q a w := by
  refine wpIn_rangeFunc ?_
  intro fn _
  obtain ⟨rec, hrec⟩ : ∃ rec : LoopState → Option Code → Loop, rec = fun st pe => { state := st, pending := pe, fn, tmps := a.tmps, params := ps, assign, body, defers := w.heap.size } := ⟨_, rfl⟩
  obtain ⟨W1, hW1⟩ : ∃ W1, (w.alloc (.deferred (some []))).alloc (.loop (rec .ready none)) = W1 := ⟨_, rfl⟩
  have hbel : Below w.heap.size w W1 := by rw [← hW1]; exact ((Below.refl _ w).alloc (Nat.le_refl _) _).alloc (by simp) _
  have hL1 : W1.heap[w.heap.size + 1]? = some (.loop (rec .ready none)) := by
    rw [← hW1]; have := World.alloc_heap_new (w.alloc (.deferred (some []))) (.loop (rec .ready none)); rwa [World.size_alloc] at this
  have hK1 : W1.heap[w.heap.size]? = some (.deferred (some [])) := by
    rw [← hW1]; exact (Below.heap_alloc _ _ _ (by simp)).trans (World.alloc_heap_new w _)
  refine ⟨w.heap.size + 1, [{ target := .collected w.heap.size, args := #[] }], W1, { target := .fn (.func 172) #[.pointer (some ⟨bs, 0, none⟩)], args := #[.func (.yield (w.heap.size + 1)) #[] #[]] }, W1, 172,
    #[.func (.yield (w.heap.size + 1)) #[] #[], .pointer (some ⟨bs, 0, none⟩)], W1, ?_, ?_, fun _ _ => trivial, ?_, fun e => by simp [Fence.wide] at e, ?_⟩
  · rw [← hW1, hrec]; exact run_enterLoop_outer _ _ _ _ _
  · simp only [resolve, hg]
    simp [go_sem]
  · have eg := enters_of (P := Tryz.prog) Tryz.func172 (by kernel_rfl) rfl
    simp [invoke, go_sem, eg]
  · refine callsIn_wide.2 ?_
    refine (back1 (w.heap.size + 1) bs A c xs hs
      (fun i W => I i W ∧ W.heap[w.heap.size + 1]? = some (.loop (rec .ready none)) ∧ W.heap[w.heap.size]? = some (.deferred (some [])))
      (fun i W => ∃ c, Ix c i W ∧ W.heap[w.heap.size + 1]? = some (.loop (rec .done (some c))) ∧ W.heap[w.heap.size]? = some (.deferred (some [])))
      ?_ W1 (hB.below hbel) ⟨hIb _ w W1 h0 hbel, hL1, hK1⟩).mono ?_
    · rintro i W ⟨hi, hl, hk⟩ hBW hle
      have hlt : w.heap.size + 1 < W.heap.size := (Array.getElem?_eq_some_iff.1 hl).1
      have hy := run_yield (P := Tryz.prog) (args := #[.int .i64 (i : Int), .int .u64 ((xs[i]?.getD 0 : Nat) : Int)]) hl (by rw [hrec]; exact hps.symm)
      rw [hrec] at hy
      refine ⟨fn, _, assign, body, hy, roundIn_of_wpIn trivial (hassign _ _ W _ ⟨_, run_beginRound hl (by rw [hrec]), ?_⟩)⟩
      have hl2 : (W.putObj (w.heap.size + 1) (.loop { rec .ready none with state := .busy })).heap[w.heap.size + 1]? = some (.loop { rec .ready none with state := .busy }) := World.putObj_heap_same hlt
      have hk2 : (W.putObj (w.heap.size + 1) (.loop { rec .ready none with state := .busy })).heap[w.heap.size]? = some (.deferred (some [])) := (World.putObj_heap_other (by omega)).trans hk
      refine wpIn_mono (hbody _ i _ (hIo _ W _ _ hi (by omega) ⟨_, hl, rfl⟩) (hBW.putObj _ hl rfl) hle) ?_
      have fin : ∀ (jump : Option Code) (W3 : World), KeepsOthers (W.putObj (w.heap.size + 1) (.loop { rec .ready none with state := .busy })) W3 →
          (Instr.endRound (w.heap.size + 1) jump).run Tryz.prog W3 = .ok (.bool jump.isNone) (W3.putObj (w.heap.size + 1) (.loop (rec (if jump.isNone then .ready else .done) jump))) ∧
          W3.heap[w.heap.size + 1]? = some (.loop { rec .ready none with state := .busy }) ∧
          (W3.putObj (w.heap.size + 1) (.loop (rec (if jump.isNone then .ready else .done) jump))).heap[w.heap.size + 1]? = some (.loop (rec (if jump.isNone then .ready else .done) jump)) ∧
          (W3.putObj (w.heap.size + 1) (.loop (rec (if jump.isNone then .ready else .done) jump))).heap[w.heap.size]? = some (.deferred (some [])) := fun jump W3 hk3 => by
        have hl3 := hk3.same _ _ hl2 rfl
        have := run_endRound (P := Tryz.prog) jump hl3
        rw [hrec] at this ⊢
        exact ⟨this, by rw [hrec] at hl3; exact hl3, World.putObj_heap_same (Array.getElem?_eq_some_iff.1 hl3).1, (World.putObj_heap_other (by omega)).trans (hk3.same _ _ hk2 rfl)⟩
      rintro e a3 W3 hp
      cases e with
      | normal =>
        obtain ⟨hk3, hi3, hB3⟩ := hp
        obtain ⟨hr, hl3, hl4, hk4⟩ := fin none W3 hk3
        exact ⟨_, _, hr, .inl ⟨rfl, ⟨hIo _ _ _ _ hi3 (by omega) ⟨_, hl3, rfl⟩, hl4, hk4⟩, hB3.putObj _ hl3 rfl⟩⟩
      | ret =>
        obtain ⟨hk3, hi3⟩ := hp
        obtain ⟨hr, hl3, hl4, hk4⟩ := fin (some .ret) W3 hk3
        exact ⟨_, _, hr, .inr ⟨rfl, .ret, hXo _ _ _ _ _ hi3 (by omega) ⟨_, hl3, rfl⟩, hl4, hk4⟩⟩
      | exit id =>
        obtain ⟨hk3, hi3⟩ := hp
        obtain ⟨hr, hl3, hl4, hk4⟩ := fin (some (.exit id)) W3 hk3
        exact ⟨_, _, hr, .inr ⟨rfl, .exit id, hXo _ _ _ _ _ hi3 (by omega) ⟨_, hl3, rfl⟩, hl4, hk4⟩⟩
      | goto t =>
        obtain ⟨hk3, hi3⟩ := hp
        obtain ⟨hr, hl3, hl4, hk4⟩ := fin (some (.goto t)) W3 hk3
        exact ⟨_, _, hr, .inr ⟨rfl, .goto t, hXo _ _ _ _ _ hi3 (by omega) ⟨_, hl3, rfl⟩, hl4, hk4⟩⟩
      | panic ch => exact hp.elim
      | outgrown => exact hp.elim
    · rintro e W2 ⟨⟨v, rfl⟩, (⟨hi, hl, hk⟩ | ⟨i, c, hi, hl, hk⟩)⟩
      · exact ⟨none, _, by have := run_endLoop (P := Tryz.prog) hl (by rw [hrec]; simp); rw [hrec] at this; exact this, hdone _ _ (Nat.le_refl _) (hIo _ _ _ _ hi (by omega) ⟨_, hl, rfl⟩) ((World.putObj_heap_other (by omega)).trans hk)⟩
      · exact ⟨some c, _, by have := run_endLoop (P := Tryz.prog) hl (by rw [hrec]; simp); rw [hrec] at this; exact this, hstop _ c i _ (Nat.le_refl _) (hXo _ _ _ _ _ hi (by omega) ⟨_, hl, rfl⟩) ((World.putObj_heap_other (by omega)).trans hk)⟩
end Go.Proofs.YtfaibifilpfikaaGreatDoor.Bw

namespace Go.Proofs.YtfaibifilpfikaaGreatDoor.N3
open Go.RowKit Go.Shelf Go.Proofs.YtfaibifilpfikaaGreatDoorW.PrintWords Go.Proofs.YtfaibifilpfikaaGreatDoorW.PrintLast Go.Proofs.YtfaibifilpfikaaGreatDoorW.PrintMore Go.Proofs.YtfaibifilpfikaaGreatDoor.A Go.Proofs.YtfaibifilpfikaaGreatDoor.N1 Go.Proofs.YtfaibifilpfikaaGreatDoor.Bw
attribute [local go_sem] Oper.semAt_some
set_option linter.unusedVariables false
set_option linter.unusedSimpArgs false

theorem cmpI (a b : Int) : cmp_Compare_int.f a b = some (if a < b then -1 else if a > b then 1 else 0) := by
  unfold cmp_Compare_int.f cmp_isNaN_int.f
  simp only [bne_self_eq_false, Option.bind_some, Bool.false_eq_true, if_false]
  split
  · rfl
  · split <;> rfl
theorem cmpU (a b : Int) : cmp_Compare_uint64.f a b = some (if a < b then -1 else if a > b then 1 else 0) := by
  unfold cmp_Compare_uint64.f cmp_isNaN_uint64.f
  simp only [bne_self_eq_false, Option.bind_some, Bool.false_eq_true, if_false]
  split
  · rfl
  · split <;> rfl
theorem keeps_below {W W' : World} (hb : Below W.heap.size W W') : KeepsOthers W W' := ⟨hb.size, fun k o hk ho => (hb.block k (Array.getElem?_eq_some_iff.1 hk).1).trans hk⟩
theorem results136 (tmps : Array Value) (b : Nat) (W : World) (r : Int) (h4 : tmps.getD 4 undef = .pointer (some ⟨b, 0, none⟩)) (g : W.heap[b]? = some (.cells #[.int .i64 r] 3 (0, 0))) : (results Tryz.f136 tmps).run Tryz.prog W = .ok (.int .i64 r) W := by
  have e4 : tmps[4]?.getD undef = .pointer (some ⟨b, 0, none⟩) := by simpa using h4
  have c2 : W.cell? ⟨b, 0, none⟩ = some (.int .i64 r) := (blk_cell g 0).trans (by simp)
  have hr : Tryz.f136.results = #[.cell 4 3] := rfl
  have l2 : (loadVar 3 ⟨b, 0, none⟩).run Tryz.prog W = .ok (.int .i64 r) W := by
    go_simp
  simp [results, hr, e4, asAddr, l2]
/-- slices.Backward: a box and the closure over it. -/
theorem back_any (A : Option Addr) (n c : Nat) (w : World) :
    Calls Tryz.prog 135 #[.slice A n c] w fun e w' => e = .returned (.func (.func 172) #[] #[.pointer (some ⟨w.heap.size, 0, none⟩)]) ∧ w' = w.alloc (.cells #[.slice A n c] 105) := by
  go_enter Tryz.func135, Tryz.ntmps135
  go_wp2
  go_ret
  exact ⟨rfl, rfl⟩
/-- How two rows lie. -/
def Cmp (xs ys : List Nat) (r : Int) : Prop := (xs.length < ys.length ∧ r = -1) ∨ (ys.length < xs.length ∧ r = 1) ∨ (xs.length = ys.length ∧ ((xs = ys ∧ r = 0) ∨
  ∃ j, j < xs.length ∧ xs.drop (j + 1) = ys.drop (j + 1) ∧ ((xs[j]?.getD 0 < ys[j]?.getD 0 ∧ r = -1) ∨ (ys[j]?.getD 0 < xs[j]?.getD 0 ∧ r = 1))))

set_option maxRecDepth 100000 in
set_option maxHeartbeats 400000 in
theorem compare_ne (xs ys : List Nat) (hne : xs.length ≠ ys.length) (hx : xs.length ≤ 1000000) (hy : ys.length ≤ 1000000) (A B : Option Addr) (c d : Nat) (w : World) :
    Calls Tryz.prog 136 #[.slice A (u64s xs).length c, .slice B (u64s ys).length d] w fun e w' => ∃ r : Int, e = .returned (.int .i64 r) ∧ Cmp xs ys r ∧ Below w.heap.size w w' := by
  have hr := cmpI ((u64s xs).length : Int) ((u64s ys).length : Int)
  have hL : (u64s xs).length = xs.length := u64s_length xs
  have hM : (u64s ys).length = ys.length := u64s_length ys
  obtain ⟨r, hr1, hr2, hr0⟩ : ∃ r : Int, cmp_Compare_int.f ((u64s xs).length : Int) ((u64s ys).length : Int) = some r ∧ Cmp xs ys r ∧ (r = -1 ∨ r = 1) := by
    rw [hr, hL, hM]
    by_cases h : xs.length < ys.length
    · rw [if_pos (by omega)]; exact ⟨_, rfl, .inl ⟨h, rfl⟩, .inl rfl⟩
    · rw [if_neg (by omega), if_pos (by omega)]; exact ⟨_, rfl, .inr (.inl ⟨by omega, rfl⟩), .inr rfl⟩
  have HR := Aside0.mk hr2
  clear hr hr2
  refine (callsIn_wide (n := 2)).1 ?_
  refine callsIn_of_wp_marks Tryz.func136 rfl trivial ?_ rfl
  simp only [Tryz.ntmps136, List.size_toArray, List.length_cons, List.length_nil, Nat.reduceAdd, Nat.reduceSub, Array.replicate_succ, Array.replicate_zero, List.push_toArray, List.append_toArray, List.nil_append, List.cons_append]
  generalize (u64s xs).length = n at hr1 hL ⊢
  generalize (u64s ys).length = m at hr1 hM ⊢
  clear hL hM hne hx hy
  have H1 := Aside0.mk hr1
  clear hr1
  rcases hr0 with rfl | rfl
  · gi_wp2_with (refine ⟨trivial, ?_⟩; refine callsIn_wide.2 ((cmp_Compare_int.calls _ _ _ _ H1.out).mono ?_); rintro e w1 ⟨rfl, hd⟩; have hb := Aside0.mk hd.below; have BK := Aside0.mk (blk_below (by have := blk_new (w.alloc (.cells #[.slice B m d] 105)) (.cells #[.int .i64 0] 3); rwa [World.size_alloc] at this) hd.below); have cc : w1.cell? ⟨w.heap.size + 1, 0, none⟩ = some (.int .i64 0) := (blk_cell BK.out 0).trans rfl; have cf := blk_frozen BK.out 0; clear hd)
    exact ⟨_, results136 _ (w.heap.size + 1) _ _ rfl (blk_put BK.out 0 _ rfl), _, rfl, HR.out, (below_step (below_alloc (below_alloc (Below.refl _ _) _) _) hb.out).setCell (p := ⟨w.heap.size + 1, 0, none⟩) (by simp) _⟩
  · gi_wp2_with (refine ⟨trivial, ?_⟩; refine callsIn_wide.2 ((cmp_Compare_int.calls _ _ _ _ H1.out).mono ?_); rintro e w1 ⟨rfl, hd⟩; have hb := Aside0.mk hd.below; have BK := Aside0.mk (blk_below (by have := blk_new (w.alloc (.cells #[.slice B m d] 105)) (.cells #[.int .i64 0] 3); rwa [World.size_alloc] at this) hd.below); have cc : w1.cell? ⟨w.heap.size + 1, 0, none⟩ = some (.int .i64 0) := (blk_cell BK.out 0).trans rfl; have cf := blk_frozen BK.out 0; clear hd)
    exact ⟨_, results136 _ (w.heap.size + 1) _ _ rfl (blk_put BK.out 0 _ rfl), _, rfl, HR.out, (below_step (below_alloc (below_alloc (Below.refl _ _) _) _) hb.out).setCell (p := ⟨w.heap.size + 1, 0, none⟩) (by simp) _⟩

/-- Between two rounds: the limbs from j on are alike. -/
def Iv (w : World) (B : Option Addr) (d : Nat) (xs ys : List Nat) (j : Nat) (W : World) : Prop :=
  W.heap[w.heap.size]? = some (.cells #[.slice B (u64s ys).length d] 105 (0, 0)) ∧ W.heap[w.heap.size + 1]? = some (.cells #[.int .i64 0] 3 (0, 0)) ∧ xs.drop j = ys.drop j ∧ Below w.heap.size w W
theorem below_put {n : Nat} {w W : World} {l : Nat} (o : Obj) (h : Below n w W) (hn : n ≤ w.heap.size) (hl : n ≤ l) : Below n w (W.putObj l o) := h.grown (grownBy_putObj' W l o) (Nat.le_trans hn h.size) (fun k e => by cases e; exact hl)

set_option maxRecDepth 100000 in
set_option maxHeartbeats 2000000 in
theorem compare_eq (xs ys : List Nat) (he : xs.length = ys.length) (hx : xs.length ≤ 1000000) (A B : Option Addr) (c d : Nat) (w : World) (hA : Kd.C (Kd.int .u64) w A (u64s xs).length (u64s xs)) (hB : Kd.C (Kd.int .u64) w B (u64s ys).length (u64s ys)) :
    Calls Tryz.prog 136 #[.slice A (u64s xs).length c, .slice B (u64s ys).length d] w fun e w' => ∃ r : Int, e = .returned (.int .i64 r) ∧ Cmp xs ys r ∧ Below w.heap.size w w' := by
  have hL : (u64s xs).length = xs.length := u64s_length xs
  have hM : (u64s ys).length = ys.length := u64s_length ys
  have H1 : Aside0 (cmp_Compare_int.f ((u64s xs).length : Int) ((u64s ys).length : Int) = some 0) := Aside0.mk (by rw [cmpI, hL, hM, if_neg (by omega), if_neg (by omega)])
  have HA := Aside0.mk hA
  have HB := Aside0.mk hB
  have HL := Aside0.mk hL
  have HM := Aside0.mk hM
  have HE := Aside0.mk he
  have HX := Aside0.mk hx
  clear hA hB hL hM he hx
  refine (callsIn_wide (n := 2)).1 ?_
  refine callsIn_of_wp_marks Tryz.func136 rfl trivial ?_ rfl
  simp only [Tryz.ntmps136, List.size_toArray, List.length_cons, List.length_nil, Nat.reduceAdd, Nat.reduceSub, Array.replicate_succ, Array.replicate_zero, List.push_toArray, List.append_toArray, List.nil_append, List.cons_append]
  gi_wp2_with (first
    | (refine ⟨trivial, ?_⟩; refine callsIn_wide.2 ((cmp_Compare_int.calls _ _ _ _ H1.out).mono ?_); rintro e w1 ⟨rfl, hd⟩; have HW := Aside0.mk (below_step (below_alloc (below_alloc (Below.refl w.heap.size w) _) _) hd.below); have K0 := Aside0.mk (blk_below (blk_alloc (blk_new w (.cells #[.slice B (u64s ys).length d] 105)) (.cells #[.int .i64 0] 3)) hd.below); have K1 := Aside0.mk (blk_below (by have := blk_new (w.alloc (.cells #[.slice B (u64s ys).length d] 105)) (.cells #[.int .i64 0] 3); rwa [World.size_alloc] at this) hd.below); clear hd)
    | (refine ⟨trivial, ?_⟩; refine callsIn_wide.2 ((back_any _ _ _ _).mono ?_); rintro e w2 ⟨rfl, rfl⟩))
  have hsz : w.heap.size + 2 ≤ w1.heap.size := by
    have := (Array.getElem?_eq_some_iff.1 K1.out).1; omega
  refine wp_back (bs := w1.heap.size) (A := A) (c := c) (xs := xs) rfl HX.out rfl ⟨blk_new w1 _, Kd.C_below HA.out (below_alloc HW.out _)⟩
    (Iv w B d xs ys) (fun cd j W => cd = .ret ∧ ∃ r, W.heap[w.heap.size + 1]? = some (.cells #[.int .i64 r] 3 (0, 0)) ∧ Cmp xs ys r ∧ Below w.heap.size w W) ?hIb ?hIo ?hXo ?h0 ?a1 ?hassign ?hbody ?hdone ?hstop
  case hIb => exact fun i W W' h hb => ⟨blk_below h.1 hb, blk_below h.2.1 hb, h.2.2.1, h.2.2.2.trans (hb.mono h.2.2.2.size)⟩
  case hIo => exact fun i W l o h hl ho => ⟨(World.putObj_heap_other (by simp at hl; omega)).trans h.1, (World.putObj_heap_other (by simp at hl; omega)).trans h.2.1, h.2.2.1, below_put o h.2.2.2 (Nat.le_refl _) (by simp at hl; omega)⟩
  case hXo =>
    rintro c i W l o ⟨h1, r, h2, h3, h4⟩ hl ho
    exact ⟨h1, r, (World.putObj_heap_other (by simp at hl; omega)).trans h2, h3, below_put o h4 (Nat.le_refl _) (by simp at hl; omega)⟩
  case h0 =>
    refine ⟨blk_alloc K0.out _, blk_alloc K1.out _, ?_, below_alloc HW.out _⟩
    rw [List.drop_eq_nil_of_le (Nat.le_refl _), List.drop_eq_nil_of_le (by have := HE.out; omega)]
  case hassign =>
    intro l j W K hK
    gi_wp2
    exact hK
  case hbody =>
    rintro l j W ⟨hK0, hK1, hdr, hbw⟩ hR hj
    have hc0 : W.cell? ⟨w.heap.size, 0, none⟩ = some (.slice B (u64s ys).length d) := (blk_cell hK0 0).trans rfl
    have hc1 : W.cell? ⟨w.heap.size + 1, 0, none⟩ = some (.int .i64 0) := (blk_cell hK1 0).trans rfl
    have hf1 := blk_frozen hK1 0
    have hjy : j < ys.length := by have := HE.out; omega
    have hjl : j < (u64s ys).length := by have := HM.out; omega
    obtain ⟨ad, hB', hcell⟩ := Kd.at_int (Kd.C_below HB.out hbw) (j : Int) (by omega) (by have := HM.out; omega)
    rw [rd_u64s, Int.toNat_natCast, List.getD_eq_getElem?_getD] at hcell
    have hxd : xs.drop j = xs[j] :: xs.drop (j + 1) := List.drop_eq_getElem_cons hj
    have hyd : ys.drop j = ys[j] :: ys.drop (j + 1) := List.drop_eq_getElem_cons hjy
    have hgx : xs[j]?.getD 0 = xs[j] := by rw [List.getElem?_eq_getElem hj]; rfl
    have hgy : ys[j]?.getD 0 = ys[j] := by rw [List.getElem?_eq_getElem hjy]; rfl
    obtain ⟨r, hr, hr'⟩ : ∃ r : Int, cmp_Compare_uint64.f ((xs[j]?.getD 0 : Nat) : Int) ((ys[j]?.getD 0 : Nat) : Int) = some r ∧ ((r = 0 ∧ xs.drop j = ys.drop j) ∨ (r = -1 ∧ Cmp xs ys (-1)) ∨ (r = 1 ∧ Cmp xs ys 1)) := by
      rw [cmpU]
      by_cases h1 : xs[j]?.getD 0 < ys[j]?.getD 0
      · rw [if_pos (by omega)]
        exact ⟨_, rfl, .inr (.inl ⟨rfl, .inr (.inr ⟨HE.out, .inr ⟨j, hj, hdr, .inl ⟨h1, rfl⟩⟩⟩)⟩)⟩
      · by_cases h2 : ys[j]?.getD 0 < xs[j]?.getD 0
        · rw [if_neg (by omega), if_pos (by omega)]
          exact ⟨_, rfl, .inr (.inr ⟨rfl, .inr (.inr ⟨HE.out, .inr ⟨j, hj, hdr, .inr ⟨h2, rfl⟩⟩⟩)⟩)⟩
        · rw [if_neg (by omega), if_neg (by omega)]
          refine ⟨_, rfl, .inl ⟨rfl, ?_⟩⟩
          rw [hxd, hyd, hdr, ← hgx, ← hgy, show xs[j]?.getD 0 = ys[j]?.getD 0 by omega]
    have HR := Aside0.mk hr
    have HK0 := Aside0.mk hK0
    have HK1 := Aside0.mk hK1
    have HBW := Aside0.mk hbw
    have HRf := Aside0.mk hR
    have HDR := Aside0.mk hdr
    have hszW : w.heap.size + 2 ≤ W.heap.size := by have := (Array.getElem?_eq_some_iff.1 hK1).1; omega
    subst hB'
    clear hr hK0 hK1 hbw hR hdr hxd hyd hgx hgy hjy hj
    generalize ys[j]?.getD 0 = y at HR hcell
    generalize hx : xs[j]?.getD 0 = x at HR
    rcases hr' with ⟨rfl, hE⟩ | ⟨rfl, hC⟩ | ⟨rfl, hC⟩
    · have HC := Aside0.mk hE
      clear hE
      gi_wp2_with (refine ⟨trivial, rfl, ?_⟩; refine CallsIn.inRound l (callsIn_wide.2 ((cmp_Compare_uint64.calls _ _ _ _ HR.out).mono ?_)); rintro e w3 ⟨rfl, hd⟩; have HD := Aside0.mk hd.below; have c3 : w3.cell? ⟨w.heap.size + 1, 0, none⟩ = some (.int .i64 0) := (blk_cell (blk_below HK1.out HD.out) 0).trans rfl; have f3 := blk_frozen (blk_below HK1.out HD.out) 0; clear hd)
      have hb3 := HBW.out.trans (HD.out.mono HBW.out.size)
      exact ⟨keeps_below HD.out, ⟨blk_below HK0.out HD.out, blk_below HK1.out HD.out, HC.out, hb3⟩, HRf.out.below HD.out⟩
    · have HC := Aside0.mk hC
      clear hC
      gi_wp2_with (refine ⟨trivial, rfl, ?_⟩; refine CallsIn.inRound l (callsIn_wide.2 ((cmp_Compare_uint64.calls _ _ _ _ HR.out).mono ?_)); rintro e w3 ⟨rfl, hd⟩; have HD := Aside0.mk hd.below; have c3 : w3.cell? ⟨w.heap.size + 1, 0, none⟩ = some (.int .i64 0) := (blk_cell (blk_below HK1.out HD.out) 0).trans rfl; have f3 := blk_frozen (blk_below HK1.out HD.out) 0; clear hd)
      have hb3 := HBW.out.trans (HD.out.mono HBW.out.size)
      exact ⟨(keeps_below HD.out).trans (KeepsOthers.setCell _ _ _), rfl, _, blk_put (blk_below HK1.out HD.out) 0 _ rfl, HC.out, hb3.setCell (p := ⟨w.heap.size + 1, 0, none⟩) (by simp) _⟩
    · have HC := Aside0.mk hC
      clear hC
      gi_wp2_with (refine ⟨trivial, rfl, ?_⟩; refine CallsIn.inRound l (callsIn_wide.2 ((cmp_Compare_uint64.calls _ _ _ _ HR.out).mono ?_)); rintro e w3 ⟨rfl, hd⟩; have HD := Aside0.mk hd.below; have c3 : w3.cell? ⟨w.heap.size + 1, 0, none⟩ = some (.int .i64 0) := (blk_cell (blk_below HK1.out HD.out) 0).trans rfl; have f3 := blk_frozen (blk_below HK1.out HD.out) 0; clear hd)
      have hb3 := HBW.out.trans (HD.out.mono HBW.out.size)
      exact ⟨(keeps_below HD.out).trans (KeepsOthers.setCell _ _ _), rfl, _, blk_put (blk_below HK1.out HD.out) 0 _ rfl, HC.out, hb3.setCell (p := ⟨w.heap.size + 1, 0, none⟩) (by simp) _⟩
  case hdone =>
    rintro D W hD ⟨hK0, hK1, hdr, hbw⟩ hK
    have hc1 : W.cell? ⟨w.heap.size + 1, 0, none⟩ = some (.int .i64 0) := (blk_cell hK1 0).trans rfl
    have hf1 := blk_frozen hK1 0
    have HD := Aside0.mk hK
    have HBW := Aside0.mk hbw
    have HK1 := Aside0.mk hK1
    have HC : Aside0 (Cmp xs ys 0) := Aside0.mk (.inr (.inr ⟨HE.out, .inl ⟨by simpa using hdr, rfl⟩⟩))
    have hD' : w1.heap.size + 1 ≤ D := by simpa using hD
    clear hK0 hK1 hdr hbw hK
    gi_wp2
    refine ⟨by simp, .inl ⟨_, _, rfl, run_takeDeferred (Below.heap_setCell _ _ _ _ (by show D ≠ w.heap.size + 1; omega) |>.trans HD.out), ?_⟩⟩
    exact ⟨_, results136 _ (w.heap.size + 1) _ _ rfl ((World.putObj_heap_other (by omega)).trans (blk_put HK1.out 0 _ rfl)), _, rfl, HC.out, below_put _ (HBW.out.setCell (p := ⟨w.heap.size + 1, 0, none⟩) (by simp) _) (Nat.le_refl _) (by omega)⟩
  case hstop =>
    rintro D cd j W hD ⟨rfl, r, hK1, hC, hbw⟩ hK
    have HD := Aside0.mk hK
    have HBW := Aside0.mk hbw
    have HK1 := Aside0.mk hK1
    have HC := Aside0.mk hC
    have hD' : w1.heap.size + 1 ≤ D := by simpa using hD
    clear hK1 hC hbw hK
    gi_wp2
    refine ⟨by simp, .inl ⟨_, _, rfl, run_takeDeferred HD.out, ?_⟩⟩
    exact ⟨_, results136 _ (w.heap.size + 1) _ _ rfl ((World.putObj_heap_other (by omega)).trans HK1.out), _, rfl, HC.out, below_put _ HBW.out (Nat.le_refl _) (by omega)⟩
end Go.Proofs.YtfaibifilpfikaaGreatDoor.N3

namespace Go.Proofs.YtfaibifilpfikaaGreatDoor.N4
open Go.RowKit Go.Shelf Go.Proofs.YtfaibifilpfikaaGreatDoorW.PrintWords Go.Proofs.YtfaibifilpfikaaGreatDoorW.PrintLast Go.Proofs.YtfaibifilpfikaaGreatDoorW.PrintMore Go.Proofs.YtfaibifilpfikaaGreatDoor.A Go.Proofs.YtfaibifilpfikaaGreatDoor.N1 Go.Proofs.YtfaibifilpfikaaGreatDoor.Bw Go.Proofs.YtfaibifilpfikaaGreatDoor.N3
set_option linter.unusedVariables false
set_option linter.unusedSimpArgs false

def cmpN (a b : Nat) : Int := if a < b then -1 else if b < a then 1 else 0
theorem cmp_limbs {a b : Nat} {r : Int} (h : Cmp (Nb.limbs a) (Nb.limbs b) r) : r = cmpN a b := by
  unfold cmpN
  rcases h with ⟨h1, h2⟩ | ⟨h1, h2⟩ | ⟨h1, ⟨h2, h3⟩ | ⟨j, hj, hd, h⟩⟩
  · rw [if_pos (Nb.limbs_len_lt h1), h2]
  · have := Nb.limbs_len_lt h1
    rw [if_neg (by omega), if_pos this, h2]
  · have e : a = b := by rw [← Nb.val_limbs a, h2, Nb.val_limbs]
    subst e
    rw [if_neg (Nat.lt_irrefl _), if_neg (Nat.lt_irrefl _), h3]
  · have hj' : j < (Nb.limbs b).length := by omega
    rw [List.getElem?_eq_getElem hj, List.getElem?_eq_getElem hj'] at h
    simp only [Option.getD_some] at h
    rcases h with ⟨h2, h3⟩ | ⟨h2, h3⟩
    · have := Nb.val_lt_at (Nb.ok_limbs a) hj hj' hd h2
      rw [Nb.val_limbs, Nb.val_limbs] at this
      rw [if_pos this, h3]
    · have := Nb.val_lt_at (Nb.ok_limbs b) hj' hj hd.symm h2
      rw [Nb.val_limbs, Nb.val_limbs] at this
      rw [if_neg (by omega), if_pos this, h3]
theorem compareS (a b : Nat) (ha : Few a) (hb : Few b) (w : World) (u v : Value) (hu : NumAt w u a) (hv : NumAt w v b) :
    Calls Tryz.prog 136 #[u, v] w fun e w' => e = .returned (.int .i64 (cmpN a b)) ∧ Below w.heap.size w w' := by
  obtain ⟨A, c, rfl, hc, hC⟩ := hu
  obtain ⟨B, d, rfl, hd, hD⟩ := hv
  unfold Few at ha hb
  by_cases hl : (Nb.limbs a).length = (Nb.limbs b).length
  · refine (compare_eq _ _ hl (by omega) A B c d w hC hD).mono ?_
    rintro e w' ⟨r, rfl, hr, hb⟩
    rw [cmp_limbs hr]
    exact ⟨rfl, hb⟩
  · refine (compare_ne _ _ hl (by omega) (by omega) A B c d w).mono ?_
    rintro e w' ⟨r, rfl, hr, hb⟩
    rw [cmp_limbs hr]
    exact ⟨rfl, hb⟩
theorem limbs_one {n : Nat} (h0 : n ≠ 0) (h : n < 1000000000) : Nb.limbs n = [n] := by
  rw [Nb.limbs_pos h0, Nat.mod_eq_of_lt h, Nat.div_eq_of_lt h, Nb.limbs_zero]
theorem num_one (W : World) {n : Nat} (h0 : n ≠ 0) (h : n < 1000000000) : NumAt (W.alloc (.cells #[.int .u64 (n : Int)] 124)) (.slice (some ⟨W.heap.size, 0, none⟩) 1 1) n := by
  unfold NumAt RowAt
  rw [limbs_one h0 h]
  refine ⟨some ⟨W.heap.size, 0, none⟩, 1, rfl, Nat.le_refl _, rfl, by simp [u64s], fun _ => ⟨_, rfl, fun j p hj => ⟨[.int .u64 p], rfl, rfl, fun i u hi => ?_⟩⟩⟩
  have hi0 : i = 0 := by
    have := (List.getElem?_eq_some_iff.1 hi).1
    simp at this
    exact this
  subst hi0
  obtain rfl := Option.some.inj hi
  have hj0 : j = 0 := by
    have := (List.getElem?_eq_some_iff.1 hj).1
    simp [u64s] at this
    exact this
  subst hj0
  have hp : ((n : Nat) : Int) = p := by simpa [u64s] using hj
  subst hp
  have hadd : (⟨W.heap.size, 0, none⟩ : Addr).add (0 * (Kd.int .u64).sz + 0) = ⟨W.heap.size, 0, none⟩ := by
    show (⟨W.heap.size, 0, none⟩ : Addr).add (0 * 1 + 0) = _
    unfold Addr.add; split <;> simp_all
  rw [hadd, blk_cell (blk_new W _) 0]
  rfl

set_option maxRecDepth 100000 in
set_option maxHeartbeats 2000000 in
theorem test_any (bm br m r k : Nat) (hk : k < 999999999) (hfm : Few m) (hfr : Few r) (hfp : Few (m * (k + 1))) (w : World) (vm vr : Value) (hbm : w.heap[bm]? = some (.cells #[vm] 105 (0, 0))) (hbr : w.heap[br]? = some (.cells #[vr] 105 (0, 0))) (hm : NumAt w vm m) (hr : NumAt w vr r) :
    Calls Tryz.prog 138 #[.int .i64 (k : Int), .pointer (some ⟨bm, 0, none⟩), .pointer (some ⟨br, 0, none⟩)] w fun e w' => e = .returned (.bool (decide (r < m * (k + 1)))) ∧ Below w.heap.size w w' := by
  have HM := Aside0.mk hm
  have HR := Aside0.mk hr
  have BM := Aside0.mk (blk_drew hbm)
  have BR := Aside0.mk (blk_drew hbr)
  have hw : wrap64 ((k : Int) + 1) = ((k + 1 : Nat) : Int) := w1 (by omega)
  have hu : IntKind.u64.wrap (((k + 1 : Nat) : Int)) = ((k + 1 : Nat) : Int) := by rw [IntKind.wrap_u64]; omega
  have HW := Aside0.mk hw
  have HU := Aside0.mk hu
  clear hw hu
  have hlm := World.block_lt_of_cell? w (a := ⟨bm, 0, none⟩) ((blk_cell hbm 0).trans rfl)
  have hlr := World.block_lt_of_cell? w (a := ⟨br, 0, none⟩) ((blk_cell hbr 0).trans rfl)
  obtain ⟨A, c, rfl, _, _⟩ := hm
  obtain ⟨B, d, rfl, _, _⟩ := hr
  clear hbm hbr
  go_enter Tryz.func138, Tryz.ntmps138
  go_wp2
  refine start_ (n := 10) (S := fun w' => w'.cell? ⟨bm, 0, none⟩ = some (.slice A (u64s (Nb.limbs m)).length c) ∧ w'.cell? ⟨br, 0, none⟩ = some (.slice B (u64s (Nb.limbs r)).length d)) (ds := []) #[false, false, false, false, false, false, false, false, false, false] (by kernel_rfl) rfl rfl ⟨(blk_cell BM.out 0).trans rfl, (blk_cell BR.out 0).trans rfl⟩ (fun hHeld => ?_)
  have HB' := Aside0.mk (below_drew (Below.refl w.heap.size w))
  have HM' := Aside0.mk (HM.out.below (below_drew (Below.refl _ _)))
  have HR' := Aside0.mk (HR.out.below (below_drew (Below.refl _ _)))
  clear HM HR
  generalize w.drew = w0 at BM BR HB' HM' HR' hHeld ⊢
  refine take_ (i := 0) (N := some 5) (v := ?_) (a' := ?_) #[true, false, false, false, false, false, false, false, false, false] rfl rfl (by kernel_rfl) (fun _ _ _ h => h) (Or.inl ⟨by rfl, ?_⟩) hHeld ?_ ?_
  rotate_left
  · rintro w' ⟨s0, s1⟩
    go_simp
    with_reducible rfl
  rotate_left
  · simp only [Act.put, List.setIfInBounds_toArray, List.set_cons_zero, List.set_cons_succ, i64_w, i32_w]
    rfl
  refine take_ (i := 6) (N := some 11) (v := ?_) (a' := ?_) #[true, false, false, false, false, false, true, false, false, false] rfl rfl (by kernel_rfl) (fun _ _ _ h => h) (Or.inl ⟨by rfl, ?_⟩) hHeld ?_ ?_
  rotate_left
  · rintro w' ⟨s0, s1⟩
    go_simp
    with_reducible rfl
  rotate_left
  · simp only [Act.put, List.setIfInBounds_toArray, List.set_cons_zero, List.set_cons_succ, i64_w, i32_w]
    rfl
  refine pure_ (i := 1) (N := some 6) (v := ?_) (a' := ?_) #[true, true, false, false, false, false, true, false, false, false] rfl rfl (by kernel_rfl) (fun _ _ _ h => h) (Or.inl ⟨by rfl, ?_⟩) ?_ ?_
  rotate_left
  · intro w'
    go_simp
    with_reducible rfl
  rotate_left
  · simp only [Act.put, List.setIfInBounds_toArray, List.set_cons_zero, List.set_cons_succ, i64_w, i32_w]
    rfl
  refine pure_ (i := 2) (N := some 7) (v := .int .i64 ((k + 1 : Nat) : Int)) (a' := ?_) #[true, true, true, false, false, false, true, false, false, false] rfl rfl (by kernel_rfl) (fun _ _ _ h => h) (Or.inl ⟨by rfl, ?_⟩) ?_ ?_
  · intro w'
    go_simp
    rw [i64_w]; unfold wrap64; omega
  rotate_left
  · simp only [Act.put, List.setIfInBounds_toArray, List.set_cons_zero, List.set_cons_succ, i64_w, i32_w]
    rfl
  refine pure_ (i := 3) (N := some 8) (v := .int .u64 ((k + 1 : Nat) : Int)) (a' := ?_) #[true, true, true, true, false, false, true, false, false, false] rfl rfl (by kernel_rfl) (fun _ _ _ h => h) (Or.inl ⟨by rfl, ?_⟩) ?_ ?_
  · intro w'
    go_simp
    rw [IntKind.wrap_u64]; omega
  rotate_left
  · simp only [Act.put, List.setIfInBounds_toArray, List.set_cons_zero, List.set_cons_succ, i64_w, i32_w]
    rfl
  refine one_ (i := 4) (N := some 9) #[true, true, true, true, true, false, true, false, false, false] rfl rfl (by kernel_rfl) (by decide) (fun K hK => ?_)
  refine value_ (w1 := ?_) (v := ?_) (by rfl) rfl ?_ ?_
  rotate_left 2
  · go_simp
    first | rfl | (constructor <;> rfl)
  have BM1 := Aside0.mk (blk_alloc BM.out (.cells #[.int .u64 ((k + 1 : Nat) : Int)] 124))
  have BR1 := Aside0.mk (blk_alloc BR.out (.cells #[.int .u64 ((k + 1 : Nat) : Int)] 124))
  have HN := Aside0.mk (num_one w0 (n := k + 1) (by omega) (by omega))
  have HM1 := Aside0.mk (HM'.out.below (below_alloc (Below.refl _ _) (.cells #[.int .u64 ((k + 1 : Nat) : Int)] 124)))
  have HR1 := Aside0.mk (HR'.out.below (below_alloc (Below.refl _ _) (.cells #[.int .u64 ((k + 1 : Nat) : Int)] 124)))
  have HB1 := Aside0.mk (below_alloc HB'.out (.cells #[.int .u64 ((k + 1 : Nat) : Int)] 124))
  refine hK.out _ _ ⟨(blk_cell BM1.out 0).trans rfl, (blk_cell BR1.out 0).trans rfl⟩ (fun hHeld => ?_)
  clear hK K
  refine norm_ (a' := ?_) ?_ ?_
  rotate_left
  · show Act.put _ (some 9) _ = _
    simp only [Act.put, List.setIfInBounds_toArray, List.set_cons_zero, List.set_cons_succ, i64_w, i32_w]
    rfl
  refine one_ (i := 5) (N := some 10) #[true, true, true, true, true, true, true, false, false, false] rfl rfl (by kernel_rfl) (by decide) (fun K hK => ?_)
  refine goes_ Tryz.func139 (by kernel_rfl) rfl #[.slice A (u64s (Nb.limbs m)).length c, .slice (some ⟨w0.heap.size, 0, none⟩) 1 1] (by rfl) rfl rfl (by (try simp only [List.map_toArray, List.map_cons, List.map_nil]); first | done | rfl) ?_
  refine (mulS m (k + 1) hfm (by unfold Few; rw [limbs_one (by omega) (by omega)]; simp) _ _ _ HM1.out HN.out).mono ?_
  rintro e w5' ⟨vp, rfl, hp, hb⟩
  refine ⟨_, rfl, ?_⟩
  have HP := Aside0.mk hp
  have BM2 := Aside0.mk (blk_below BM1.out hb)
  have BR2 := Aside0.mk (blk_below BR1.out hb)
  have HR2 := Aside0.mk (HR1.out.below hb)
  have HB2 := Aside0.mk (below_step HB1.out hb)
  clear hb hp
  refine hK.out _ _ ⟨(blk_cell BM2.out 0).trans rfl, (blk_cell BR2.out 0).trans rfl⟩ (fun hHeld => ?_)
  clear hK K
  refine norm_ (a' := ?_) ?_ ?_
  rotate_left
  · show Act.put _ (some 10) _ = _
    simp only [Act.put, List.setIfInBounds_toArray, List.set_cons_zero, List.set_cons_succ, i64_w, i32_w]
    rfl
  refine one_ (i := 7) (N := some 12) #[true, true, true, true, true, true, true, true, false, false] rfl rfl (by kernel_rfl) (by decide) (fun K hK => ?_)
  refine goes_ Tryz.func136 (by kernel_rfl) rfl #[vp, .slice B (u64s (Nb.limbs r)).length d] (by rfl) rfl rfl (by (try simp only [List.map_toArray, List.map_cons, List.map_nil]); first | done | rfl) ?_
  refine (compareS (m * (k + 1)) r hfp hfr _ _ _ HP.out HR2.out).mono ?_
  rintro e w7' ⟨rfl, hb⟩
  refine ⟨_, rfl, ?_⟩
  have BM3 := Aside0.mk (blk_below BM2.out hb)
  have BR3 := Aside0.mk (blk_below BR2.out hb)
  have HB3 := Aside0.mk (below_step HB2.out hb)
  clear hb
  refine hK.out _ _ ⟨(blk_cell BM3.out 0).trans rfl, (blk_cell BR3.out 0).trans rfl⟩ (fun hHeld => ?_)
  clear hK K
  refine norm_ (a' := ?_) ?_ ?_
  rotate_left
  · show Act.put _ (some 12) _ = _
    simp only [Act.put, List.setIfInBounds_toArray, List.set_cons_zero, List.set_cons_succ, i64_w, i32_w]
    rfl
  refine pure_ (i := 8) (N := some 13) (v := ?_) (a' := ?_) #[true, true, true, true, true, true, true, true, true, false] rfl rfl (by kernel_rfl) (fun _ _ _ h => h) (Or.inl ⟨by rfl, ?_⟩) ?_ ?_
  rotate_left
  · intro w'
    go_simp
    with_reducible rfl
  rotate_left
  · simp only [Act.put, List.setIfInBounds_toArray, List.set_cons_zero, List.set_cons_succ, i64_w, i32_w]
    rfl
  refine pure_ (i := 9) (N := some 4) (v := ?_) (a' := ?_) #[true, true, true, true, true, true, true, true, true, true] rfl rfl (by kernel_rfl) (fun _ _ _ h => h) (Or.inl ⟨by rfl, ?_⟩) ?_ ?_
  rotate_left
  · intro w'
    go_simp
    with_reducible rfl
  rotate_left
  · simp only [Act.put, List.setIfInBounds_toArray, List.set_cons_zero, List.set_cons_succ, i64_w, i32_w]
    rfl
  refine done_ (by kernel_rfl) ?_
  go_wp2
  go_ret
  have hd : decide (0 < cmpN (m * (k + 1)) r) = decide (r < m * (k + 1)) := by
    refine decide_eq_decide.2 ?_
    unfold cmpN
    by_cases h1 : m * (k + 1) < r
    · rw [if_pos h1]; omega
    · rw [if_neg h1]
      by_cases h2 : r < m * (k + 1)
      · rw [if_pos h2]; omega
      · rw [if_neg h2]; omega
  exact ⟨congrArg (fun b => Ending.returned (.bool b)) hd, HB3.out⟩

/-- sort.Search over the test: the digit of the quotient. -/
theorem search_any (bm br m r : Nat) (hfm : Few m) (hfr : Few r) (hfp : Few (m * 1000000000)) (hq : r / m < 1000000000) (hm0 : m ≠ 0) (w : World) (vm vr : Value) (hbm : w.heap[bm]? = some (.cells #[vm] 105 (0, 0))) (hbr : w.heap[br]? = some (.cells #[vr] 105 (0, 0))) (hm : NumAt w vm m) (hr : NumAt w vr r) :
    Calls Tryz.prog 137 #[.int .i64 999999999, .func (.func 138) #[] #[.pointer (some ⟨bm, 0, none⟩), .pointer (some ⟨br, 0, none⟩)]] w fun e w' => e = .returned (.int .i64 ((r / m : Nat) : Int)) ∧ Below w.heap.size w w' := by
  have T : ∀ (W : World) (k : Nat), k < 999999999 → Below w.heap.size w W → Calls Tryz.prog 138 #[.int .i64 (k : Int), .pointer (some ⟨bm, 0, none⟩), .pointer (some ⟨br, 0, none⟩)] W fun e w' => e = .returned (.bool (decide (r / m ≤ k))) ∧ Below W.heap.size W w' := fun W k hk hb => by
    have hlm := World.block_lt_of_cell? w (a := ⟨bm, 0, none⟩) ((blk_cell hbm 0).trans rfl)
    have hlr := World.block_lt_of_cell? w (a := ⟨br, 0, none⟩) ((blk_cell hbr 0).trans rfl)
    have hfk : Few (m * (k + 1)) := Nat.le_trans (Nb.limbs_len_le (Nat.mul_le_mul_left m (by omega))) hfp
    refine (test_any bm br m r k hk hfm hfr hfk W vm vr (blk_below hbm hb) (blk_below hbr hb) (hm.below hb) (hr.below hb)).mono ?_
    rintro e w' ⟨rfl, h⟩
    refine ⟨?_, h⟩
    congr 2
    refine decide_eq_decide.2 ?_
    rw [← Nat.lt_succ_iff, Nat.div_lt_iff_lt_mul (by omega), Nat.mul_comm]
  generalize r / m = q at T hq ⊢
  have HT := Aside0.mk T
  clear T hbm hbr hm hr hfm hfr hfp hm0
  go_enter Tryz.func137, Tryz.ntmps137
  go_wp2
  go_loopw [5, 6] (fun vi vj wr => ∃ i j : Nat, vi = .int .i64 (i : Int) ∧ vj = .int .i64 (j : Int) ∧ i ≤ q ∧ q ≤ j ∧ j ≤ 999999999 ∧ Below w.heap.size w wr) (fun vi vj _ => (RowKit.intOf vj - RowKit.intOf vi).toNat)
  case atStart => exact ⟨0, 999999999, rfl, rfl, by omega, by omega, by omega, Below.refl _ _⟩
  case round =>
    obtain ⟨i, j, rfl, rfl, hi, hj, hj9, hbw⟩ := hrel
    by_cases hlt : i < j
    · have hT1 := HT.out wr ((i + j) / 2) (by omega) hbw
      rw [show (((i + j) / 2 : Nat) : Int) = ((i : Int) + (j : Int)) / 2 by omega] at hT1
      by_cases hqh : q ≤ (i + j) / 2
      · rw [decide_eq_true hqh] at hT1
        have H1 := Aside0.mk hT1
        clear hT1 HT
        go_wp2_with (first | (go_at_fn 138; refine H1.out.mono ?_; rintro e w3 ⟨rfl, hb3⟩) | (go_at_call 138; refine H1.out.mono ?_; rintro e w3 ⟨rfl, hb3⟩))
        go_roundw
        case rel => exact ⟨i, (i + j) / 2, rfl, congrArg (Value.int .i64) (by omega), hi, hqh, by omega, below_step hbw hb3⟩
        case measure => simp [RowKit.intOf]; omega
      · rw [decide_eq_false hqh] at hT1
        have H1 := Aside0.mk hT1
        clear hT1 HT
        go_wp2_with (first | (go_at_fn 138; refine H1.out.mono ?_; rintro e w3 ⟨rfl, hb3⟩) | (go_at_call 138; refine H1.out.mono ?_; rintro e w3 ⟨rfl, hb3⟩))
        go_roundw
        case rel => exact ⟨(i + j) / 2 + 1, j, by simp, rfl, by omega, hj, hj9, below_step hbw hb3⟩
        case measure => simp [RowKit.intOf]; omega
    · obtain rfl : i = q := by omega
      go_wp2
      go_ret
      exact ⟨rfl, hbw⟩
end Go.Proofs.YtfaibifilpfikaaGreatDoor.N4

set_option linter.unusedVariables false
set_option linter.unusedSimpArgs false
namespace Go.Proofs.YtfaibifilpfikaaGreatDoor.Rb
open Go.RowKit Go.Shelf Go.Proofs.YtfaibifilpfikaaGreatDoorW.PrintWords Go.Proofs.YtfaibifilpfikaaGreatDoorW.PrintLast Go.Proofs.YtfaibifilpfikaaGreatDoorW.PrintMore Go.Proofs.YtfaibifilpfikaaGreatDoor.A Go.Proofs.YtfaibifilpfikaaGreatDoor.N1 Go.Proofs.YtfaibifilpfikaaGreatDoor.Bw Go.Proofs.YtfaibifilpfikaaGreatDoor.N3 Go.Proofs.YtfaibifilpfikaaGreatDoor.N4

theorem add_block (ad : Addr) (k : Nat) : (ad.add k).block = ad.block := by unfold Addr.add; split <;> rfl
theorem C_move {w w' : World} {A : Option Addr} {n : Nat} {xs : List Int} (h : Kd.C (Kd.int .u64) w A n xs) (hm : ∀ ad, A = some ad → 0 < n → w'.heap[ad.block]? = w.heap[ad.block]?) : Kd.C (Kd.int .u64) w' A n xs := by
  obtain ⟨h1, h2, h3⟩ := h
  refine ⟨h1, h2, fun hn => ?_⟩
  obtain ⟨ad, e, hh⟩ := h3 hn
  refine ⟨ad, e, fun j p hj => ?_⟩
  obtain ⟨cs, q1, q2, q3⟩ := hh j p hj
  refine ⟨cs, q1, q2, fun i u hu => ?_⟩
  rw [World.cell?_of_block (w := w) (a := ad.add (j * (Kd.int .u64).sz + i)) (by rw [add_block]; exact hm ad e hn)]
  exact q3 i u hu
/-- A row of limbs in a block from base on. -/
def RowB (base : Nat) (w : World) (v : Value) (l : List Nat) : Prop := ∃ A c, v = .slice A (u64s l).length c ∧ (u64s l).length ≤ c ∧ Kd.C (Kd.int .u64) w A (u64s l).length (u64s l) ∧ ∀ ad, A = some ad → 0 < l.length → base ≤ ad.block
def NumB (base : Nat) (w : World) (v : Value) (n : Nat) : Prop := RowB base w v (Nb.limbs n)
variable {base base' : Nat} {w w' : World} {v : Value} {l : List Nat}
theorem RowB.row (h : RowB base w v l) : RowAt w v l := by
  obtain ⟨A, c, h1, h2, h3, _⟩ := h
  exact ⟨A, c, h1, h2, h3⟩
theorem NumB.num {n : Nat} (h : NumB base w v n) : NumAt w v n := RowB.row h
theorem RowB.mono (h : RowB base w v l) (hb : base' ≤ base) : RowB base' w v l := by
  obtain ⟨A, c, h1, h2, h3, h4⟩ := h
  exact ⟨A, c, h1, h2, h3, fun ad e hn => Nat.le_trans hb (h4 ad e hn)⟩
theorem RowB.below (h : RowB base w v l) (hb : Below w.heap.size w w') : RowB base w' v l := by
  obtain ⟨A, c, h1, h2, h3, h4⟩ := h
  exact ⟨A, c, h1, h2, Kd.C_below h3 hb, h4⟩
theorem RowB.nil (base : Nat) (w : World) : RowB base w (.slice none 0 0) [] := ⟨none, 0, rfl, Nat.le_refl _, Kd.C_nil _ _, fun _ e => by cases e⟩
theorem RowB.set (h : RowB base w v l) {p : Addr} (hp : p.block < base) (u : Value) : RowB base (w.setCell p u) v l := by
  obtain ⟨A, c, h1, h2, h3, h4⟩ := h
  refine ⟨A, c, h1, h2, C_move h3 (fun ad e hn => Below.heap_setCell _ _ _ _ ?_), h4⟩
  have := h4 ad e (by rwa [u64s_length] at hn)
  omega
theorem RowB.put (h : RowB base w v l) {k : Nat} {o₀ : Obj} (o : Obj) (hl : w.heap[k]? = some o₀) (hc : o₀.isCells = false) : RowB base (w.putObj k o) v l := by
  obtain ⟨A, c, h1, h2, h3, h4⟩ := h
  exact ⟨A, c, h1, h2, row_putObj h3 o hl hc, h4⟩
theorem RowB.V (h : RowB base w v l) {e b0 : Nat} : Kd.V (Kd.int .u64) e w b0 (fun k => base ≤ k) v (u64s l) := by
  obtain ⟨A, c, h1, h2, h3, h4⟩ := h
  refine ⟨A, c, h1, h2, fun W' hW => C_move h3 (fun ad e hn => hW _ (h4 ad e (by rwa [u64s_length] at hn)) ?_)⟩
  subst e
  exact Kd.C_lt h3 hn (by decide)
theorem RowB.of_V {e b0 : Nat} {ok : Nat → Prop} (h : Kd.V (Kd.int .u64) e w b0 ok v (u64s l)) (hok : ∀ k, ok k → base ≤ k) : RowB base w v l := by
  obtain ⟨A, c, h1, h2, hf⟩ := h
  refine ⟨A, c, h1, h2, Kd.F_now hf, fun ad e hn => ?_⟩
  subst e
  by_cases hb : base ≤ ad.block
  · exact hb
  · exfalso
    have hn' : 0 < (u64s l).length := by rw [u64s_length]; exact hn
    have hlt := Kd.C_lt (Kd.F_now hf) hn' (by decide)
    have hC := hf (w.putObj ad.block (.deferred none)) (fun k hk _ => World.putObj_heap_other (fun e => by subst e; exact hb (hok _ hk)))
    have hne := Kd.C_not_empty hC hn' (by decide)
    apply hne
    have hp : (w.putObj ad.block (.deferred none)).heap[ad.block]? = some (.deferred none) := World.putObj_heap_same hlt
    unfold World.cell?
    rw [hp]
theorem trimB (l : List Nat) (hl : l.length ≤ 100000) (w : World) (v : Value) (base : Nat) (hb : base ≤ w.heap.size) (h : RowB base w v l) :
    Calls Tryz.prog 134 #[v] w fun e w' => ∃ v', e = .returned v' ∧ RowB base w' v' (Nb.trim l) ∧ Below w.heap.size w w' := by
  obtain ⟨A, c, rfl, hc, hC⟩ := h.row
  refine (natural_number_trim.calls (l.length + 1) (fun k => base ≤ k) A c (u64s l) _ w h.V (trim_f _ l (by omega) (by omega))).mono ?_
  rintro e w' ⟨v', rfl, hv, hb'⟩
  exact ⟨v', rfl, RowB.of_V hv (fun k hk => by rcases hk with hk | hk; exact hk; omega), hb'⟩
theorem subB (a b : Nat) (ha : Few a) (hab : b ≤ a) (w : World) (u v : Value) (hu : NumAt w u a) (hv : NumAt w v b) :
    Calls Tryz.prog 140 #[u, v] w fun e w' => ∃ v', e = .returned v' ∧ NumB w.heap.size w' v' (a - b) ∧ Below w.heap.size w w' := by
  obtain ⟨A, c, rfl, hc, hC⟩ := hu
  obtain ⟨B, d, rfl, hd, hD⟩ := hv
  unfold Few at ha
  refine (natural_number_sub.calls (2 * (Nb.limbs a).length + 3) A c (u64s (Nb.limbs a)) B d (u64s (Nb.limbs b)) _ w hC hc hD hd (sub_f _ _ _ (Nb.ok_limbs a) (Nb.ok_limbs b) (by omega) (by omega))).mono ?_
  rintro e w' ⟨v', rfl, hv, hb⟩
  rw [Nb.sub_limbs a b hab] at hv
  exact ⟨v', rfl, RowB.of_V hv (fun k hk => hk), hb⟩
theorem mulB (a b : Nat) (ha : Few a) (hb : Few b) (w : World) (u v : Value) (hu : NumAt w u a) (hv : NumAt w v b) :
    Calls Tryz.prog 139 #[u, v] w fun e w' => ∃ v', e = .returned v' ∧ NumB w.heap.size w' v' (a * b) ∧ Below w.heap.size w w' := by
  obtain ⟨A, c, rfl, hc, hC⟩ := hu
  obtain ⟨B, d, rfl, hd, hD⟩ := hv
  unfold Few at ha hb
  refine (natural_number_mul.calls ((Nb.limbs a).length * ((Nb.limbs b).length + 2) + (Nb.limbs a).length + (Nb.limbs b).length + 3) A c (u64s (Nb.limbs a)) B d (u64s (Nb.limbs b)) _ w hC hc hD hd (mul_f _ _ _ (Nb.ok_limbs a) (Nb.ok_limbs b) (by omega) (by omega))).mono ?_
  rintro e w' ⟨v', rfl, hv, hb⟩
  rw [Nb.mul_limbs a b] at hv
  exact ⟨v', rfl, RowB.of_V hv (fun k hk => hk), hb⟩
/-! ### One operation of a region without a drawn order, in a round: walked as anywhere -/
section
variable {P : Program} {ops : Array Oper} {Q : Exit → Act → World → Prop} {md : Region.Mode} {S : World → Prop} {ds : List Nat}
theorem rowsIn_round {n l : Nat} {row : String} {args : Array Value} {w : World} {R : Value → World → Prop} (h : Rows P row args w R) : RowsIn (Fence.wide.inRound l) n P row args w R :=
  fun c cs _ => let ⟨v, w', r, s⟩ := h c cs; ⟨v, w', r, by rw [fenced_inRound]; exact stepsIn_wide.2 s⟩
theorem operIn_round {n l : Nat} {o : Oper} {a : Act} {w : World} {K : Act → World → Prop} (hd : ∀ c, o.op ≠ .defer c) (h : o.wp P a w K Q) : o.wpIn (Fence.wide.inRound l) n P a w K Q := by
  refine ⟨fun _ _ => trivial, ?_⟩
  rw [Oper.semAt_eq _ _ _ hd]
  unfold Oper.wp at h
  have hdep : (Fence.wide.inRound l).depth.isSome = true → 1 ≤ n := fun e => by simp [Fence.wide] at e
  generalize (execOp a.eval o).run P w = r at *
  cases r with
  | ok x w' =>
    cases x with
    | value v => exact h
    | skip => exact h
    | defer d => exact h
    | enter f args => exact ⟨hdep, CallsIn.inRound l (callsIn_wide.2 h)⟩
    | row row args => exact ⟨hdep, rowsIn_round h⟩
    | _ => simp [Oper.upon] at h
  | halt x w' => cases x <;> first | exact h | (simp only [Oper.upon] at h)
theorem wpOpIn_round {n l i : Nat} {a : Act} {w : World} {K : Act → World → Prop} (hd : ∀ o c, ops[i]? = some o → o.op ≠ .defer c) (hQ : ¬ LetsOut Q) (h : wpOp P ops Q i K a w) : wpOpIn (Fence.wide.inRound l) n P ops Q i K a w := by
  unfold wpOp at h
  unfold wpOpIn
  split
  · rename_i e; rw [e] at h; exact h
  · rename_i o e
    rw [e] at h
    simp only at h
    split
    · rename_i hw
      rw [if_pos hw] at h
      rcases h with h | h
      · exact operIn_round (fun c => hd o c e) h
      · exact absurd h.2 hQ
    · rename_i hw
      rw [if_neg hw] at h
      exact ⟨fun _ _ => trivial, h⟩

theorem wpAnyIn_round {n l : Nat} (hd : ∀ (i : Nat) (o : Oper) c, ops[i]? = some o → o.op ≠ .defer c) (hQ : ¬ LetsOut Q) : ∀ (fuel : Nat) (listed : Array Bool) (a : Act) (w : World), wpAny P md ops Q fuel listed a w → wpAnyIn (Fence.wide.inRound l) n P md ops Q fuel listed a w
  | 0, _, _, _, h => h
  | fuel + 1, _, _, _, h => ⟨h.1, fun i hi => wpOpIn_mono (fun a' w' h' => wpAnyIn_round hd hQ fuel _ a' w' h') (wpOpIn_round (fun o c => hd i o c) hQ (h.2 i hi))⟩

def noDefer (ops : Array Oper) : Bool := ops.all fun o => match o.op with | .defer _ => false | _ => true
theorem noDefer_spec (h : noDefer ops = true) (i : Nat) (o : Oper) (c : Call) (hi : ops[i]? = some o) : o.op ≠ .defer c := by
  intro e
  have := Array.all_eq_true.1 h i (Array.getElem?_eq_some_iff.1 hi).1
  rw [(Array.getElem?_eq_some_iff.1 hi).2, e] at this
  simp at this

/-- The begin of a region that draws its order, in a round. -/
theorem startIn_ {id n m l : Nat} {a : Act} {w : World} (lst : Array Bool) (hm : P.follows .mixedOrders = true) (hn : ops.size = n) (hl : Array.replicate n false = lst) (hd : noDefer ops = true) (hQ : ¬ LetsOut Q) (hS : S w.drew)
    (h : S w.drew → wpAnyLast P .any ops Q S ds n lst a w.drew) : (Code.region id ops true).wpIn (Fence.wide.inRound l) m P Q a w := by
  subst hn
  subst hl
  exact wpIn_region_any hm (wpAnyIn_round (noDefer_spec hd) hQ _ _ _ _ (wpAny_of_last _ _ _ _ (h hS)))

/-- What follows an operation, as a post of its own. -/
def After (Q : Exit → Act → World → Prop) (K : Act → World → Prop) : Exit → Act → World → Prop
  | .normal, a, w => K a w
  | e, a, w => Q e a w
theorem one_in {n l : Nat} {o : Oper} {rest : List Oper} {a : Act} {W : World} (hd : ∀ c, o.op ≠ .defer c) (hQ : ¬ LetsOut Q) (hw : Region.wanted o (yielded ops a.tmps) = true)
    (h : wpList P ops (After Q (wpListIn (Fence.wide.inRound l) n P ops Q rest)) [o] a W) : wpListIn (Fence.wide.inRound l) n P ops Q (o :: rest) a W := by
  unfold wpListIn
  rw [if_pos hw]
  unfold wpList at h
  rw [if_pos hw] at h
  rcases h with h | h
  · refine operIn_round hd ?_
    unfold Oper.wp at h ⊢
    generalize (execOp a.eval o).run P W = r at *
    cases r with
    | ok x w' => cases x <;> first | exact h | (simp [Oper.upon] at h)
    | halt x w' => cases x <;> first | exact h | (simp [Oper.upon] at h)
  · exact absurd h.2 hQ
end
end Go.Proofs.YtfaibifilpfikaaGreatDoor.Rb

namespace Go.Proofs.YtfaibifilpfikaaGreatDoor.N5
open Go.RowKit Go.Shelf Go.Proofs.YtfaibifilpfikaaGreatDoorW.PrintWords Go.Proofs.YtfaibifilpfikaaGreatDoorW.PrintLast Go.Proofs.YtfaibifilpfikaaGreatDoorW.PrintMore Go.Proofs.YtfaibifilpfikaaGreatDoor.A Go.Proofs.YtfaibifilpfikaaGreatDoor.N1 Go.Proofs.YtfaibifilpfikaaGreatDoor.Bw Go.Proofs.YtfaibifilpfikaaGreatDoor.N3 Go.Proofs.YtfaibifilpfikaaGreatDoor.N4 Go.Proofs.YtfaibifilpfikaaGreatDoor.Rb
attribute [local go_sem] Oper.semAt_some
set_option linter.unusedVariables false
set_option linter.unusedSimpArgs false

def qcells (qs : List Nat) : Array Value := (qs.map fun (n : Nat) => Value.int .u64 (n : Int)).toArray
/-- The four blocks of div: the divisor's box, the quotient's row, its box, the rest's box. -/
structure Bx4 (b : Nat) (vm : Value) (n : Nat) (qs : List Nat) (vr : Value) (W : World) : Prop where
  m : W.heap[b]? = some (.cells #[vm] 105 (0, 0))
  row : W.heap[b + 1]? = some (.cells (qcells qs) 124 (0, 0))
  q : W.heap[b + 2]? = some (.cells #[.slice (some ⟨b + 1, 0, none⟩) n n] 105 (0, 0))
  r : W.heap[b + 3]? = some (.cells #[vr] 105 (0, 0))
section
variable {b n : Nat} {vm vr : Value} {qs : List Nat} {W W' : World}
theorem Bx4.below (h : Bx4 b vm n qs vr W) (hb : Below W.heap.size W W') : Bx4 b vm n qs vr W' := ⟨blk_below h.m hb, blk_below h.row hb, blk_below h.q hb, blk_below h.r hb⟩
theorem Bx4.setR (h : Bx4 b vm n qs vr W) (u : Value) : Bx4 b vm n qs u (W.setCell ⟨b + 3, 0, none⟩ u) :=
  ⟨blk_far h.m (by simp) u, blk_far h.row (by simp) u, blk_far h.q (by simp) u, by have := blk_put h.r 0 u rfl; simpa using this⟩
theorem qcells_set (qs : List Nat) (j v : Nat) : (qcells qs).setIfInBounds j (.int .u64 (v : Int)) = qcells (qs.set j v) := by
  unfold qcells
  rw [List.setIfInBounds_toArray, List.map_set]
theorem Bx4.setQ (h : Bx4 b vm n qs vr W) (j v : Nat) : Bx4 b vm n (qs.set j v) vr (W.setCell ⟨b + 1, j, none⟩ (.int .u64 (v : Int))) :=
  ⟨blk_far h.m (by simp) _, by have := blk_put h.row j (.int .u64 (v : Int)) rfl; rwa [qcells_set] at this, blk_far h.q (by simp) _, blk_far h.r (by simp) _⟩
theorem Bx4.put {l : Nat} {o₀ : Obj} (h : Bx4 b vm n qs vr W) (o : Obj) (hl : W.heap[l]? = some o₀) (hc : o₀.isCells = false) : Bx4 b vm n qs vr (W.putObj l o) := by
  have hne : ∀ k cs t, W.heap[k]? = some (.cells cs t (0, 0)) → k ≠ l := fun k cs t hk e => by subst e; rw [hk] at hl; cases hl; simp [Obj.isCells] at hc
  exact ⟨(World.putObj_heap_other (hne _ _ _ h.m)).trans h.m, (World.putObj_heap_other (hne _ _ _ h.row)).trans h.row, (World.putObj_heap_other (hne _ _ _ h.q)).trans h.q, (World.putObj_heap_other (hne _ _ _ h.r)).trans h.r⟩
theorem Bx4.lt (h : Bx4 b vm n qs vr W) : b + 4 ≤ W.heap.size := by have := (Array.getElem?_eq_some_iff.1 h.r).1; omega
end
/-- Between two rounds: the limbs from j on have been divided. -/
def Dv (b : Nat) (w : World) (vm : Value) (xs : List Nat) (M : Nat) (j : Nat) (W : World) : Prop := ∃ (qs : List Nat) (vr : Value), Bx4 b vm (u64s xs).length qs vr W ∧ NumB (b + 4) W vr (Nb.val (xs.drop j) % M) ∧
  qs.length = xs.length ∧ Nb.Ok qs ∧ qs.take j = List.replicate j 0 ∧ Nb.val (qs.drop j) = Nb.val (xs.drop j) / M ∧ Below b w W

theorem q_zero {qs : List Nat} {j : Nat} (hz : qs.take (j + 1) = List.replicate (j + 1) 0) (hl : j < qs.length) : qs.drop j = 0 :: qs.drop (j + 1) ∧ qs.take j = List.replicate j 0 := by
  have h0 : qs[j] = 0 := by
    have h1 : (qs.take (j + 1))[j]'(by rw [List.length_take]; omega) = 0 := by
      simp only [hz]
      exact List.getElem_replicate ..
    rw [← h1, List.getElem_take]
  refine ⟨?_, ?_⟩
  · rw [List.drop_eq_getElem_cons hl, h0]
  · have := congrArg (List.take j) hz
    rwa [List.take_take, Nat.min_eq_left (by omega), List.take_replicate, Nat.min_eq_left (by omega)] at this
theorem ok_set {qs : List Nat} (h : Nb.Ok qs) {j v : Nat} (hv : v < 1000000000) : Nb.Ok (qs.set j v) := fun y hy => by
  rcases List.mem_or_eq_of_mem_set hy with hy | rfl
  · exact h y hy
  · exact hv
theorem cmp_lt {a b : Nat} (h : a < b) : cmpN a b = -1 := by unfold cmpN; rw [if_pos h]
theorem cmp_gt {a b : Nat} (h : b < a) : cmpN a b = 1 := by unfold cmpN; rw [if_neg (by omega), if_pos h]
theorem cmp_eq (a : Nat) : cmpN a a = 0 := by unfold cmpN; rw [if_neg (Nat.lt_irrefl _), if_neg (Nat.lt_irrefl _)]
theorem search_d (bm br m r q : Nat) (hdq : r / m = q) (hfm : Few m) (hfr : Few r) (hfp : Few (m * 1000000000)) (hq : q < 1000000000) (hm0 : m ≠ 0) (w : World) (vm vr : Value) (hbm : w.heap[bm]? = some (.cells #[vm] 105 (0, 0))) (hbr : w.heap[br]? = some (.cells #[vr] 105 (0, 0))) (hm : NumAt w vm m) (hr : NumAt w vr r) :
    Calls Tryz.prog 137 #[.int .i64 999999999, .func (.func 138) #[] #[.pointer (some ⟨bm, 0, none⟩), .pointer (some ⟨br, 0, none⟩)]] w fun e w' => e = .returned (.int .i64 (q : Int)) ∧ Below w.heap.size w w' := by
  subst hdq
  exact search_any bm br m r hfm hfr hfp hq hm0 w vm vr hbm hbr hm hr
theorem info124 : (Tryz.prog.info? 124).map (fun i => (i.zero, i.size, i.bytes)) = some (some (.int .u64 0), 1, 8) := by kernel_rfl
theorem made_q (n : Nat) : madeCells #[.int .u64 0] n = qcells (List.replicate n 0) := by
  rw [← Array.toList_inj, toList_madeCells_one]
  unfold qcells
  rw [List.map_replicate]
  rfl
def noPanic (Q : Exit → Act → World → Prop) : Exit → Act → World → Prop
  | .panic _, _, _ => False
  | e, a, w => Q e a w
def DivPost (N M : Nat) (w : World) (e : Ending) (w' : World) : Prop := ∃ q r, e = .returned (.tuple #[q, r]) ∧ NumB w.heap.size w' q (N / M) ∧ NumB w.heap.size w' r (N % M) ∧ Below w.heap.size w w'
theorem row_q {b : Nat} {W : World} {qs : List Nat} (h : W.heap[b + 1]? = some (.cells (qcells qs) 124 (0, 0))) (hl : qs.length ≤ 1000000) : RowB b W (.slice (some ⟨b + 1, 0, none⟩) (u64s qs).length (u64s qs).length) qs := by
  refine ⟨_, _, rfl, Nat.le_refl _, ⟨rfl, by rw [u64s_length]; omega, fun _ => ⟨_, rfl, fun j p hj => ⟨[.int .u64 p], rfl, rfl, fun i u hi => ?_⟩⟩⟩, fun ad e _ => by cases e; exact Nat.le_succ b⟩
  have hi0 : i = 0 := by
    have := (List.getElem?_eq_some_iff.1 hi).1
    simp at this
    exact this
  subst hi0
  obtain rfl := Option.some.inj hi
  have hadd : (⟨b + 1, 0, none⟩ : Addr).add (j * (Kd.int .u64).sz + 0) = ⟨b + 1, j, none⟩ := by
    show (⟨b + 1, 0, none⟩ : Addr).add (j * 1 + 0) = _
    unfold Addr.add; split <;> simp_all
  rw [hadd, blk_cell h j]
  unfold qcells
  rw [List.getElem?_toArray, List.getElem?_map]
  unfold u64s at hj
  rw [List.getElem?_map] at hj
  cases hq : qs[j]? with
  | none => rw [hq] at hj; cases hj
  | some y => rw [hq] at hj; obtain rfl := Option.some.inj hj; rfl
set_option maxRecDepth 100000 in
set_option maxHeartbeats 2000000 in
theorem div_any (N M : Nat) (hN : Few N) (hM : Few (M * 1000000000)) (hM0 : M ≠ 0) (w : World) (u v : Value) (hu : NumAt w u N) (hv : NumAt w v M) :
    Calls Tryz.prog 108 #[u, v] w (DivPost N M w) := by
  have HU := Aside0.mk hu
  have HV := Aside0.mk hv
  obtain ⟨A, c, rfl, hc, hC⟩ := hu
  obtain ⟨B, d, rfl, hd, hD⟩ := hv
  have HX : Aside0 ((Nb.limbs N).length ≤ 1000000) := Aside0.mk (by unfold Few at hN; omega)
  have HL := Aside0.mk (u64s_length (Nb.limbs N))
  have HA := Aside0.mk hC
  have HFN := Aside0.mk hN
  have HFM := Aside0.mk hM
  clear hc hC hd hD hN hM
  have hnl : ((u64s (Nb.limbs N)).length : Int) ≤ 1000000 := by rw [HL.out]; have := HX.out; omega
  have hms := print_make (P := Tryz.prog) 105 124 .u64 8 Tryz.underlying105 info124 (by decide) (u64s (Nb.limbs N)).length (by omega)
  rw [made_q] at hms
  refine (callsIn_wide (n := 2)).1 ?_
  refine callsIn_of_wp_marks Tryz.func108 rfl trivial ?_ rfl
  refine wpIn_mono (Q := noPanic (bodyPostM Fence.wide 2 Tryz.prog Tryz.f108 (DivPost N M w))) ?_ (fun e a w h => by cases e <;> first | exact h | exact h.elim)
  simp only [Tryz.ntmps108, List.size_toArray, List.length_cons, List.length_nil, Nat.reduceAdd, Nat.reduceSub, Array.replicate_succ, Array.replicate_zero, List.push_toArray, List.append_toArray, List.nil_append, List.cons_append]
  gi_wp2_with (refine ⟨trivial, ?_⟩; refine callsIn_wide.2 ((back_any _ _ _ _).mono ?_); rintro e w2 ⟨rfl, rfl⟩)
  simp only [Nat.add_assoc, Nat.reduceAdd]
  generalize hxs : Nb.limbs N = xs at *
  obtain ⟨W0, hW0⟩ : ∃ W0, (((((w.alloc (.cells #[.slice B (u64s (Nb.limbs M)).length d] 105)).alloc (.cells (qcells (List.replicate (u64s xs).length 0)) 124)).alloc (.cells #[.slice (some ⟨w.heap.size + 1, 0, none⟩) (u64s xs).length (u64s xs).length] 105)).alloc (.cells #[.slice none 0 0] 105)).alloc (.cells #[.slice A (u64s xs).length c] 105)) = W0 := ⟨_, rfl⟩
  rw [hW0]
  have z0 : W0.heap.size = w.heap.size + 5 := by rw [← hW0]; simp
  have k0 : W0.heap[w.heap.size]? = some (.cells #[.slice B (u64s (Nb.limbs M)).length d] 105 (0, 0)) := by rw [← hW0]; exact blk_alloc (blk_alloc (blk_alloc (blk_alloc (blk_new _ _) _) _) _) _
  have k1 : W0.heap[w.heap.size + 1]? = some (.cells (qcells (List.replicate (u64s xs).length 0)) 124 (0, 0)) := by
    rw [← hW0]; exact blk_alloc (blk_alloc (blk_alloc (by have := blk_new (w.alloc (.cells #[.slice B (u64s (Nb.limbs M)).length d] 105)) (.cells (qcells (List.replicate (u64s xs).length 0)) 124); simpa using this) _) _) _
  have k2 : W0.heap[w.heap.size + 2]? = some (.cells #[.slice (some ⟨w.heap.size + 1, 0, none⟩) (u64s xs).length (u64s xs).length] 105 (0, 0)) := by
    rw [← hW0]; exact blk_alloc (blk_alloc (by have := blk_new ((w.alloc (.cells #[.slice B (u64s (Nb.limbs M)).length d] 105)).alloc (.cells (qcells (List.replicate (u64s xs).length 0)) 124)) (.cells #[.slice (some ⟨w.heap.size + 1, 0, none⟩) (u64s xs).length (u64s xs).length] 105); simpa using this) _) _
  have k3 : W0.heap[w.heap.size + 3]? = some (.cells #[.slice none 0 0] 105 (0, 0)) := by
    rw [← hW0]; exact blk_alloc (by have := blk_new (((w.alloc (.cells #[.slice B (u64s (Nb.limbs M)).length d] 105)).alloc (.cells (qcells (List.replicate (u64s xs).length 0)) 124)).alloc (.cells #[.slice (some ⟨w.heap.size + 1, 0, none⟩) (u64s xs).length (u64s xs).length] 105)) (.cells #[.slice none 0 0] 105); simpa using this) _
  have k4 : W0.heap[w.heap.size + 4]? = some (.cells #[.slice A (u64s xs).length c] 105 (0, 0)) := by
    rw [← hW0]; have := blk_new ((((w.alloc (.cells #[.slice B (u64s (Nb.limbs M)).length d] 105)).alloc (.cells (qcells (List.replicate (u64s xs).length 0)) 124)).alloc (.cells #[.slice (some ⟨w.heap.size + 1, 0, none⟩) (u64s xs).length (u64s xs).length] 105)).alloc (.cells #[.slice none 0 0] 105)) (.cells #[.slice A (u64s xs).length c] 105); simpa using this
  have hbel : Below w.heap.size w W0 := by rw [← hW0]; exact (((((Below.refl _ w).alloc (Nat.le_refl _) _).alloc (by simp) _).alloc (by simp; omega) _).alloc (by simp; omega) _).alloc (by simp; omega) _
  clear hW0 hms
  have HVw := Aside0.mk (HV.out)
  refine wp_back (bs := w.heap.size + 4) (A := A) (c := c) (xs := xs) rfl HX.out rfl ⟨k4, Kd.C_below HA.out hbel⟩
    (Dv w.heap.size w (.slice B (u64s (Nb.limbs M)).length d) xs M) (fun _ _ _ => False) ?hIb ?hIo ?hXo ?h0 ?a1 ?hassign ?hbody ?hdone ?hstop
  case hIb =>
    rintro i W W' ⟨qs, vr, h1, h2, h3, h4, h5, h6, h7⟩ hb
    exact ⟨qs, vr, h1.below hb, RowB.below h2 hb, h3, h4, h5, h6, h7.trans (hb.mono h7.size)⟩
  case hIo =>
    rintro i W l o ⟨qs, vr, h1, h2, h3, h4, h5, h6, h7⟩ hl ⟨o₀, ho, hc⟩
    exact ⟨qs, vr, h1.put o ho hc, RowB.put h2 o ho hc, h3, h4, h5, h6, below_put o h7 (Nat.le_refl _) (by omega)⟩
  case hXo => exact fun _ _ _ _ _ h => h.elim
  case h0 =>
    refine ⟨List.replicate (u64s xs).length 0, .slice none 0 0, ⟨k0, k1, k2, k3⟩, ?_, ?_, ?_, ?_, ?_, hbel⟩
    · rw [List.drop_length, show Nb.val [] = 0 from rfl, Nat.zero_mod]
      unfold NumB
      rw [Nb.limbs_zero]
      exact RowB.nil _ _
    · rw [List.length_replicate, HL.out]
    · exact fun y hy => by rw [List.eq_of_mem_replicate hy]; decide
    · rw [HL.out, List.take_of_length_le (by simp)]
    · rw [List.drop_length, HL.out, List.drop_eq_nil_of_le (by simp)]
      show 0 = 0 / M
      rw [Nat.zero_div]
  case hassign =>
    intro l j W K hK
    gi_wp2
    exact hK
  case hbody =>
    rintro l j W ⟨qs, vr, hB4, hr, hql, hqo, hqz, hqv, hbw⟩ hR hj
    have hxd : xs.drop j = xs[j] :: xs.drop (j + 1) := List.drop_eq_getElem_cons hj
    have hgx : xs[j]?.getD 0 = xs[j] := by rw [List.getElem?_eq_getElem hj]; rfl
    have hok : Nb.Ok xs := hxs ▸ Nb.ok_limbs N
    have hx9 := hok _ (List.getElem_mem hj)
    have hVx : Nb.val (xs.drop j) = xs[j] + 1000000000 * Nb.val (xs.drop (j + 1)) := by rw [hxd]; rfl
    have hst := Nb.div_step xs[j] (Nb.val (xs.drop (j + 1))) M
    have hrM := Nat.mod_lt (Nb.val (xs.drop (j + 1))) (Nat.pos_of_ne_zero hM0)
    have hdm := Nb.div_small (M := M) hx9 hrM
    rw [← hVx] at hst
    rw [← hgx] at hx9 hst hdm
    generalize hr0 : Nb.val (xs.drop (j + 1)) % M = r at hr hst hdm hrM
    generalize hx0 : xs[j]?.getD 0 = x at hx9 hst hdm ⊢
    have hr9 : x + 1000000000 * r ≤ M * 1000000000 := by omega
    have HF1 : Aside0 (Few (x + 1000000000 * r)) := Aside0.mk (Nat.le_trans (Nb.limbs_len_le hr9) HFM.out)
    have HF2 : Aside0 (Few M) := Aside0.mk (Nat.le_trans (Nb.limbs_len_le (by omega)) HFM.out)
    have hrl : (Nb.limbs r).length ≤ 4000 := Nat.le_trans (Nb.limbs_len_le (by omega)) HF2.out
    have HOK : Aside0 (Nb.Ok (x :: Nb.limbs r)) := Aside0.mk (fun y hy => by
      rcases List.mem_cons.1 hy with rfl | hy
      · exact hx9
      · exact Nb.ok_limbs r y hy)
    have HTR : Aside0 (Nb.trim (x :: Nb.limbs r) = Nb.limbs (x + 1000000000 * r)) := Aside0.mk (by rw [Nb.trim_limbs HOK.out, Nb.val, Nb.val_limbs])
    have hlt4 := hB4.lt
    have HB4 := Aside0.mk hB4
    have HRf := Aside0.mk hR
    have HBW := Aside0.mk hbw
    have HQL := Aside0.mk hql
    have HQO := Aside0.mk hqo
    have HQZ := Aside0.mk hqz
    have HQV := Aside0.mk hqv
    have HST := Aside0.mk hst
    have HDM := Aside0.mk hdm
    have HJ := Aside0.mk hj
    have HRL := Aside0.mk hrl
    have c3 : W.cell? ⟨w.heap.size + 3, 0, none⟩ = some vr := (blk_cell hB4.r 0).trans rfl
    have c0 : W.cell? ⟨w.heap.size, 0, none⟩ = some (.slice B (u64s (Nb.limbs M)).length d) := (blk_cell hB4.m 0).trans rfl
    have c2 : W.cell? ⟨w.heap.size + 2, 0, none⟩ = some (.slice (some ⟨w.heap.size + 1, 0, none⟩) (u64s xs).length (u64s xs).length) := (blk_cell hB4.q 0).trans rfl
    obtain ⟨Ar, cr, rfl, hcr, hCr, hAr⟩ := hr
    have c3a : (W.alloc (.cells #[.int .u64 (x : Int)] 124)).cell? ⟨w.heap.size + 3, 0, none⟩ = some (.slice Ar (u64s (Nb.limbs r)).length cr) := (blk_cell (blk_alloc HB4.out.r _) 0).trans rfl
    have HCR := Aside0.mk (Kd.C_alloc hCr (.cells #[.int .u64 (x : Int)] 124))
    have HO : Aside0 ((Kd.int .u64).R 124 (W.alloc (.cells #[.int .u64 (x : Int)] 124)) W.heap.size (fun k => W.heap.size ≤ k) (.slice (some ⟨W.heap.size, 0, none⟩) 1 1) [(x : Int)]) :=
      Aside0.mk (Kd.R_of_own (World.ownsRow_lit W #[.int .u64 (x : Int)] 1 (Nat.le_refl _) (by decide) rfl) (fun k hk => by simp [Value.ownBlock] at hk; omega))
    clear hxd hgx hok hx9 hVx hst hrM hdm hr9 hB4 hR hbw hql hqo hqz hqv hrl hcr hCr hAr hj
    have hjl : j < (u64s xs).length := by rw [HL.out]; exact HJ.out
    have HQ0 : Aside0 ((qcells qs)[j]? = some (.int .u64 0)) := Aside0.mk (by
      have hjq : j < qs.length := by rw [HQL.out]; exact HJ.out
      have h0 : qs[j]? = some 0 := by
        have := (q_zero HQZ.out hjq).1
        rw [List.drop_eq_getElem_cons hjq] at this
        rw [List.getElem?_eq_getElem hjq, (List.cons.inj this).1]
      unfold qcells
      rw [List.getElem?_toArray, List.getElem?_map, h0]
      rfl)
    by_cases hlt : x + 1000000000 * r < M
    · gi_wp2_with (first | (gi_at_builtin; refine one_in (fun c e => by cases e) (by rintro ⟨a', w', h'⟩; exact h'.elim) rfl ?_; refine Kd.R_append_row (Value.int .u64) (0 : Int) W.heap.size rfl (.tmp 19) (.tmp 20) 105 124 (.int .u64 0) 8 rfl Tryz.underlying105 info124 rfl (by decide) _ [(x : Int)] (u64s (Nb.limbs r)) Ar _ cr (fun k => W.heap.size ≤ k) rfl rfl (fun k hk => by simp at hk; omega) HO.out HCR.out (below_alloc (Below.refl _ _) _) (by simp) (by rw [u64s_length]; have := HRL.out; simp; omega) ?_; intro v1 w1 ho hb hg hat; have HV1 := Aside0.mk (RowB.of_V (l := x :: Nb.limbs r) (base := w.heap.size + 4) (Kd.R_V (base' := 0) ho) (fun k hk => by omega)); have HB1 := Aside0.mk hb; clear ho hb hg hat HO HCR; refine (show wpListIn (Fence.wide.inRound l) 0 Tryz.prog _ _ _ _ _ from ?_)) | (refine ⟨trivial, rfl, ?_⟩; refine CallsIn.inRound l (callsIn_wide.2 ((trimB (x :: Nb.limbs r) (by have := HRL.out; simp; omega) w1 v1 (w.heap.size + 4) (Nat.le_trans hlt4 HB1.out.size) HV1.out).mono ?_)); rintro e w2 ⟨vt0, rfl, ht0, hb2⟩; rw [HTR.out] at ht0; obtain ⟨At, ct, rfl, ht1, ht2, ht3⟩ := ht0; have ht : NumB (w.heap.size + 4) w2 (.slice At (u64s (Nb.limbs (x + 1000000000 * r))).length ct) (x + 1000000000 * r) := ⟨At, ct, rfl, ht1, ht2, ht3⟩; clear ht1 ht2 ht3; have HB2 := Aside0.mk (HB1.out.trans (hb2.mono HB1.out.size)); have K2 := Aside0.mk (HB4.out.below HB2.out); have c32 : w2.cell? ⟨w.heap.size + 3, 0, none⟩ = some (.slice Ar (u64s (Nb.limbs r)).length cr) := (blk_cell K2.out.r 0).trans rfl; have f32 := blk_frozen K2.out.r 0; have K3 := Aside0.mk (K2.out.setR (.slice At (u64s (Nb.limbs (x + 1000000000 * r))).length ct)); have c33 : (w2.setCell ⟨w.heap.size + 3, 0, none⟩ (.slice At (u64s (Nb.limbs (x + 1000000000 * r))).length ct)).cell? ⟨w.heap.size + 3, 0, none⟩ = some (.slice At (u64s (Nb.limbs (x + 1000000000 * r))).length ct) := (blk_cell K3.out.r 0).trans rfl; have c30 : (w2.setCell ⟨w.heap.size + 3, 0, none⟩ (.slice At (u64s (Nb.limbs (x + 1000000000 * r))).length ct)).cell? ⟨w.heap.size, 0, none⟩ = some (.slice B (u64s (Nb.limbs M)).length d) := (blk_cell K3.out.m 0).trans rfl; have HT3 := Aside0.mk (RowB.set (p := ⟨w.heap.size + 3, 0, none⟩) ht (by simp) (.slice At (u64s (Nb.limbs (x + 1000000000 * r))).length ct)); have HB3 := Aside0.mk ((HBW.out.trans (HB2.out.mono HBW.out.size)).setCell (p := ⟨w.heap.size + 3, 0, none⟩) (by simp) (.slice At (u64s (Nb.limbs (x + 1000000000 * r))).length ct)); have HK3 := Aside0.mk ((keeps_below HB2.out).trans (KeepsOthers.setCell w2 ⟨w.heap.size + 3, 0, none⟩ (.slice At (u64s (Nb.limbs (x + 1000000000 * r))).length ct))); have HR3 := Aside0.mk (show Rf (w.heap.size + 4) A c xs (w2.setCell ⟨w.heap.size + 3, 0, none⟩ (.slice At (u64s (Nb.limbs (x + 1000000000 * r))).length ct)) from ⟨blk_far (HRf.out.below HB2.out).box (by simp) _, Kd.C_below HA.out HB3.out⟩); clear ht hb2 HB1 HB2 HV1 K2) | (refine ⟨trivial, rfl, ?_⟩; refine CallsIn.inRound l (callsIn_wide.2 ((compareS (x + 1000000000 * r) M HF1.out HF2.out _ _ _ (NumB.num HT3.out) (HV.out.below HB3.out)).mono ?_)); rintro e w4 ⟨rfl, hb4⟩; rw [cmp_lt hlt]; have K4 := Aside0.mk (K3.out.below hb4); have HT4 := Aside0.mk (RowB.below HT3.out hb4); have HB5 := Aside0.mk (below_step HB3.out hb4); have HK4 := Aside0.mk (HK3.out.trans (keeps_below hb4)); have HR4 := Aside0.mk (HR3.out.below hb4); clear hb4 K3 HT3 HB3 HK3 HR3 c32 f32 c33 c30))
      have hjq : j < qs.length := by rw [HQL.out]; exact HJ.out
      refine ⟨HK4.out, ⟨qs, (.slice At (u64s (Nb.limbs (x + 1000000000 * r))).length ct), K4.out, ?_, HQL.out, HQO.out, (q_zero HQZ.out hjq).2, ?_, HB5.out⟩, HR4.out⟩
      · rw [HST.out.2, Nat.mod_eq_of_lt hlt]; exact HT4.out
      · rw [HST.out.1, Nat.div_eq_of_lt hlt, (q_zero HQZ.out hjq).1, Nb.val, HQV.out]
    · obtain ⟨dg, hdg⟩ : ∃ dg, (x + 1000000000 * r) / M = dg := ⟨_, rfl⟩
      have hD9 : dg < 1000000000 := hdg ▸ HDM.out
      have hD0 : dg ≠ 0 := by
        rw [← hdg]
        have := (Nat.le_div_iff_mul_le (Nat.pos_of_ne_zero hM0)).2 (show 1 * M ≤ x + 1000000000 * r by omega)
        omega
      by_cases heq : x + 1000000000 * r = M
      · have HE := Aside0.mk heq
        clear heq
        gi_wp2_with (first | (gi_at_builtin; refine one_in (fun c e => by cases e) (by rintro ⟨a', w', h'⟩; exact h'.elim) rfl ?_; refine Kd.R_append_row (Value.int .u64) (0 : Int) W.heap.size rfl (.tmp 19) (.tmp 20) 105 124 (.int .u64 0) 8 rfl Tryz.underlying105 info124 rfl (by decide) _ [(x : Int)] (u64s (Nb.limbs r)) Ar _ cr (fun k => W.heap.size ≤ k) rfl rfl (fun k hk => by simp at hk; omega) HO.out HCR.out (below_alloc (Below.refl _ _) _) (by simp) (by rw [u64s_length]; have := HRL.out; simp; omega) ?_; intro v1 w1 ho hb hg hat; have HV1 := Aside0.mk (RowB.of_V (l := x :: Nb.limbs r) (base := w.heap.size + 4) (Kd.R_V (base' := 0) ho) (fun k hk => by omega)); have HB1 := Aside0.mk hb; clear ho hb hg hat HO HCR; refine (show wpListIn (Fence.wide.inRound l) 0 Tryz.prog _ _ _ _ _ from ?_)) | (refine ⟨trivial, rfl, ?_⟩; refine CallsIn.inRound l (callsIn_wide.2 ((trimB (x :: Nb.limbs r) (by have := HRL.out; simp; omega) w1 v1 (w.heap.size + 4) (Nat.le_trans hlt4 HB1.out.size) HV1.out).mono ?_)); rintro e w2 ⟨vt0, rfl, ht0, hb2⟩; rw [HTR.out] at ht0; obtain ⟨At, ct, rfl, ht1, ht2, ht3⟩ := ht0; have ht : NumB (w.heap.size + 4) w2 (.slice At (u64s (Nb.limbs (x + 1000000000 * r))).length ct) (x + 1000000000 * r) := ⟨At, ct, rfl, ht1, ht2, ht3⟩; clear ht1 ht2 ht3; have HB2 := Aside0.mk (HB1.out.trans (hb2.mono HB1.out.size)); have K2 := Aside0.mk (HB4.out.below HB2.out); have c32 : w2.cell? ⟨w.heap.size + 3, 0, none⟩ = some (.slice Ar (u64s (Nb.limbs r)).length cr) := (blk_cell K2.out.r 0).trans rfl; have f32 := blk_frozen K2.out.r 0; have K3 := Aside0.mk (K2.out.setR (.slice At (u64s (Nb.limbs (x + 1000000000 * r))).length ct)); have c33 : (w2.setCell ⟨w.heap.size + 3, 0, none⟩ (.slice At (u64s (Nb.limbs (x + 1000000000 * r))).length ct)).cell? ⟨w.heap.size + 3, 0, none⟩ = some (.slice At (u64s (Nb.limbs (x + 1000000000 * r))).length ct) := (blk_cell K3.out.r 0).trans rfl; have c30 : (w2.setCell ⟨w.heap.size + 3, 0, none⟩ (.slice At (u64s (Nb.limbs (x + 1000000000 * r))).length ct)).cell? ⟨w.heap.size, 0, none⟩ = some (.slice B (u64s (Nb.limbs M)).length d) := (blk_cell K3.out.m 0).trans rfl; have HT3 := Aside0.mk (RowB.set (p := ⟨w.heap.size + 3, 0, none⟩) ht (by simp) (.slice At (u64s (Nb.limbs (x + 1000000000 * r))).length ct)); have HB3 := Aside0.mk ((HBW.out.trans (HB2.out.mono HBW.out.size)).setCell (p := ⟨w.heap.size + 3, 0, none⟩) (by simp) (.slice At (u64s (Nb.limbs (x + 1000000000 * r))).length ct)); have HK3 := Aside0.mk ((keeps_below HB2.out).trans (KeepsOthers.setCell w2 ⟨w.heap.size + 3, 0, none⟩ (.slice At (u64s (Nb.limbs (x + 1000000000 * r))).length ct))); have HR3 := Aside0.mk (show Rf (w.heap.size + 4) A c xs (w2.setCell ⟨w.heap.size + 3, 0, none⟩ (.slice At (u64s (Nb.limbs (x + 1000000000 * r))).length ct)) from ⟨blk_far (HRf.out.below HB2.out).box (by simp) _, Kd.C_below HA.out HB3.out⟩); clear ht hb2 HB1 HB2 HV1 K2) | (refine ⟨trivial, rfl, ?_⟩; refine CallsIn.inRound l (callsIn_wide.2 ((compareS (x + 1000000000 * r) M HF1.out HF2.out _ _ _ (NumB.num HT3.out) (HV.out.below HB3.out)).mono ?_)); rintro e w4 ⟨rfl, hb4⟩; rw [show cmpN (x + 1000000000 * r) M = 0 by rw [HE.out]; exact cmp_eq M]; have K4 := Aside0.mk (K3.out.below hb4); have HT4 := Aside0.mk (RowB.below HT3.out hb4); have HB5 := Aside0.mk (below_step HB3.out hb4); have HK4 := Aside0.mk (HK3.out.trans (keeps_below hb4)); have HR4 := Aside0.mk (HR3.out.below hb4); clear hb4 K3 HT3 HB3 HK3 HR3 c32 f32 c33 c30) | (refine ⟨trivial, rfl, ?_⟩; refine CallsIn.inRound l (callsIn_wide.2 ((search_d w.heap.size (w.heap.size + 3) M (x + 1000000000 * r) dg hdg HF2.out HF1.out HFM.out hD9 hM0 w4 _ (.slice At (u64s (Nb.limbs (x + 1000000000 * r))).length ct) K4.out.m K4.out.r (HV.out.below HB5.out) (NumB.num HT4.out)).mono ?_)); rintro e w5 ⟨rfl, hb5⟩; have K5 := Aside0.mk (K4.out.below hb5); have HT5 := Aside0.mk (RowB.below HT4.out hb5); have HB6 := Aside0.mk (below_step HB5.out hb5); have HK5 := Aside0.mk (HK4.out.trans (keeps_below hb5)); have HR5 := Aside0.mk (HR4.out.below hb5); clear hb5 K4 HT4 HB5 HK4 HR4; have c52 : w5.cell? ⟨w.heap.size + 2, 0, none⟩ = some (.slice (some ⟨w.heap.size + 1, 0, none⟩) (u64s xs).length (u64s xs).length) := (blk_cell K5.out.q 0).trans rfl; have c51 : w5.cell? ⟨w.heap.size + 1, j, none⟩ = some (.int .u64 0) := (blk_cell K5.out.row j).trans HQ0.out; have f51 := blk_frozen K5.out.row j))
        have K6 := Aside0.mk (K5.out.setQ j (dg))
        have HT6 := Aside0.mk (RowB.set (p := ⟨w.heap.size + 1, j, none⟩) HT5.out (by simp) (.int .u64 ((dg : Nat) : Int)))
        have HB7 := Aside0.mk (HB6.out.setCell (p := ⟨w.heap.size + 1, j, none⟩) (by simp) (.int .u64 ((dg : Nat) : Int)))
        have HK6 := Aside0.mk (HK5.out.trans (KeepsOthers.setCell w5 ⟨w.heap.size + 1, j, none⟩ (.int .u64 ((dg : Nat) : Int))))
        have HR6 := Aside0.mk (show Rf (w.heap.size + 4) A c xs (w5.setCell ⟨w.heap.size + 1, j, none⟩ (.int .u64 ((dg : Nat) : Int))) from ⟨blk_far HR5.out.box (by simp) _, Kd.C_below HA.out HB7.out⟩)
        clear K5 HT5 HB6 HK5 HR5 c52 c51 f51
        refine startIn_ (n := 8) (S := fun w' => w'.cell? ⟨w.heap.size + 3, 0, none⟩ = some (.slice At (u64s (Nb.limbs (x + 1000000000 * r))).length ct) ∧ w'.cell? ⟨w.heap.size, 0, none⟩ = some (.slice B (u64s (Nb.limbs M)).length d)) (ds := [7]) #[false, false, false, false, false, false, false, false] (by kernel_rfl) rfl rfl (by kernel_rfl) ?hQ ⟨(blk_cell (blk_drew K6.out.r) 0).trans rfl, (blk_cell (blk_drew K6.out.m) 0).trans rfl⟩ (fun hHeld => ?_)
        case hQ => rintro ⟨a', w', h'⟩; exact h'.elim
        have K7 := Aside0.mk (K6.out.below (below_drew (Below.refl _ _)))
        have HT7 := Aside0.mk (RowB.below HT6.out (below_drew (Below.refl _ _)))
        have HB8 := Aside0.mk (below_step HB7.out (below_drew (Below.refl _ _)))
        have HK7 := Aside0.mk (HK6.out.trans (keeps_below (below_drew (Below.refl _ _))))
        have HR7 := Aside0.mk (HR6.out.below (below_drew (Below.refl _ _)))
        clear K6 HT6 HB7 HK6 HR6
        generalize (w5.setCell ⟨w.heap.size + 1, j, none⟩ (.int .u64 (dg : Int))).drew = w6 at K7 HT7 HB8 HK7 HR7 hHeld ⊢
        refine take_ (i := 0) (N := some 34) (v := ?_) (a' := ?_) #[true, false, false, false, false, false, false, false] rfl rfl (by kernel_rfl) (fun _ _ _ h => h) (Or.inl ⟨by rfl, ?_⟩) hHeld ?_ ?_
        rotate_left
        · rintro w' ⟨s0, s1⟩
          go_simp
          with_reducible rfl
        rotate_left
        · simp only [Act.put, List.setIfInBounds_toArray, List.set_cons_zero, List.set_cons_succ, i64_w, i32_w]
          rfl
        refine take_ (i := 1) (N := some 35) (v := ?_) (a' := ?_) #[true, true, false, false, false, false, false, false] rfl rfl (by kernel_rfl) (fun _ _ _ h => h) (Or.inl ⟨by rfl, ?_⟩) hHeld ?_ ?_
        rotate_left
        · rintro w' ⟨s0, s1⟩
          go_simp
          with_reducible rfl
        rotate_left
        · simp only [Act.put, List.setIfInBounds_toArray, List.set_cons_zero, List.set_cons_succ, i64_w, i32_w]
          rfl
        refine pure_ (i := 2) (N := some 36) (v := ?_) (a' := ?_) #[true, true, true, false, false, false, false, false] rfl rfl (by kernel_rfl) (fun _ _ _ h => h) (Or.inl ⟨by rfl, ?_⟩) ?_ ?_
        rotate_left
        · intro w'
          go_simp
          with_reducible rfl
        rotate_left
        · simp only [Act.put, List.setIfInBounds_toArray, List.set_cons_zero, List.set_cons_succ, i64_w, i32_w]
          rfl
        refine pure_ (i := 3) (N := some 37) (v := .int .u64 (dg : Int)) (a' := ?_) #[true, true, true, true, false, false, false, false] rfl rfl (by kernel_rfl) (fun _ _ _ h => h) (Or.inl ⟨by rfl, ?_⟩) ?_ ?_
        · intro w'
          (go_simp) <;> (rw [IntKind.wrap_u64]; omega)
        rotate_left
        · simp only [Act.put, List.setIfInBounds_toArray, List.set_cons_zero, List.set_cons_succ, i64_w, i32_w]
          rfl
        refine one_ (i := 4) (N := some 38) #[true, true, true, true, true, false, false, false] rfl rfl (by kernel_rfl) (by decide) (fun K hK => ?_)
        refine value_ (w1 := ?_) (v := ?_) (by rfl) rfl ?_ ?_
        rotate_left 2
        · go_simp
          first | rfl | (constructor <;> rfl)
        have HN := Aside0.mk (num_one w6 (n := dg) hD0 hD9)
        have K8 := Aside0.mk (K7.out.below (below_alloc (Below.refl _ _) (.cells #[.int .u64 (dg : Int)] 124)))
        have HT8 := Aside0.mk (RowB.below HT7.out (below_alloc (Below.refl _ _) (.cells #[.int .u64 (dg : Int)] 124)))
        have HB9 := Aside0.mk (below_step HB8.out (below_alloc (Below.refl _ _) (.cells #[.int .u64 (dg : Int)] 124)))
        have HK8 := Aside0.mk (HK7.out.trans (keeps_below (below_alloc (Below.refl _ _) (.cells #[.int .u64 (dg : Int)] 124))))
        have HR8 := Aside0.mk (HR7.out.below (below_alloc (Below.refl _ _) (.cells #[.int .u64 (dg : Int)] 124)))
        clear K7 HT7 HB8 HK7 HR7
        refine hK.out _ _ ⟨(blk_cell K8.out.r 0).trans rfl, (blk_cell K8.out.m 0).trans rfl⟩ (fun hHeld => ?_)
        clear hK K
        refine norm_ (a' := ?_) ?_ ?_
        rotate_left
        · show Act.put _ (some 38) _ = _
          simp only [Act.put, List.setIfInBounds_toArray, List.set_cons_zero, List.set_cons_succ, i64_w, i32_w]
          rfl
        refine one_ (i := 5) (N := some 39) #[true, true, true, true, true, true, false, false] rfl rfl (by kernel_rfl) (by decide) (fun K hK => ?_)
        refine goes_ Tryz.func139 (by kernel_rfl) rfl #[(.slice B (u64s (Nb.limbs M)).length d), .slice (some ⟨w6.heap.size, 0, none⟩) 1 1] (by rfl) rfl rfl (by (try simp only [List.map_toArray, List.map_cons, List.map_nil]); first | done | rfl) ?_
        refine (mulB M dg HF2.out (by unfold Few; rw [limbs_one hD0 hD9]; simp) _ _ _ (HV.out.below HB9.out) HN.out).mono ?_
        rintro e w109 ⟨vp0, rfl, hvp, hb⟩
        refine ⟨_, rfl, ?_⟩
        have K9 := Aside0.mk (K8.out.below hb)
        have HT9 := Aside0.mk (RowB.below HT8.out hb)
        have HB10 := Aside0.mk (below_step HB9.out hb)
        have HK9 := Aside0.mk (HK8.out.trans (keeps_below hb))
        have HR9 := Aside0.mk (HR8.out.below hb)
        clear hb K8 HT8 HB9 HK8 HR8
        have HP := Aside0.mk (NumB.num hvp)
        clear hvp
        refine hK.out _ _ ⟨(blk_cell K9.out.r 0).trans rfl, (blk_cell K9.out.m 0).trans rfl⟩ (fun hHeld => ?_)
        clear hK K
        refine norm_ (a' := ?_) ?_ ?_
        rotate_left
        · show Act.put _ (some 39) _ = _
          simp only [Act.put, List.setIfInBounds_toArray, List.set_cons_zero, List.set_cons_succ, i64_w, i32_w]
          rfl
        have hsz9 : w.heap.size + 4 ≤ w109.heap.size := K9.out.lt
        refine one_ (i := 6) (N := some 40) #[true, true, true, true, true, true, true, false] rfl rfl (by kernel_rfl) (by decide) (fun K hK => ?_)
        refine goes_ Tryz.func140 (by kernel_rfl) rfl #[(.slice At (u64s (Nb.limbs (x + 1000000000 * r))).length ct), vp0] (by rfl) rfl rfl (by (try simp only [List.map_toArray, List.map_cons, List.map_nil]); first | done | rfl) ?_
        refine (subB (x + 1000000000 * r) (M * dg) HF1.out (by rw [← hdg]; exact Nat.mul_div_le _ _) _ _ _ (NumB.num HT9.out) HP.out).mono ?_
        rintro e w110 ⟨vz0, rfl, hvz, hb⟩
        refine ⟨_, rfl, ?_⟩
        have K10 := Aside0.mk (K9.out.below hb)
        have HT10 := Aside0.mk (RowB.below HT9.out hb)
        have HB11 := Aside0.mk (below_step HB10.out hb)
        have HK10 := Aside0.mk (HK9.out.trans (keeps_below hb))
        have HR10 := Aside0.mk (HR9.out.below hb)
        clear hb K9 HT9 HB10 HK9 HR9
        have HZ := Aside0.mk (RowB.mono hvz hsz9)
        clear hvz
        obtain ⟨Az, cz, rfl, hz1, hz2, hz3⟩ := HZ.out
        refine hK.out _ _ ⟨(blk_cell K10.out.r 0).trans rfl, (blk_cell K10.out.m 0).trans rfl⟩ (fun hHeld => ?_)
        clear hK K
        refine norm_ (a' := ?_) ?_ ?_
        rotate_left
        · show Act.put _ (some 40) _ = _
          simp only [Act.put, List.setIfInBounds_toArray, List.set_cons_zero, List.set_cons_succ, i64_w, i32_w]
          rfl
        clear hz1 hz2 hz3
        have c93 : w110.cell? ⟨w.heap.size + 3, 0, none⟩ = some (.slice At (u64s (Nb.limbs (x + 1000000000 * r))).length ct) := (blk_cell K10.out.r 0).trans rfl
        have f93 := blk_frozen K10.out.r 0
        refine last_ (i := 7) (N := none) #[true, true, true, true, true, true, true, true] rfl rfl (by kernel_rfl) (by decide) (fun K hK => ?_)
        refine skip_ (w1 := ?_) (by rfl) rfl ?_ ?_
        rotate_left
        · go_simp
          rfl
        refine hK.out _ _ ?_
        clear hK K
        refine done_ (by kernel_rfl) ?_
        have hjq : j < qs.length := by rw [HQL.out]; exact HJ.out
        have hqs : (qs.set j dg).drop j = dg :: qs.drop (j + 1) := by
          rw [List.drop_eq_getElem_cons (by rw [List.length_set]; exact hjq), List.getElem_set_self, List.drop_set_of_lt (by omega)]
        have hfin : Nb.val (xs.drop j) % M = x + 1000000000 * r - M * dg := by
          rw [HST.out.2, ← hdg]
          have := Nat.div_add_mod (x + 1000000000 * r) M
          omega
        gi_wp2
        refine ⟨HK10.out.trans (KeepsOthers.setCell _ _ _), ⟨qs.set j dg, (.slice Az (u64s (Nb.limbs (x + 1000000000 * r - M * dg))).length cz), K10.out.setR _, ?_, by rw [List.length_set]; exact HQL.out, ok_set HQO.out hD9, ?_, ?_, HB11.out.setCell (p := ⟨w.heap.size + 3, 0, none⟩) (by simp) _⟩, ⟨blk_far HR10.out.box (by simp) _, Kd.C_below HA.out (HB11.out.setCell (p := ⟨w.heap.size + 3, 0, none⟩) (by simp) _)⟩⟩
        · rw [hfin]; exact RowB.set (p := ⟨w.heap.size + 3, 0, none⟩) HZ.out (by simp) _
        · rw [List.take_set_of_le (by omega)]; exact (q_zero HQZ.out hjq).2
        · rw [hqs, Nb.val, HST.out.1, hdg, HQV.out]
      · gi_wp2_with (first | (gi_at_builtin; refine one_in (fun c e => by cases e) (by rintro ⟨a', w', h'⟩; exact h'.elim) rfl ?_; refine Kd.R_append_row (Value.int .u64) (0 : Int) W.heap.size rfl (.tmp 19) (.tmp 20) 105 124 (.int .u64 0) 8 rfl Tryz.underlying105 info124 rfl (by decide) _ [(x : Int)] (u64s (Nb.limbs r)) Ar _ cr (fun k => W.heap.size ≤ k) rfl rfl (fun k hk => by simp at hk; omega) HO.out HCR.out (below_alloc (Below.refl _ _) _) (by simp) (by rw [u64s_length]; have := HRL.out; simp; omega) ?_; intro v1 w1 ho hb hg hat; have HV1 := Aside0.mk (RowB.of_V (l := x :: Nb.limbs r) (base := w.heap.size + 4) (Kd.R_V (base' := 0) ho) (fun k hk => by omega)); have HB1 := Aside0.mk hb; clear ho hb hg hat HO HCR; refine (show wpListIn (Fence.wide.inRound l) 0 Tryz.prog _ _ _ _ _ from ?_)) | (refine ⟨trivial, rfl, ?_⟩; refine CallsIn.inRound l (callsIn_wide.2 ((trimB (x :: Nb.limbs r) (by have := HRL.out; simp; omega) w1 v1 (w.heap.size + 4) (Nat.le_trans hlt4 HB1.out.size) HV1.out).mono ?_)); rintro e w2 ⟨vt0, rfl, ht0, hb2⟩; rw [HTR.out] at ht0; obtain ⟨At, ct, rfl, ht1, ht2, ht3⟩ := ht0; have ht : NumB (w.heap.size + 4) w2 (.slice At (u64s (Nb.limbs (x + 1000000000 * r))).length ct) (x + 1000000000 * r) := ⟨At, ct, rfl, ht1, ht2, ht3⟩; clear ht1 ht2 ht3; have HB2 := Aside0.mk (HB1.out.trans (hb2.mono HB1.out.size)); have K2 := Aside0.mk (HB4.out.below HB2.out); have c32 : w2.cell? ⟨w.heap.size + 3, 0, none⟩ = some (.slice Ar (u64s (Nb.limbs r)).length cr) := (blk_cell K2.out.r 0).trans rfl; have f32 := blk_frozen K2.out.r 0; have K3 := Aside0.mk (K2.out.setR (.slice At (u64s (Nb.limbs (x + 1000000000 * r))).length ct)); have c33 : (w2.setCell ⟨w.heap.size + 3, 0, none⟩ (.slice At (u64s (Nb.limbs (x + 1000000000 * r))).length ct)).cell? ⟨w.heap.size + 3, 0, none⟩ = some (.slice At (u64s (Nb.limbs (x + 1000000000 * r))).length ct) := (blk_cell K3.out.r 0).trans rfl; have c30 : (w2.setCell ⟨w.heap.size + 3, 0, none⟩ (.slice At (u64s (Nb.limbs (x + 1000000000 * r))).length ct)).cell? ⟨w.heap.size, 0, none⟩ = some (.slice B (u64s (Nb.limbs M)).length d) := (blk_cell K3.out.m 0).trans rfl; have HT3 := Aside0.mk (RowB.set (p := ⟨w.heap.size + 3, 0, none⟩) ht (by simp) (.slice At (u64s (Nb.limbs (x + 1000000000 * r))).length ct)); have HB3 := Aside0.mk ((HBW.out.trans (HB2.out.mono HBW.out.size)).setCell (p := ⟨w.heap.size + 3, 0, none⟩) (by simp) (.slice At (u64s (Nb.limbs (x + 1000000000 * r))).length ct)); have HK3 := Aside0.mk ((keeps_below HB2.out).trans (KeepsOthers.setCell w2 ⟨w.heap.size + 3, 0, none⟩ (.slice At (u64s (Nb.limbs (x + 1000000000 * r))).length ct))); have HR3 := Aside0.mk (show Rf (w.heap.size + 4) A c xs (w2.setCell ⟨w.heap.size + 3, 0, none⟩ (.slice At (u64s (Nb.limbs (x + 1000000000 * r))).length ct)) from ⟨blk_far (HRf.out.below HB2.out).box (by simp) _, Kd.C_below HA.out HB3.out⟩); clear ht hb2 HB1 HB2 HV1 K2) | (refine ⟨trivial, rfl, ?_⟩; refine CallsIn.inRound l (callsIn_wide.2 ((compareS (x + 1000000000 * r) M HF1.out HF2.out _ _ _ (NumB.num HT3.out) (HV.out.below HB3.out)).mono ?_)); rintro e w4 ⟨rfl, hb4⟩; rw [cmp_gt (show M < x + 1000000000 * r by omega)]; have K4 := Aside0.mk (K3.out.below hb4); have HT4 := Aside0.mk (RowB.below HT3.out hb4); have HB5 := Aside0.mk (below_step HB3.out hb4); have HK4 := Aside0.mk (HK3.out.trans (keeps_below hb4)); have HR4 := Aside0.mk (HR3.out.below hb4); clear hb4 K3 HT3 HB3 HK3 HR3 c32 f32 c33 c30) | (refine ⟨trivial, rfl, ?_⟩; refine CallsIn.inRound l (callsIn_wide.2 ((search_d w.heap.size (w.heap.size + 3) M (x + 1000000000 * r) dg hdg HF2.out HF1.out HFM.out hD9 hM0 w4 _ (.slice At (u64s (Nb.limbs (x + 1000000000 * r))).length ct) K4.out.m K4.out.r (HV.out.below HB5.out) (NumB.num HT4.out)).mono ?_)); rintro e w5 ⟨rfl, hb5⟩; have K5 := Aside0.mk (K4.out.below hb5); have HT5 := Aside0.mk (RowB.below HT4.out hb5); have HB6 := Aside0.mk (below_step HB5.out hb5); have HK5 := Aside0.mk (HK4.out.trans (keeps_below hb5)); have HR5 := Aside0.mk (HR4.out.below hb5); clear hb5 K4 HT4 HB5 HK4 HR4; have c52 : w5.cell? ⟨w.heap.size + 2, 0, none⟩ = some (.slice (some ⟨w.heap.size + 1, 0, none⟩) (u64s xs).length (u64s xs).length) := (blk_cell K5.out.q 0).trans rfl; have c51 : w5.cell? ⟨w.heap.size + 1, j, none⟩ = some (.int .u64 0) := (blk_cell K5.out.row j).trans HQ0.out; have f51 := blk_frozen K5.out.row j))
        have K6 := Aside0.mk (K5.out.setQ j (dg))
        have HT6 := Aside0.mk (RowB.set (p := ⟨w.heap.size + 1, j, none⟩) HT5.out (by simp) (.int .u64 ((dg : Nat) : Int)))
        have HB7 := Aside0.mk (HB6.out.setCell (p := ⟨w.heap.size + 1, j, none⟩) (by simp) (.int .u64 ((dg : Nat) : Int)))
        have HK6 := Aside0.mk (HK5.out.trans (KeepsOthers.setCell w5 ⟨w.heap.size + 1, j, none⟩ (.int .u64 ((dg : Nat) : Int))))
        have HR6 := Aside0.mk (show Rf (w.heap.size + 4) A c xs (w5.setCell ⟨w.heap.size + 1, j, none⟩ (.int .u64 ((dg : Nat) : Int))) from ⟨blk_far HR5.out.box (by simp) _, Kd.C_below HA.out HB7.out⟩)
        clear K5 HT5 HB6 HK5 HR5 c52 c51 f51
        refine startIn_ (n := 8) (S := fun w' => w'.cell? ⟨w.heap.size + 3, 0, none⟩ = some (.slice At (u64s (Nb.limbs (x + 1000000000 * r))).length ct) ∧ w'.cell? ⟨w.heap.size, 0, none⟩ = some (.slice B (u64s (Nb.limbs M)).length d)) (ds := [7]) #[false, false, false, false, false, false, false, false] (by kernel_rfl) rfl rfl (by kernel_rfl) ?hQ ⟨(blk_cell (blk_drew K6.out.r) 0).trans rfl, (blk_cell (blk_drew K6.out.m) 0).trans rfl⟩ (fun hHeld => ?_)
        case hQ => rintro ⟨a', w', h'⟩; exact h'.elim
        have K7 := Aside0.mk (K6.out.below (below_drew (Below.refl _ _)))
        have HT7 := Aside0.mk (RowB.below HT6.out (below_drew (Below.refl _ _)))
        have HB8 := Aside0.mk (below_step HB7.out (below_drew (Below.refl _ _)))
        have HK7 := Aside0.mk (HK6.out.trans (keeps_below (below_drew (Below.refl _ _))))
        have HR7 := Aside0.mk (HR6.out.below (below_drew (Below.refl _ _)))
        clear K6 HT6 HB7 HK6 HR6
        generalize (w5.setCell ⟨w.heap.size + 1, j, none⟩ (.int .u64 (dg : Int))).drew = w6 at K7 HT7 HB8 HK7 HR7 hHeld ⊢
        refine take_ (i := 0) (N := some 34) (v := ?_) (a' := ?_) #[true, false, false, false, false, false, false, false] rfl rfl (by kernel_rfl) (fun _ _ _ h => h) (Or.inl ⟨by rfl, ?_⟩) hHeld ?_ ?_
        rotate_left
        · rintro w' ⟨s0, s1⟩
          go_simp
          with_reducible rfl
        rotate_left
        · simp only [Act.put, List.setIfInBounds_toArray, List.set_cons_zero, List.set_cons_succ, i64_w, i32_w]
          rfl
        refine take_ (i := 1) (N := some 35) (v := ?_) (a' := ?_) #[true, true, false, false, false, false, false, false] rfl rfl (by kernel_rfl) (fun _ _ _ h => h) (Or.inl ⟨by rfl, ?_⟩) hHeld ?_ ?_
        rotate_left
        · rintro w' ⟨s0, s1⟩
          go_simp
          with_reducible rfl
        rotate_left
        · simp only [Act.put, List.setIfInBounds_toArray, List.set_cons_zero, List.set_cons_succ, i64_w, i32_w]
          rfl
        refine pure_ (i := 2) (N := some 36) (v := ?_) (a' := ?_) #[true, true, true, false, false, false, false, false] rfl rfl (by kernel_rfl) (fun _ _ _ h => h) (Or.inl ⟨by rfl, ?_⟩) ?_ ?_
        rotate_left
        · intro w'
          go_simp
          with_reducible rfl
        rotate_left
        · simp only [Act.put, List.setIfInBounds_toArray, List.set_cons_zero, List.set_cons_succ, i64_w, i32_w]
          rfl
        refine pure_ (i := 3) (N := some 37) (v := .int .u64 (dg : Int)) (a' := ?_) #[true, true, true, true, false, false, false, false] rfl rfl (by kernel_rfl) (fun _ _ _ h => h) (Or.inl ⟨by rfl, ?_⟩) ?_ ?_
        · intro w'
          (go_simp) <;> (rw [IntKind.wrap_u64]; omega)
        rotate_left
        · simp only [Act.put, List.setIfInBounds_toArray, List.set_cons_zero, List.set_cons_succ, i64_w, i32_w]
          rfl
        refine one_ (i := 4) (N := some 38) #[true, true, true, true, true, false, false, false] rfl rfl (by kernel_rfl) (by decide) (fun K hK => ?_)
        refine value_ (w1 := ?_) (v := ?_) (by rfl) rfl ?_ ?_
        rotate_left 2
        · go_simp
          first | rfl | (constructor <;> rfl)
        have HN := Aside0.mk (num_one w6 (n := dg) hD0 hD9)
        have K8 := Aside0.mk (K7.out.below (below_alloc (Below.refl _ _) (.cells #[.int .u64 (dg : Int)] 124)))
        have HT8 := Aside0.mk (RowB.below HT7.out (below_alloc (Below.refl _ _) (.cells #[.int .u64 (dg : Int)] 124)))
        have HB9 := Aside0.mk (below_step HB8.out (below_alloc (Below.refl _ _) (.cells #[.int .u64 (dg : Int)] 124)))
        have HK8 := Aside0.mk (HK7.out.trans (keeps_below (below_alloc (Below.refl _ _) (.cells #[.int .u64 (dg : Int)] 124))))
        have HR8 := Aside0.mk (HR7.out.below (below_alloc (Below.refl _ _) (.cells #[.int .u64 (dg : Int)] 124)))
        clear K7 HT7 HB8 HK7 HR7
        refine hK.out _ _ ⟨(blk_cell K8.out.r 0).trans rfl, (blk_cell K8.out.m 0).trans rfl⟩ (fun hHeld => ?_)
        clear hK K
        refine norm_ (a' := ?_) ?_ ?_
        rotate_left
        · show Act.put _ (some 38) _ = _
          simp only [Act.put, List.setIfInBounds_toArray, List.set_cons_zero, List.set_cons_succ, i64_w, i32_w]
          rfl
        refine one_ (i := 5) (N := some 39) #[true, true, true, true, true, true, false, false] rfl rfl (by kernel_rfl) (by decide) (fun K hK => ?_)
        refine goes_ Tryz.func139 (by kernel_rfl) rfl #[(.slice B (u64s (Nb.limbs M)).length d), .slice (some ⟨w6.heap.size, 0, none⟩) 1 1] (by rfl) rfl rfl (by (try simp only [List.map_toArray, List.map_cons, List.map_nil]); first | done | rfl) ?_
        refine (mulB M dg HF2.out (by unfold Few; rw [limbs_one hD0 hD9]; simp) _ _ _ (HV.out.below HB9.out) HN.out).mono ?_
        rintro e w109 ⟨vp0, rfl, hvp, hb⟩
        refine ⟨_, rfl, ?_⟩
        have K9 := Aside0.mk (K8.out.below hb)
        have HT9 := Aside0.mk (RowB.below HT8.out hb)
        have HB10 := Aside0.mk (below_step HB9.out hb)
        have HK9 := Aside0.mk (HK8.out.trans (keeps_below hb))
        have HR9 := Aside0.mk (HR8.out.below hb)
        clear hb K8 HT8 HB9 HK8 HR8
        have HP := Aside0.mk (NumB.num hvp)
        clear hvp
        refine hK.out _ _ ⟨(blk_cell K9.out.r 0).trans rfl, (blk_cell K9.out.m 0).trans rfl⟩ (fun hHeld => ?_)
        clear hK K
        refine norm_ (a' := ?_) ?_ ?_
        rotate_left
        · show Act.put _ (some 39) _ = _
          simp only [Act.put, List.setIfInBounds_toArray, List.set_cons_zero, List.set_cons_succ, i64_w, i32_w]
          rfl
        have hsz9 : w.heap.size + 4 ≤ w109.heap.size := K9.out.lt
        refine one_ (i := 6) (N := some 40) #[true, true, true, true, true, true, true, false] rfl rfl (by kernel_rfl) (by decide) (fun K hK => ?_)
        refine goes_ Tryz.func140 (by kernel_rfl) rfl #[(.slice At (u64s (Nb.limbs (x + 1000000000 * r))).length ct), vp0] (by rfl) rfl rfl (by (try simp only [List.map_toArray, List.map_cons, List.map_nil]); first | done | rfl) ?_
        refine (subB (x + 1000000000 * r) (M * dg) HF1.out (by rw [← hdg]; exact Nat.mul_div_le _ _) _ _ _ (NumB.num HT9.out) HP.out).mono ?_
        rintro e w110 ⟨vz0, rfl, hvz, hb⟩
        refine ⟨_, rfl, ?_⟩
        have K10 := Aside0.mk (K9.out.below hb)
        have HT10 := Aside0.mk (RowB.below HT9.out hb)
        have HB11 := Aside0.mk (below_step HB10.out hb)
        have HK10 := Aside0.mk (HK9.out.trans (keeps_below hb))
        have HR10 := Aside0.mk (HR9.out.below hb)
        clear hb K9 HT9 HB10 HK9 HR9
        have HZ := Aside0.mk (RowB.mono hvz hsz9)
        clear hvz
        obtain ⟨Az, cz, rfl, hz1, hz2, hz3⟩ := HZ.out
        refine hK.out _ _ ⟨(blk_cell K10.out.r 0).trans rfl, (blk_cell K10.out.m 0).trans rfl⟩ (fun hHeld => ?_)
        clear hK K
        refine norm_ (a' := ?_) ?_ ?_
        rotate_left
        · show Act.put _ (some 40) _ = _
          simp only [Act.put, List.setIfInBounds_toArray, List.set_cons_zero, List.set_cons_succ, i64_w, i32_w]
          rfl
        clear hz1 hz2 hz3
        have c93 : w110.cell? ⟨w.heap.size + 3, 0, none⟩ = some (.slice At (u64s (Nb.limbs (x + 1000000000 * r))).length ct) := (blk_cell K10.out.r 0).trans rfl
        have f93 := blk_frozen K10.out.r 0
        refine last_ (i := 7) (N := none) #[true, true, true, true, true, true, true, true] rfl rfl (by kernel_rfl) (by decide) (fun K hK => ?_)
        refine skip_ (w1 := ?_) (by rfl) rfl ?_ ?_
        rotate_left
        · go_simp
          rfl
        refine hK.out _ _ ?_
        clear hK K
        refine done_ (by kernel_rfl) ?_
        have hjq : j < qs.length := by rw [HQL.out]; exact HJ.out
        have hqs : (qs.set j dg).drop j = dg :: qs.drop (j + 1) := by
          rw [List.drop_eq_getElem_cons (by rw [List.length_set]; exact hjq), List.getElem_set_self, List.drop_set_of_lt (by omega)]
        have hfin : Nb.val (xs.drop j) % M = x + 1000000000 * r - M * dg := by
          rw [HST.out.2, ← hdg]
          have := Nat.div_add_mod (x + 1000000000 * r) M
          omega
        gi_wp2
        refine ⟨HK10.out.trans (KeepsOthers.setCell _ _ _), ⟨qs.set j dg, (.slice Az (u64s (Nb.limbs (x + 1000000000 * r - M * dg))).length cz), K10.out.setR _, ?_, by rw [List.length_set]; exact HQL.out, ok_set HQO.out hD9, ?_, ?_, HB11.out.setCell (p := ⟨w.heap.size + 3, 0, none⟩) (by simp) _⟩, ⟨blk_far HR10.out.box (by simp) _, Kd.C_below HA.out (HB11.out.setCell (p := ⟨w.heap.size + 3, 0, none⟩) (by simp) _)⟩⟩
        · rw [hfin]; exact RowB.set (p := ⟨w.heap.size + 3, 0, none⟩) HZ.out (by simp) _
        · rw [List.take_set_of_le (by omega)]; exact (q_zero HQZ.out hjq).2
        · rw [hqs, Nb.val, HST.out.1, hdg, HQV.out]
  case hdone =>
    rintro D W hD ⟨qs, vr, hB4, hr, hql, hqo, hqz, hqv, hbw⟩ hK
    rw [List.drop_zero] at hr hqv
    have hxN : Nb.val xs = N := by rw [← hxs, Nb.val_limbs]
    rw [List.drop_zero, hxN] at hqv
    rw [hxN] at hr
    generalize hr0 : N % M = r at hr
    have hsl : (u64s xs).length = (u64s qs).length := by rw [HL.out, u64s_length, hql]
    have HQ := Aside0.mk (row_q hB4.row (by rw [hql]; exact HX.out))
    rw [← hsl] at HQ
    have HTQ : Aside0 (Nb.trim qs = Nb.limbs (N / M)) := Aside0.mk (by rw [Nb.trim_limbs hqo, hqv])
    have HQL := Aside0.mk (show qs.length ≤ 100000 by rw [hql, ← hxs]; have := HFN.out; unfold Few at this; omega)
    have HR0 := Aside0.mk hr
    obtain ⟨Ar, cr, rfl, hr1, hr2, hr3⟩ := hr
    have HB4 := Aside0.mk hB4
    have HBW := Aside0.mk hbw
    have HD := Aside0.mk hK
    have hDD : w.heap.size ≤ D := by omega
    clear hr1 hr2 hr3 hB4 hbw hK hql hqo hqz hqv hsl hxN hnl
    gi_wp2
    refine wpIn_wide.2 ?_
    refine start_ (n := 5) (S := fun w' => w'.cell? ⟨w.heap.size + 2, 0, none⟩ = some (.slice (some ⟨w.heap.size + 1, 0, none⟩) (u64s xs).length (u64s xs).length) ∧ w'.cell? ⟨w.heap.size + 3, 0, none⟩ = some (.slice Ar (u64s (Nb.limbs r)).length cr)) (ds := []) #[false, false, false, false, false] (by kernel_rfl) rfl rfl ⟨(blk_cell (blk_drew HB4.out.q) 0).trans rfl, (blk_cell (blk_drew HB4.out.r) 0).trans rfl⟩ (fun hHeld => ?_)
    have K1 := Aside0.mk (HB4.out.below (below_drew (Below.refl _ _)))
    have HQ1 := Aside0.mk (RowB.below HQ.out (below_drew (Below.refl _ _)))
    have HR1 := Aside0.mk (RowB.below HR0.out (below_drew (Below.refl _ _)))
    have HB1 := Aside0.mk (below_step HBW.out (below_drew (Below.refl _ _)))
    have HD1 : Aside0 (W.drew.heap[D]? = some (.deferred (some []))) := Aside0.mk HD.out
    clear HB4 HQ HR0 HBW HD
    generalize W.drew = W1 at K1 HQ1 HR1 HB1 HD1 hHeld ⊢
    refine take_ (i := 0) (N := some 41) (v := ?_) (a' := ?_) #[true, false, false, false, false] rfl rfl (by kernel_rfl) (fun _ _ _ h => h) (Or.inl ⟨by rfl, ?_⟩) hHeld ?_ ?_
    rotate_left
    · rintro w' ⟨s0, s1⟩
      go_simp
      with_reducible rfl
    rotate_left
    · simp only [Act.put, List.setIfInBounds_toArray, List.set_cons_zero, List.set_cons_succ, i64_w, i32_w]
      rfl
    refine take_ (i := 2) (N := some 43) (v := ?_) (a' := ?_) #[true, false, true, false, false] rfl rfl (by kernel_rfl) (fun _ _ _ h => h) (Or.inl ⟨by rfl, ?_⟩) hHeld ?_ ?_
    rotate_left
    · rintro w' ⟨s0, s1⟩
      go_simp
      with_reducible rfl
    rotate_left
    · simp only [Act.put, List.setIfInBounds_toArray, List.set_cons_zero, List.set_cons_succ, i64_w, i32_w]
      rfl
    refine one_ (i := 1) (N := some 42) #[true, true, true, false, false] rfl rfl (by kernel_rfl) (by decide) (fun K hK => ?_)
    refine goes_ Tryz.func134 (by kernel_rfl) rfl #[(.slice (some ⟨w.heap.size + 1, 0, none⟩) (u64s xs).length (u64s xs).length)] (by rfl) rfl rfl (by (try simp only [List.map_toArray, List.map_cons, List.map_nil]); first | done | rfl) ?_
    refine (trimB qs HQL.out _ _ w.heap.size (below_size HB1.out) HQ1.out).mono ?_
    rintro e W2 ⟨vq, rfl, hvq, hb⟩
    refine ⟨_, rfl, ?_⟩
    rw [HTQ.out] at hvq
    have HVQ := Aside0.mk hvq
    have K2 := Aside0.mk (K1.out.below hb)
    have HR2 := Aside0.mk (RowB.below HR1.out hb)
    have HB2 := Aside0.mk (below_step HB1.out hb)
    have HD2 := Aside0.mk (heap_below hb HD1.out)
    clear hb hvq K1 HR1 HB1 HD1 HQ1
    refine hK.out _ _ ⟨(blk_cell K2.out.q 0).trans rfl, (blk_cell K2.out.r 0).trans rfl⟩ (fun hHeld => ?_)
    clear hK K
    refine norm_ (a' := ?_) ?_ ?_
    rotate_left
    · show Act.put _ (some 42) _ = _
      simp only [Act.put, List.setIfInBounds_toArray, List.set_cons_zero, List.set_cons_succ, i64_w, i32_w]
      rfl
    refine pure_ (i := 3) (N := some 4) (v := ?_) (a' := ?_) #[true, true, true, true, false] rfl rfl (by kernel_rfl) (fun _ _ _ h => h) (Or.inl ⟨by rfl, ?_⟩) ?_ ?_
    rotate_left
    · intro w'
      go_simp
      with_reducible rfl
    rotate_left
    · simp only [Act.put, List.setIfInBounds_toArray, List.set_cons_zero, List.set_cons_succ, i64_w, i32_w]
      rfl
    refine pure_ (i := 4) (N := some 5) (v := ?_) (a' := ?_) #[true, true, true, true, true] rfl rfl (by kernel_rfl) (fun _ _ _ h => h) (Or.inl ⟨by rfl, ?_⟩) ?_ ?_
    rotate_left
    · intro w'
      go_simp
      with_reducible rfl
    rotate_left
    · simp only [Act.put, List.setIfInBounds_toArray, List.set_cons_zero, List.set_cons_succ, i64_w, i32_w]
      rfl
    refine done_ (by kernel_rfl) ?_
    gi_wp2
    refine ⟨by simp, .inl ⟨_, _, rfl, run_takeDeferred HD2.out, ?_⟩⟩
    refine ⟨_, results_tmp2 rfl _ _ _, vq, _, rfl, RowB.put HVQ.out _ HD2.out rfl, ?_, below_put _ HB2.out (Nat.le_refl _) hDD⟩
    rw [hr0]
    exact RowB.mono (RowB.put HR2.out _ HD2.out rfl) (by omega)
  case hstop => exact fun _ _ _ _ _ h => h.elim
/-- div: quotient and remainder. -/
theorem divB (N M : Nat) (hN : Few N) (hM : Few (M * 1000000000)) (hM0 : M ≠ 0) (w : World) (u v : Value) (hu : NumAt w u N) (hv : NumAt w v M) : Calls Tryz.prog 108 #[u, v] w (DivPost N M w) := div_any N M hN hM hM0 w u v hu hv
end Go.Proofs.YtfaibifilpfikaaGreatDoor.N5

namespace Go.Proofs.YtfaibifilpfikaaGreatDoor.N6
open Go.RowKit Go.Shelf Go.Proofs.YtfaibifilpfikaaGreatDoorW.PrintWords Go.Proofs.YtfaibifilpfikaaGreatDoorW.PrintLast Go.Proofs.YtfaibifilpfikaaGreatDoorW.PrintMore Go.Proofs.YtfaibifilpfikaaGreatDoor.A Go.Proofs.YtfaibifilpfikaaGreatDoor.N1 Go.Proofs.YtfaibifilpfikaaGreatDoor.Bw Go.Proofs.YtfaibifilpfikaaGreatDoor.N3 Go.Proofs.YtfaibifilpfikaaGreatDoor.N4 Go.Proofs.YtfaibifilpfikaaGreatDoor.Rb Go.Proofs.YtfaibifilpfikaaGreatDoor.N5
set_option linter.unusedVariables false
set_option linter.unusedSimpArgs false

/-- At most 3999 limbs. -/
def Few' (n : Nat) : Prop := (Nb.limbs n).length ≤ 3999
theorem Few'.few {n : Nat} (h : Few' n) : Few n := Nat.le_trans h (by decide)
theorem Few'.le {n m : Nat} (h : Few' n) (hm : m ≤ n) : Few' m := Nat.le_trans (Nb.limbs_len_le hm) h
theorem Few'.mul {n : Nat} (h : Few' n) : Few (n * 1000000000) := by
  by_cases h0 : n = 0
  · subst h0; unfold Few; rw [Nat.zero_mul, Nb.limbs_zero]; decide
  · unfold Few
    have := Nb.limbs_cons (a := 0) (v := n) (by decide) (by omega)
    rw [Nat.zero_add, Nat.mul_comm] at this
    rw [this, List.length_cons]
    unfold Few' at h
    omega
set_option maxRecDepth 100000 in
set_option maxHeartbeats 2000000 in
theorem gcd_any (a b : Nat) (ha : Few' a) (hb : Few' b) (w : World) (u v : Value) (hu : NumAt w u a) (hv : NumAt w v b) :
    Calls Tryz.prog 115 #[u, v] w fun e w' => ∃ v', e = .returned v' ∧ NumAt w' v' (Nat.gcd a b) ∧ Below w.heap.size w w' := by
  have HU := Aside0.mk hu
  have HV := Aside0.mk hv
  have HA := Aside0.mk ha
  have HB := Aside0.mk hb
  obtain ⟨A, c, rfl, _, _⟩ := hu
  obtain ⟨B, d, rfl, _, _⟩ := hv
  clear ha hb
  go_enter Tryz.func115, Tryz.ntmps115
  go_wp2
  go_loopg [0, 1] (b + 1) (fun kq v0 v1 wr => ∃ x y : Nat, Aside0 (y < kq) ∧ Aside0 (NumAt wr v0 x) ∧ Aside0 (NumAt wr v1 y) ∧ Aside0 (Nat.gcd x y = Nat.gcd a b) ∧ Aside0 (Few' x) ∧ Aside0 (Few' y) ∧ Aside0 (Below w.heap.size w wr))
  case atStart => exact ⟨a, b, ⟨by omega⟩, HU, HV, ⟨rfl⟩, HA, HB, ⟨Below.refl _ _⟩⟩
  case round =>
    obtain ⟨x, y, hk, hx, hy, hg, hfx, hfy, hbw⟩ := hrel
    clear HU HV
    obtain ⟨A1, c1, rfl, _, _⟩ := hx.out
    obtain ⟨B1, d1, rfl, hd1, _⟩ := hy.out
    clear hd1
    have hM := u64s_length (Nb.limbs y)
    by_cases h0 : y = 0
    · have hl0 : (u64s (Nb.limbs y)).length = 0 := by rw [hM, h0, Nb.limbs_zero]; rfl
      have hdec : decide ((0 : Int) < ((u64s (Nb.limbs y)).length : Int)) = false := decide_eq_false (by omega)
      have hdec2 : decide (0 < (u64s (Nb.limbs y)).length) = false := decide_eq_false (by omega)
      have H0 := Aside0.mk h0
      clear hM hl0 h0
      go_wp2
      go_ret
      refine ⟨_, rfl, ?_, hbw.out⟩
      have hg' := hg.out
      rw [H0.out, Nat.gcd_zero_right] at hg'
      rw [← hg']
      exact hx.out
    · have hpos : 0 < (u64s (Nb.limbs y)).length := by rw [hM]; exact List.length_pos_iff.2 (fun e => h0 (Nb.limbs_nil.1 e))
      have hdec : decide ((0 : Int) < ((u64s (Nb.limbs y)).length : Int)) = true := decide_eq_true (by omega)
      have hdec2 : decide (0 < (u64s (Nb.limbs y)).length) = true := decide_eq_true hpos
      clear hM hpos
      go_wp2_with (go_at_call 108; refine (divB x y (Few'.few hfx.out) (Few'.mul hfy.out) h0 _ _ _ hx.out hy.out).mono ?_; rintro e w2 ⟨q, r, rfl, hq, hr, hb2⟩; have HR2 := Aside0.mk (NumB.num hr); have HY2 := Aside0.mk (NumAt.below hy.out hb2); have HB2 := Aside0.mk (below_step hbw.out hb2); clear hq hr hb2)
      have hmod := Nat.mod_lt x (Nat.pos_of_ne_zero h0)
      go_roundg y
      case measure => exact hk.out
      case rel => exact ⟨y, x % y, ⟨hmod⟩, HY2, HR2, ⟨by rw [Nat.gcd_comm, ← Nat.gcd_rec, Nat.gcd_comm]; exact hg.out⟩, hfy, ⟨Few'.le hfy.out (by omega)⟩, HB2⟩
end Go.Proofs.YtfaibifilpfikaaGreatDoor.N6
