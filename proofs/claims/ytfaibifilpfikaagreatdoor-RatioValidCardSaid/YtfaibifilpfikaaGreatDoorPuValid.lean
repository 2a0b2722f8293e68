/- The law of validity: the statement's call answers true; conditions: Go's tables, a number of eight bits. -/
import Derived.Test.YtfaibifilpfikaaGreatDoorMg
import Derived.Test.YtfaibifilpfikaaGreatDoorF7
namespace Go.Proofs.YtfaibifilpfikaaGreatDoor.Pu
open Go.Proofs.YtfaibifilpfikaaGreatDoorW.PrintWords Go.Proofs.YtfaibifilpfikaaGreatDoor.A Go.Proofs.YtfaibifilpfikaaGreatDoor.N11 Go.Proofs.YtfaibifilpfikaaGreatDoor.X2 Go.Proofs.YtfaibifilpfikaaGreatDoor.C Go.Proofs.YtfaibifilpfikaaGreatDoor.D Go.Proofs.YtfaibifilpfikaaGreatDoor.N13 Go.Proofs.YtfaibifilpfikaaGreatDoor.N14 Go.Proofs.YtfaibifilpfikaaGreatDoor.N15 Go.Proofs.YtfaibifilpfikaaGreatDoor.N16 Go.Proofs.YtfaibifilpfikaaGreatDoor.P1 Go.Proofs.YtfaibifilpfikaaGreatDoor.P3 Go.Proofs.YtfaibifilpfikaaGreatDoor.P4 Go.Proofs.YtfaibifilpfikaaGreatDoor.P5 Go.Proofs.YtfaibifilpfikaaGreatDoor.P7 Go.Proofs.YtfaibifilpfikaaGreatDoor.X7
open Rq Go.RowKit
set_option linter.unusedVariables false
set_option linter.unusedSimpArgs false

abbrev Said (a b : S23) (F : FuncId) (r : R4) : Prop := ∀ W, Tabs W → Calls Tryz.prog F #[.agg #[.bool a.f0, .string a.f1, .string a.f2], .agg #[.bool b.f0, .string b.f1, .string b.f2]] W fun e w' => e = .returned (.tuple #[.agg #[.bool r.1, .string r.2.1, .string r.2.2.1], .int .i64 r.2.2.2]) ∧ Below W.heap.size W w'
theorem valid_road (a b : S23) (raw : Int) (i : Nat) (hi : i < 4) (F : FuncId) (hF : (#[.func (.func 25) #[] #[], .func (.func 28) #[] #[], .func (.func 30) #[] #[], .func (.func 32) #[] #[]] : Array Value)[i]? = some (.func (.func F) #[] #[]))
    (hent : ∀ args w, (callFunc F args).run Tryz.prog w = .ok (.enter F args) w) (hr : (wrap64 raw).tmod 4 = (i : Int)) (z : Bool) (q : Rat) (hq : vld a = true → vld b = true → ¬ (z = true ∧ q23 b = 0) → sm a = true → sm b = true → Sz q 300) (hcall : Said a b F (res z a b q))
    (hS : isShort 160 a = true ∧ isShort 160 b = true) (W : World) (hT : Tabs W) :
    Calls Tryz.prog 7 #[.agg #[.bool a.f0, .string a.f1, .string a.f2], .agg #[.bool b.f0, .string b.f1, .string b.f2], .int .u8 raw] W fun e w' => e = .returned (.bool true) ∧ Below W.heap.size W w' := by
  have hH : customhouselaw05_head.f = some true := rfl
  have h0 : (0 ≤ (i : Int)) = True := by simp
  have h1 : ((i : Int) < 4) = True := by simp; omega
  have hSs : customhouselaw05_short.f 200 160 [⟨a.f0, a.f1, a.f2⟩, ⟨b.f0, b.f1, b.f2⟩] = some true := by
    rw [show ([⟨a.f0, a.f1, a.f2⟩, ⟨b.f0, b.f1, b.f2⟩] : List S23) = [a, b] from rfl, short_two (by decide) 160 a b, hS.1, hS.2]; rfl
  have va := valid_f2 (k := 1) (by decide) a
  have vb := valid_f2 (k := 1) (by decide) b
  by_cases ha : vld a = true
  · rw [ha] at va
    by_cases hb : vld b = true
    · rw [hb] at vb
      have err : ∀ e : Int, (e == 0) = false → res z a b q = bad e → Calls Tryz.prog 7 #[.agg #[.bool a.f0, .string a.f1, .string a.f2], .agg #[.bool b.f0, .string b.f1, .string b.f2], .int .u8 raw] W fun e w' => e = .returned (.bool true) ∧ Below W.heap.size W w' := by
        intro e he hres
        rw [hres] at hcall
        have vx : ratio_Valid.f 1 false ⟨#[]⟩ ⟨#[]⟩ = some false := by
          have := valid_f2 (k := 1) (by decide) ⟨false, ⟨#[]⟩, ⟨#[]⟩⟩
          rw [show vld ⟨false, ⟨#[]⟩, ⟨#[]⟩⟩ = false by decide] at this
          exact this
        exact F7.valid_err _ _ _ _ _ _ raw hH hSs false ⟨#[]⟩ ⟨#[]⟩ e i h0 h1 F hF hent hr hcall va vb vx he W hT
      by_cases hz : z = true ∧ q23 b = 0
      · exact err 15 (by decide) (by unfold res; rw [if_pos (show vld a = true ∧ vld b = true from ⟨ha, hb⟩), if_pos hz])
      · by_cases hs : sm a = true ∧ sm b = true
        · have hres : res z a b q = enc q := res_eq ha hb hz hs.1 hs.2
          rw [hres] at hcall
          have vx := valid_q (hq ha hb hz hs.1 hs.2)
          exact F7.valid_ok _ _ _ _ _ _ raw hH hSs (eS q) (eN q) (eD q) 0 i h0 h1 F hF hent hr hcall va vb vx W hT
        · exact err 2 (by decide) (by unfold res; rw [if_pos (show vld a = true ∧ vld b = true from ⟨ha, hb⟩), if_neg hz, if_neg hs])
    · rw [Bool.eq_false_iff.2 hb] at vb
      have hres : res z a b q = bad 1 := by unfold res; rw [if_neg (fun h => hb h.2)]
      rw [hres] at hcall
      exact F7.valid_badB _ _ _ _ _ _ raw hH hSs false ⟨#[]⟩ ⟨#[]⟩ 1 i h0 h1 F hF hent hr hcall va vb W hT
  · rw [Bool.eq_false_iff.2 ha] at va
    have hres : res z a b q = bad 1 := by unfold res; rw [if_neg (fun h => ha h.1)]
    rw [hres] at hcall
    exact F7.valid_badA _ _ _ _ _ _ raw hH hSs false ⟨#[]⟩ ⟨#[]⟩ 1 i h0 h1 F hF hent hr hcall va W hT
theorem u8_of {n : Int} (h : (Lit.int .u8 n).wf = true) : 0 ≤ n ∧ n < 256 := by
  simp only [Lit.wf, Bool.and_eq_true, decide_eq_true_eq] at h
  have h1 : IntKind.u8.min = 0 := by decide
  have h2 : IntKind.u8.max = 255 := by decide
  rw [h1, h2] at h
  omega
theorem sz140 {a : S23} (hv : vld a = true) (hs : sm a = true) : Sz (q23 a) 140 := sz_q23 hv (sm_iff.1 hs).1 (sm_iff.1 hs).2
theorem valid_calls (a b : S23) (raw : Int) (hraw : 0 ≤ raw ∧ raw < 256) (W : World) (hT : Tabs W) :
    Calls Tryz.prog 7 #[.agg #[.bool a.f0, .string a.f1, .string a.f2], .agg #[.bool b.f0, .string b.f1, .string b.f2], .int .u8 raw] W fun e w' => e = .returned (.bool true) ∧ Below W.heap.size W w' := by
  by_cases hs : (isShort 160 a && isShort 160 b) = true
  · rw [Bool.and_eq_true] at hs
    have hw : wrap64 raw = raw := by unfold wrap64; omega
    have hm : (wrap64 raw).tmod 4 = raw % 4 := by rw [hw, Int.tmod_eq_emod_of_nonneg hraw.1]
    have hcase : raw % 4 = 0 ∨ raw % 4 = 1 ∨ raw % 4 = 2 ∨ raw % 4 = 3 := by omega
    rcases hcase with h | h | h | h <;> rw [h] at hm
    · exact valid_road a b raw 0 (by decide) 25 rfl (enters_of (P := Tryz.prog) Tryz.func25 (by kernel_rfl) rfl) hm false _ (fun ha hb _ sa sb => (sz_add (sz140 ha sa) (sz140 hb sb)).le (by decide))
        (fun W hW => ratio_Add.calls _ _ _ _ _ _ _ _ _ _ W (add_f a b) hW) hs W hT
    · exact valid_road a b raw 1 (by decide) 28 rfl (enters_of (P := Tryz.prog) Tryz.func28 (by kernel_rfl) rfl) hm false _ (fun ha hb _ sa sb => (sz_sub (sz140 ha sa) (sz140 hb sb)).le (by decide))
        (fun W hW => ratio_Sub.calls _ _ _ _ _ _ _ _ _ _ W (sub_f a b) hW) hs W hT
    · exact valid_road a b raw 2 (by decide) 30 rfl (enters_of (P := Tryz.prog) Tryz.func30 (by kernel_rfl) rfl) hm false _ (fun ha hb _ sa sb => (sz_mul (sz140 ha sa) (sz140 hb sb)).le (by decide))
        (fun W hW => ratio_Mul.calls _ _ _ _ _ _ _ _ _ _ W (mul_f a b) hW) hs W hT
    · exact valid_road a b raw 3 (by decide) 32 rfl (enters_of (P := Tryz.prog) Tryz.func32 (by kernel_rfl) rfl) hm true _ (fun ha hb hz sa sb => (sz_div (fun e => hz ⟨rfl, e⟩) (sz140 ha sa) (sz140 hb sb)).le (by decide))
        (fun W hW => ratio_Div.calls _ _ _ _ _ _ _ _ _ _ W (div_f' a b) hW) hs W hT
  · have hSs : customhouselaw05_short.f 200 160 [⟨a.f0, a.f1, a.f2⟩, ⟨b.f0, b.f1, b.f2⟩] = some false := by
      rw [show ([⟨a.f0, a.f1, a.f2⟩, ⟨b.f0, b.f1, b.f2⟩] : List S23) = [a, b] from rfl, short_two (by decide) 160 a b, Bool.eq_false_iff.2 hs]
    exact F7.valid_long _ _ _ _ _ _ raw rfl hSs W hT
end Go.Proofs.YtfaibifilpfikaaGreatDoor.Pu
