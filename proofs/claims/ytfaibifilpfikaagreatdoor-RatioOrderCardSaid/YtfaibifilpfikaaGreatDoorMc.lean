/- strings.Trim as a Lean function with its contract; conditions: the cutset of the ten digits. -/
import Derived.Test.YtfaibifilpfikaaGreatDoorMb
import Derived.Test.YtfaibifilpfikaaGreatDoorShelf
import Derived.Lib.ParseIntB
import Derived.Lib.ItoaMem
import Derived.Lib.AppendIntMem
import Derived.Lib.Walk
import Derived.BigCall
import Derived.BigGuard
import Derived.Test.YtfaibifilpfikaaGreatDoorMa
namespace Go.Proofs.YtfaibifilpfikaaGreatDoor.N7
open Go.RowKit Go.Shelf Go.Proofs.YtfaibifilpfikaaGreatDoorW.PrintWords Go.Proofs.YtfaibifilpfikaaGreatDoorW.PrintLast Go.Proofs.YtfaibifilpfikaaGreatDoorW.PrintMore Go.Proofs.YtfaibifilpfikaaGreatDoor.A Go.Proofs.YtfaibifilpfikaaGreatDoor.N1 Go.Proofs.YtfaibifilpfikaaGreatDoor.Bw Go.Proofs.YtfaibifilpfikaaGreatDoor.N3 Go.Proofs.YtfaibifilpfikaaGreatDoor.N4 Go.Proofs.YtfaibifilpfikaaGreatDoor.Rb Go.Proofs.YtfaibifilpfikaaGreatDoor.N5 Go.Proofs.YtfaibifilpfikaaGreatDoor.N6
attribute [local go_sem] max2_int min2_int max_two min_two
set_option linter.unusedVariables false
set_option linter.unusedSimpArgs false

theorem parseM_ok : ∀ (l : List UInt8) (acc : Nat), (∀ c ∈ l, Nb.dig c = true) → (acc + 1) * 10 ^ l.length ≤ 1000000000000000000 → Lib.parseUintM (2 ^ 64 - 1) acc l = .ok (acc * 10 ^ l.length + Nb.dv l)
  | [], acc, _, _ => by simp [Lib.parseUintM, Nb.dv]
  | c :: r, acc, hd, hb => by
    have hc := Nb.dig_le (hd c List.mem_cons_self)
    rw [List.length_cons, Nat.pow_succ] at hb
    have hp : 1 ≤ 10 ^ r.length := Nat.one_le_pow _ _ (by decide)
    have hb2 : (acc * 10 + (c.toNat - 48) + 1) * 10 ^ r.length ≤ 1000000000000000000 := by
      refine Nat.le_trans (Nat.mul_le_mul_right _ (show acc * 10 + (c.toNat - 48) + 1 ≤ (acc + 1) * 10 by omega)) ?_
      rw [Nat.mul_assoc, Nat.mul_comm 10]; exact hb
    have hlt : acc * 10 + (c.toNat - 48) + 1 ≤ 1000000000000000000 := Nat.le_trans (Nat.le_mul_of_pos_right _ hp) hb2
    rw [Lib.parseUintM, if_pos hc, if_neg (by omega), if_neg (by omega), parseM_ok r _ (fun x hx => hd x (List.mem_cons_of_mem _ hx)) hb2]
    congr 1
    rw [show c :: r = [c] ++ r from rfl, Nb.dv_append, List.length_append, List.length_singleton, Nat.add_comm 1, Nat.pow_succ, Nat.add_mul, show Nb.dv [c] = c.toNat - 48 by show 0 * 10 + (c.toNat - 48) = _; omega, Nat.mul_assoc, Nat.mul_comm 10]
    omega
theorem parse_ok {l : List UInt8} (hd : ∀ c ∈ l, Nb.dig c = true) (hn : l ≠ []) (h9 : l.length ≤ 9) : Lib.parseUintB 64 l = .ok (Nb.dv l) := by
  unfold Lib.parseUintB
  rw [if_neg hn, parseM_ok l 0 hd ?_]
  · simp
  · have : 10 ^ l.length ≤ 10 ^ 9 := Nat.pow_le_pow_right (by decide) h9
    rw [Nat.zero_add, Nat.one_mul]
    omega
theorem chunk_list (s : ByteArray) (e : Nat) (h : e ≤ s.size) : (s.extract (e - 9) e).data.toList = (s.data.toList.take e).drop (e - 9) := by
  rw [ByteArray.data_extract, Array.toList_extract, List.extract_eq_take_drop, List.drop_take]
theorem row_one (W : World) (n : Nat) : (Kd.int .u64).C (W.alloc (.cells #[.int .u64 (n : Int)] 124)) (some ⟨W.heap.size, 0, none⟩) 1 [(n : Int)] := by
  refine ⟨rfl, by decide, fun _ => ⟨_, rfl, fun j p hj => ⟨[.int .u64 p], rfl, rfl, fun i u hi => ?_⟩⟩⟩
  have hi0 : i = 0 := by
    have := (List.getElem?_eq_some_iff.1 hi).1
    simp at this
    exact this
  subst hi0
  obtain rfl := Option.some.inj hi
  have hj0 : j = 0 := by
    have := (List.getElem?_eq_some_iff.1 hj).1
    simp at this
    exact this
  subst hj0
  have hp : ((n : Nat) : Int) = p := by simpa using hj
  subst hp
  have hadd : (⟨W.heap.size, 0, none⟩ : Addr).add (0 * (Kd.int .u64).sz + 0) = ⟨W.heap.size, 0, none⟩ := by
    show (⟨W.heap.size, 0, none⟩ : Addr).add (0 * 1 + 0) = _
    unfold Addr.add; split <;> simp_all
  rw [hadd, blk_cell (blk_new W _) 0]
  rfl
set_option maxRecDepth 100000 in
set_option maxHeartbeats 2000000 in
theorem parse_any (s : ByteArray) (hd : ∀ c ∈ s.data.toList, Nb.dig c = true) (hs : s.size ≤ 20000) (w : World) :
    Calls Tryz.prog 107 #[.string s] w fun e w' => ∃ v', e = .returned v' ∧ NumB w.heap.size w' v' (Nb.dv s.data.toList) ∧ Below w.heap.size w w' := by
  have HD := Aside0.mk hd
  clear hd
  have hsz : s.size = s.data.toList.length := by simp
  have HSZ := Aside0.mk hsz
  clear hsz
  go_enter Tryz.func107, Tryz.ntmps107
  go_wp2
  go_loopw [3, 4] (fun v3 v4 wr => ∃ (ms : List Nat) (i : Int), v4 = .int .i64 i ∧ -9 ≤ i ∧ i ≤ (s.size : Int) ∧ Aside0 (ms ++ Nb.chunks s.data.toList i.toNat = Nb.chunks s.data.toList s.size) ∧ Aside0 (ms.length + i.toNat ≤ s.size) ∧ Aside0 ((Kd.int .u64).R 124 wr w.heap.size (fun k => w.heap.size ≤ k) v3 (u64s ms)) ∧ Aside0 (Below w.heap.size w wr)) (fun _ v4 _ => (RowKit.intOf v4).toNat)
  case atStart => exact ⟨[], s.size, rfl, by omega, by omega, ⟨by simp⟩, ⟨by simp⟩, ⟨Kd.R_nil _ _ _ _ _⟩, ⟨Below.refl _ _⟩⟩
  case round =>
    obtain ⟨ms, i, rfl, hi9, his, hch, hlen, hR, hbw⟩ := hrel
    by_cases hi : 0 < i
    · obtain ⟨e, rfl⟩ : ∃ e : Nat, i = e := ⟨i.toNat, by omega⟩
      rw [Int.toNat_natCast] at hch hlen
      clear hi9
      by_cases h9 : 9 < e
      · obtain ⟨m, rfl⟩ : ∃ m, e = m + 9 := ⟨e - 9, by omega⟩
        have hsl : ∀ W : World, (Instr.slice 9 (.string s) (some (.int .i64 (m : Int))) (some (.int .i64 ((m : Int) + 9))) none).run Tryz.prog W = .ok (.string (s.extract m (m + 9))) W := fun W => by
          have := run_slice_string (P := Tryz.prog) (w := W) 9 s .i64 .i64 (m : Int) ((m : Int) + 9) Tryz.underlying9 (by omega) (by omega) (by omega)
          rw [this, Int.toNat_natCast, show ((m : Int) + 9).toNat = m + 9 by omega]
        have hcl : (s.extract m (m + 9)).data.toList = (s.data.toList.take (m + 9)).drop (m + 9 - 9) := by have := chunk_list s (m + 9) (by omega); rwa [show m + 9 - 9 = m by omega] at this ⊢
        have hpo : Aside0 (Lib.parseUintB 64 (s.extract m (m + 9)).data.toList = .ok (Nb.dv ((s.data.toList.take (m + 9)).drop (m + 9 - 9)))) := Aside0.mk (by
          have hln : (s.extract m (m + 9)).data.toList.length = 9 := by rw [hcl, List.length_drop, List.length_take, ← HSZ.out]; omega
          rw [parse_ok (l := (s.extract m (m + 9)).data.toList) (fun c hc => by rw [hcl] at hc; exact HD.out c (List.mem_of_mem_take (List.mem_of_mem_drop hc))) (fun e => by rw [e] at hln; simp at hln) (by omega), hcl])
        have HCH : Aside0 (Nb.chunks s.data.toList (m + 9) = Nb.dv ((s.data.toList.take (m + 9)).drop (m + 9 - 9)) :: Nb.chunks s.data.toList m) := Aside0.mk (by rw [Nb.chunks_pos _ (by omega), show m + 9 - 9 = m by omega])
        have hm : 0 < m := by omega
        have HIS := Aside0.mk his
        generalize Nb.dv ((s.data.toList.take (m + 9)).drop (m + 9 - 9)) = x at hpo HCH
        clear h9 hi hcl
        obtain ⟨A3, c3, rfl⟩ := Kd.R_slice hR.out
        go_wp2_with (first
          | (go_at_call 133; refine (Tryz.strconv_ParseUint_64 (s.extract m (m + 9)) (by rw [ByteArray.size_extract]; omega) x hpo.out _).mono ?_; rintro e w2 ⟨rfl, hw2⟩; have hb2 : Below wr.heap.size wr w2 := (by rcases hw2 with rfl | rfl; exact Below.refl _ _; exact Lib.bytesWorld_below _ _ _); have HR2 := Aside0.mk (Kd.R_alloc (Kd.R_below hR.out hb2) (.cells #[.int .u64 (x : Int)] 124)); have HB2 := Aside0.mk (below_alloc (below_step hbw.out hb2) (.cells #[.int .u64 (x : Int)] 124)); clear hw2 hb2; have HCX : Aside0 ((Kd.int .u64).C (w2.alloc (.cells #[.int .u64 (x : Int)] 124)) (some ⟨w2.heap.size, 0, none⟩) 1 [(x : Int)]) := Aside0.mk (row_one w2 x))
          | (at_builtin; refine Kd.R_append_row (Value.int .u64) (0 : Int) w.heap.size rfl (.tmp 23) (.tmp 25) 105 124 (.int .u64 0) 8 rfl Tryz.underlying105 A.info124 rfl (by decide) _ (u64s ms) [(x : Int)] _ _ _ (fun k => w.heap.size ≤ k) rfl rfl (fun k hk => Nat.le_trans (below_size HB2.out) hk) HR2.out HCX.out HB2.out (below_size HB2.out) (by rw [u64s_length]; have := hlen.out; omega) ?_; intro v1 w3 ho hb hg hat; have HO3 := Aside0.mk ho; have HB3 := Aside0.mk hb; clear ho hb hg hat HR2 HCX HB2))
        go_roundw
        case rel => exact ⟨ms ++ [x], (m : Int), rfl, by omega, by omega, ⟨by rw [List.append_assoc, List.singleton_append, Int.toNat_natCast, ← HCH.out]; exact hch.out⟩, ⟨by rw [List.length_append, List.length_singleton, Int.toNat_natCast]; have := hlen.out; omega⟩, ⟨by rw [u64s_append]; exact HO3.out⟩, HB3⟩
        case measure => simp [RowKit.intOf]; omega
      · have hsl : ∀ W : World, (Instr.slice 9 (.string s) (some (.int .i64 0)) (some (.int .i64 (e : Int))) none).run Tryz.prog W = .ok (.string (s.extract 0 e)) W := fun W => by
          have := run_slice_string (P := Tryz.prog) (w := W) 9 s .i64 .i64 0 (e : Int) Tryz.underlying9 (by omega) (by omega) (by omega)
          rw [this, Int.toNat_natCast]
          rfl
        have hcl : (s.extract 0 e).data.toList = (s.data.toList.take e).drop (e - 9) := by have := chunk_list s e (by omega); rwa [show e - 9 = 0 by omega] at this ⊢
        have hpo : Aside0 (Lib.parseUintB 64 (s.extract 0 e).data.toList = .ok (Nb.dv ((s.data.toList.take e).drop (e - 9)))) := Aside0.mk (by
          have hln : (s.extract 0 e).data.toList.length = e := by rw [hcl, List.length_drop, List.length_take, ← HSZ.out]; omega
          rw [parse_ok (l := (s.extract 0 e).data.toList) (fun c hc => by rw [hcl] at hc; exact HD.out c (List.mem_of_mem_take (List.mem_of_mem_drop hc))) (fun h => by rw [h] at hln; simp at hln; omega) (by omega), hcl])
        have HCH : Aside0 (Nb.chunks s.data.toList e = Nb.dv ((s.data.toList.take e).drop (e - 9)) :: []) := Aside0.mk (by rw [Nb.chunks_pos _ (by omega), show e - 9 = 0 by omega, Nb.chunks_zero])
        have he9 : (e : Int) ≤ 9 := by omega
        have hmx1 : ¬ (0 : Int) < (e : Int) - 9 := by omega
        generalize Nb.dv ((s.data.toList.take e).drop (e - 9)) = x at hpo HCH
        clear h9 hcl
        obtain ⟨A3, c3, rfl⟩ := Kd.R_slice hR.out
        go_wp2_with (first
          | (go_at_call 133; refine (Tryz.strconv_ParseUint_64 (s.extract 0 e) (by rw [ByteArray.size_extract]; omega) x hpo.out _).mono ?_; rintro e0 w2 ⟨rfl, hw2⟩; have hb2 : Below wr.heap.size wr w2 := (by rcases hw2 with rfl | rfl; exact Below.refl _ _; exact Lib.bytesWorld_below _ _ _); have HR2 := Aside0.mk (Kd.R_alloc (Kd.R_below hR.out hb2) (.cells #[.int .u64 (x : Int)] 124)); have HB2 := Aside0.mk (below_alloc (below_step hbw.out hb2) (.cells #[.int .u64 (x : Int)] 124)); clear hw2 hb2; have HCX : Aside0 ((Kd.int .u64).C (w2.alloc (.cells #[.int .u64 (x : Int)] 124)) (some ⟨w2.heap.size, 0, none⟩) 1 [(x : Int)]) := Aside0.mk (row_one w2 x))
          | (at_builtin; refine Kd.R_append_row (Value.int .u64) (0 : Int) w.heap.size rfl (.tmp 23) (.tmp 25) 105 124 (.int .u64 0) 8 rfl Tryz.underlying105 A.info124 rfl (by decide) _ (u64s ms) [(x : Int)] _ _ _ (fun k => w.heap.size ≤ k) rfl rfl (fun k hk => Nat.le_trans (below_size HB2.out) hk) HR2.out HCX.out HB2.out (below_size HB2.out) (by rw [u64s_length]; have := hlen.out; omega) ?_; intro v1 w3 ho hb hg hat; have HO3 := Aside0.mk ho; have HB3 := Aside0.mk hb; clear ho hb hg hat HR2 HCX HB2))
        go_roundw
        case rel => exact ⟨ms ++ [x], (e : Int) - 9, rfl, by omega, by omega, ⟨by rw [show ((e : Int) - 9).toNat = 0 by omega, Nb.chunks_zero, List.append_nil, ← hch.out, HCH.out]⟩, ⟨by rw [List.length_append, List.length_singleton]; have := hlen.out; omega⟩, ⟨by rw [u64s_append]; exact HO3.out⟩, HB3⟩
        case measure => simp [RowKit.intOf]; omega
    · have hi0 : decide (0 < i) = false := decide_eq_false hi
      have HCH : Aside0 (ms = Nb.chunks s.data.toList s.data.toList.length) := Aside0.mk (by rw [← HSZ.out, ← hch.out, show i.toNat = 0 by omega, Nb.chunks_zero, List.append_nil])
      have HTR : Aside0 (Nb.trim ms = Nb.limbs (Nb.dv s.data.toList)) := Aside0.mk (by rw [HCH.out]; exact Nb.trim_chunks _ HD.out)
      have hi2 : i ≤ 0 := by omega
      have HLM := Aside0.mk (show ms.length ≤ 100000 by have := hlen.out; omega)
      clear hi
      obtain ⟨A3, c3, rfl⟩ := Kd.R_slice hR.out
      have HRB := Aside0.mk (RowB.of_V (l := ms) (base := w.heap.size) (Kd.R_V (base' := 0) hR.out) (fun k hk => hk))
      go_wp2_with (go_at_call 134; refine (trimB ms HLM.out _ _ w.heap.size (below_size hbw.out) HRB.out).mono ?_; rintro e0 w2 ⟨v', rfl, hv, hb2⟩; rw [HTR.out] at hv; have HV := Aside0.mk hv; have HB2 := Aside0.mk (below_step hbw.out hb2); clear hv hb2)
      go_ret
      exact ⟨_, rfl, HV.out, HB2.out⟩
end Go.Proofs.YtfaibifilpfikaaGreatDoor.N7

namespace Go.Proofs.YtfaibifilpfikaaGreatDoor.N8
open Go.RowKit Go.Shelf Go.Proofs.YtfaibifilpfikaaGreatDoorW.PrintWords Go.Proofs.YtfaibifilpfikaaGreatDoorW.PrintLast Go.Proofs.YtfaibifilpfikaaGreatDoorW.PrintMore Go.Proofs.YtfaibifilpfikaaGreatDoor.A Go.Proofs.YtfaibifilpfikaaGreatDoor.N1 Go.Proofs.YtfaibifilpfikaaGreatDoor.Bw Go.Proofs.YtfaibifilpfikaaGreatDoor.N3 Go.Proofs.YtfaibifilpfikaaGreatDoor.N4 Go.Proofs.YtfaibifilpfikaaGreatDoor.Rb Go.Proofs.YtfaibifilpfikaaGreatDoor.N5 Go.Proofs.YtfaibifilpfikaaGreatDoor.N6 Go.Proofs.YtfaibifilpfikaaGreatDoor.N7
set_option linter.unusedVariables false
set_option linter.unusedSimpArgs false

theorem make_cap (n : Nat) (hn : n ≤ 100000) (W : World) : (Instr.makeSlice 105 (.int .i64 0) (.int .i64 (n : Int))).run Tryz.prog W = .ok (.slice (some ⟨W.heap.size, 0, none⟩) 0 n) (W.alloc (.cells (madeCells #[.int .u64 0] n) 124)) := by
  obtain ⟨i0, hi, hz0, hz1, hz2⟩ := info_parts A.info124
  have := run_makeSlice (P := Tryz.prog) (w := W) 105 124 i0 (.int .u64 0) Tryz.underlying105 hi hz0 .i64 .i64 0 (n : Int) (by omega) (by omega) (by rw [hz1]; simp; omega) (by rw [hz2]; omega) (by omega)
  rw [this, hz1, Nat.mul_one, Int.toNat_natCast]
  rfl
theorem own_cap (n : Nat) (hn : n ≤ 100000) (W : World) (base : Nat) (hb : base ≤ W.heap.size) : (Kd.int .u64).R 124 (W.alloc (.cells (madeCells #[.int .u64 0] n) 124)) base (fun k => base ≤ k) (.slice (some ⟨W.heap.size, 0, none⟩) 0 n) (u64s []) :=
  Kd.R_of_own (World.ownsRow_made W (madeCells #[.int .u64 0] n) n hb (by unfold maxLen; omega) (by rw [size_madeCells, Nat.mul_one])) (fun k hk => by simp [Value.ownBlock] at hk; omega)
theorem row_oneI (W : World) (n : Int) : (Kd.int .u64).C (W.alloc (.cells #[.int .u64 n] 124)) (some ⟨W.heap.size, 0, none⟩) 1 [n] := by
  refine ⟨rfl, by decide, fun _ => ⟨_, rfl, fun j p hj => ⟨[.int .u64 p], rfl, rfl, fun i u hi => ?_⟩⟩⟩
  have hi0 : i = 0 := by
    have := (List.getElem?_eq_some_iff.1 hi).1
    simp at this
    exact this
  subst hi0
  obtain rfl := Option.some.inj hi
  have hj0 : j = 0 := by
    have := (List.getElem?_eq_some_iff.1 hj).1
    simp at this
    exact this
  subst hj0
  have hp : n = p := by simpa using hj
  subst hp
  have hadd : (⟨W.heap.size, 0, none⟩ : Addr).add (0 * (Kd.int .u64).sz + 0) = ⟨W.heap.size, 0, none⟩ := by
    show (⟨W.heap.size, 0, none⟩ : Addr).add (0 * 1 + 0) = _
    unfold Addr.add; split <;> simp_all
  rw [hadd, blk_cell (blk_new W _) 0]
  rfl
theorem add_step {xs ys : List Nat} {i c : Nat} {done : List Nat} (hi : i < xs.length) (h : done ++ Nb.addL c (xs.drop i) (ys.drop i) = Nb.addL 0 xs ys) :
    (done ++ [(xs[i]?.getD 0 + c + ys[i]?.getD 0) % 1000000000]) ++ Nb.addL ((xs[i]?.getD 0 + c + ys[i]?.getD 0) / 1000000000) (xs.drop (i + 1)) (ys.drop (i + 1)) = Nb.addL 0 xs ys := by
  rw [← h, List.drop_eq_getElem_cons hi, Nb.addL, headD_drop, List.tail_drop, List.append_assoc, List.singleton_append, List.getElem?_eq_getElem hi, List.getD_eq_getElem?_getD]
  rfl
set_option maxRecDepth 100000 in
set_option maxHeartbeats 2000000 in
theorem add_any (a b : Nat) (ha : Few a) (hb : Few b) (w : World) (u v : Value) (hu : NumAt w u a) (hv : NumAt w v b) :
    Calls Tryz.prog 111 #[u, v] w fun e w' => ∃ v', e = .returned v' ∧ NumB w.heap.size w' v' (a + b) ∧ Below w.heap.size w w' := by
  obtain ⟨A0, c0, rfl, hc0, hC0⟩ := hu
  obtain ⟨B0, d0, rfl, hd0, hD0⟩ := hv
  clear hc0 hd0
  by_cases hl : (u64s (Nb.limbs a)).length < (u64s (Nb.limbs b)).length
  · have hdl : decide (((u64s (Nb.limbs a)).length : Int) < ((u64s (Nb.limbs b)).length : Int)) = true := decide_eq_true (by omega)
    have hM := u64s_length (Nb.limbs b)
    have HM := Aside0.mk hM
    have HMY := Aside0.mk (u64s_length (Nb.limbs a))
    have hn : (u64s (Nb.limbs b)).length ≤ 4000 := by rw [hM]; exact hb
    have hw : wrap64 (((u64s (Nb.limbs b)).length : Int) + 1) = (((u64s (Nb.limbs b)).length + 1 : Nat) : Int) := w1 (by omega)
    have hmk := make_cap ((u64s (Nb.limbs b)).length + 1) (by omega)
    have hmk2 : ∀ W : World, (Instr.makeSlice 105 (.int .i64 0) (.int .i64 (((u64s (Nb.limbs b)).length : Int) + 1))).run Tryz.prog W = .ok (.slice (some ⟨W.heap.size, 0, none⟩) 0 ((u64s (Nb.limbs b)).length + 1)) (W.alloc (.cells (madeCells #[.int .u64 0] ((u64s (Nb.limbs b)).length + 1)) 124)) := fun W => by
      have := hmk W
      rwa [show (((u64s (Nb.limbs b)).length + 1 : Nat) : Int) = ((u64s (Nb.limbs b)).length : Int) + 1 by omega] at this
    clear hmk
    have HLE : Aside0 ((Nb.limbs a).length ≤ (Nb.limbs b).length) := Aside0.mk (by rw [← hM, ← HMY.out]; omega)
    have HTR : Aside0 (Nb.trim (Nb.addL 0 (Nb.limbs b) (Nb.limbs a)) = Nb.limbs (a + b)) := Aside0.mk (by rw [Nb.add_limbs b a HLE.out , Nat.add_comm])
    have HhD0 := Aside0.mk hD0
    have HhC0 := Aside0.mk hC0
    have HOX := Aside0.mk (Nb.ok_limbs b)
    have HOY := Aside0.mk (Nb.ok_limbs a)
    have HO0 := Aside0.mk (own_cap ((u64s (Nb.limbs b)).length + 1) (by omega) w w.heap.size (Nat.le_refl _))
    clear hM hw ha hb hC0 hD0
    generalize Nb.limbs b = xs at *
    generalize Nb.limbs a = ys at *
    generalize a + b = ab at *
    go_enter Tryz.func111, Tryz.ntmps111
    go_wp2
    go_loopw [5, 6, 22] (fun v5 v6 v22 wr => ∃ (i cr : Nat) (done : List Nat), v22 = .int .i64 (i : Int) ∧ v6 = .int .u64 (cr : Int) ∧ cr ≤ 1 ∧ i ≤ (u64s xs).length ∧ Aside0 (done.length = i) ∧ Aside0 (done ++ Nb.addL cr (xs.drop i) (ys.drop i) = Nb.addL 0 xs ys) ∧ Aside0 ((Kd.int .u64).R 124 wr w.heap.size (fun k => w.heap.size ≤ k) v5 (u64s done)) ∧ Aside0 (Below w.heap.size w wr)) (fun _ _ v22 _ => (u64s xs).length - (RowKit.intOf v22).toNat)
    case atStart => exact ⟨0, 0, [], rfl, rfl, by omega, by omega, ⟨rfl⟩, ⟨rfl⟩, HO0, ⟨below_alloc (Below.refl _ _) _⟩⟩
    case round =>
      obtain ⟨i, cr, done, rfl, rfl, hcr, hi, hdl, hch, hR, hbw⟩ := hrel
      clear HO0
      obtain ⟨A3, c3, rfl⟩ := Kd.R_slice hR.out
      by_cases hlt : i < (u64s xs).length
      · have hix : i < xs.length := by rw [← HM.out]; exact hlt
        obtain ⟨ad, hA', hcell⟩ := Kd.at_int (Kd.C_below HhD0.out hbw.out) (i : Int) (by omega) (by omega)
        rw [rd_u64s, Int.toNat_natCast, List.getD_eq_getElem?_getD] at hcell
        subst hA'
        have hst := Aside0.mk (add_step hix hch.out)
        have hx9 : xs[i]?.getD 0 < 1000000000 := by rw [List.getElem?_eq_getElem hix]; exact HOX.out _ (List.getElem_mem hix)
        have hdlen : (u64s done).length = i := by rw [u64s_length]; exact hdl.out
        by_cases hiy : i < (u64s ys).length
        · have hiy' : i < ys.length := by rw [← HMY.out]; exact hiy
          obtain ⟨bd, hB', hcelly⟩ := Kd.at_int (Kd.C_below HhC0.out hbw.out) (i : Int) (by omega) (by omega)
          rw [rd_u64s, Int.toNat_natCast, List.getD_eq_getElem?_getD] at hcelly
          subst hB'
          have hy9 : ys[i]?.getD 0 < 1000000000 := by rw [List.getElem?_eq_getElem hiy']; exact HOY.out _ (List.getElem_mem hiy')
          clear hix hiy' hdlen
          generalize xs[i]?.getD 0 = x at hcell hst hx9
          generalize ys[i]?.getD 0 = y at hcelly hst hy9
          have HR2 := Aside0.mk (Kd.R_alloc hR.out (.cells #[.int .u64 (((x : Int) + (cr : Int) + (y : Int)) % 1000000000)] 124))
          have HB2 := Aside0.mk (below_alloc hbw.out (.cells #[.int .u64 (((x : Int) + (cr : Int) + (y : Int)) % 1000000000)] 124))
          have HCZ := Aside0.mk (row_oneI wr (((x : Int) + (cr : Int) + (y : Int)) % 1000000000))
          go_wp2_with (first | (at_builtin; refine Kd.R_append_row (Value.int .u64) (0 : Int) w.heap.size rfl (.tmp 40) (.tmp 43) 105 124 (.int .u64 0) 8 rfl Tryz.underlying105 A.info124 rfl (by decide) _ (u64s done) [((x : Int) + (cr : Int) + (y : Int)) % 1000000000] _ _ _ (fun k => w.heap.size ≤ k) rfl rfl (fun k hk => Nat.le_trans (below_size HB2.out) hk) HR2.out HCZ.out HB2.out (below_size HB2.out) (by rw [u64s_length]; have := hdl.out; omega) ?_; intro v1 w3 ho hb hg hat; have HO3 := Aside0.mk ho; have HB3 := Aside0.mk hb; clear ho hb hg hat HR2 HCZ HB2))
          go_roundw
          case rel => exact ⟨i + 1, (x + cr + y) / 1000000000, done ++ [(x + cr + y) % 1000000000], congrArg (Value.int .i64) (by omega), congrArg (Value.int .u64) (by omega), by omega, by omega, ⟨by rw [List.length_append, List.length_singleton, hdl.out]⟩, hst, ⟨by rw [u64s_append, show u64s [(x + cr + y) % 1000000000] = [((x : Int) + (cr : Int) + (y : Int)) % 1000000000] by show [(((x + cr + y) % 1000000000 : Nat) : Int)] = _; (congr 1) <;> omega]; exact HO3.out⟩, HB3⟩
          case measure => simp [RowKit.intOf]; omega
        · have hy0 : ys[i]?.getD 0 = 0 := by rw [List.getElem?_eq_none (by have := HMY.out; omega)]; rfl
          rw [hy0] at hst
          have hiyd : decide ((i : Int) < ((u64s ys).length : Int)) = false := decide_eq_false (by omega)
          clear hix hdlen hy0
          generalize xs[i]?.getD 0 = x at hcell hst hx9
          have HR2 := Aside0.mk (Kd.R_alloc hR.out (.cells #[.int .u64 (((x : Int) + (cr : Int)) % 1000000000)] 124))
          have HB2 := Aside0.mk (below_alloc hbw.out (.cells #[.int .u64 (((x : Int) + (cr : Int)) % 1000000000)] 124))
          have HCZ := Aside0.mk (row_oneI wr (((x : Int) + (cr : Int)) % 1000000000))
          go_wp2_with (first | (at_builtin; refine Kd.R_append_row (Value.int .u64) (0 : Int) w.heap.size rfl (.tmp 40) (.tmp 43) 105 124 (.int .u64 0) 8 rfl Tryz.underlying105 A.info124 rfl (by decide) _ (u64s done) [((x : Int) + (cr : Int)) % 1000000000] _ _ _ (fun k => w.heap.size ≤ k) rfl rfl (fun k hk => Nat.le_trans (below_size HB2.out) hk) HR2.out HCZ.out HB2.out (below_size HB2.out) (by rw [u64s_length]; have := hdl.out; omega) ?_; intro v1 w3 ho hb hg hat; have HO3 := Aside0.mk ho; have HB3 := Aside0.mk hb; clear ho hb hg hat HR2 HCZ HB2))
          go_roundw
          case rel => exact ⟨i + 1, (x + cr + 0) / 1000000000, done ++ [(x + cr + 0) % 1000000000], congrArg (Value.int .i64) (by omega), congrArg (Value.int .u64) (by omega), by omega, by omega, ⟨by rw [List.length_append, List.length_singleton, hdl.out]⟩, hst, ⟨by rw [u64s_append, show u64s [(x + cr + 0) % 1000000000] = [((x : Int) + (cr : Int)) % 1000000000] by show [(((x + cr + 0) % 1000000000 : Nat) : Int)] = _; (congr 1) <;> omega]; exact HO3.out⟩, HB3⟩
          case measure => simp [RowKit.intOf]; omega
      · have hin : i = xs.length := by have := HM.out; omega
        have hch2 : Aside0 (done ++ [cr] = Nb.addL 0 xs ys) := Aside0.mk (by rw [← hch.out, List.drop_eq_nil_of_le (by omega)]; rfl)
        have HLN : Aside0 ((done ++ [cr]).length ≤ 100000) := Aside0.mk (by rw [List.length_append, List.length_singleton, hdl.out]; have := HM.out; omega)
        have HR2 := Aside0.mk (Kd.R_alloc hR.out (.cells #[.int .u64 ((cr : Int))] 124))
        have HB2 := Aside0.mk (below_alloc hbw.out (.cells #[.int .u64 ((cr : Int))] 124))
        have HCZ := Aside0.mk (row_oneI wr ((cr : Int)))
        go_wp2_with (first | (at_builtin; refine Kd.R_append_row (Value.int .u64) (0 : Int) w.heap.size rfl (.tmp 48) (.tmp 50) 105 124 (.int .u64 0) 8 rfl Tryz.underlying105 A.info124 rfl (by decide) _ (u64s done) [(cr : Int)] _ _ _ (fun k => w.heap.size ≤ k) rfl rfl (fun k hk => Nat.le_trans (below_size HB2.out) hk) HR2.out HCZ.out HB2.out (below_size HB2.out) (by rw [u64s_length]; have := hdl.out; omega) ?_; intro v1 w3 ho hb hg hat; have HO3 := Aside0.mk ho; have HB3 := Aside0.mk hb; clear ho hb hg hat HR2 HCZ HB2) | (go_at_call 134; refine (trimB (done ++ [cr]) HLN.out _ _ w.heap.size (below_size HB3.out) (RowB.of_V (Kd.R_V (base' := 0) (show (Kd.int .u64).R 124 _ w.heap.size (fun k => w.heap.size ≤ k) _ (u64s (done ++ [cr])) by rw [u64s_append]; exact HO3.out)) (fun k hk => hk))).mono ?_; rintro e0 w4 ⟨v', rfl, hv, hb4⟩; rw [hch2.out, HTR.out] at hv; have HV := Aside0.mk hv; have HB4 := Aside0.mk (below_step HB3.out hb4); clear hv hb4))
        go_ret
        exact ⟨_, rfl, HV.out, HB4.out⟩
  · have hdl : decide (((u64s (Nb.limbs a)).length : Int) < ((u64s (Nb.limbs b)).length : Int)) = false := decide_eq_false (by omega)
    have hM := u64s_length (Nb.limbs a)
    have HM := Aside0.mk hM
    have HMY := Aside0.mk (u64s_length (Nb.limbs b))
    have hn : (u64s (Nb.limbs a)).length ≤ 4000 := by rw [hM]; exact ha
    have hw : wrap64 (((u64s (Nb.limbs a)).length : Int) + 1) = (((u64s (Nb.limbs a)).length + 1 : Nat) : Int) := w1 (by omega)
    have hmk := make_cap ((u64s (Nb.limbs a)).length + 1) (by omega)
    have hmk2 : ∀ W : World, (Instr.makeSlice 105 (.int .i64 0) (.int .i64 (((u64s (Nb.limbs a)).length : Int) + 1))).run Tryz.prog W = .ok (.slice (some ⟨W.heap.size, 0, none⟩) 0 ((u64s (Nb.limbs a)).length + 1)) (W.alloc (.cells (madeCells #[.int .u64 0] ((u64s (Nb.limbs a)).length + 1)) 124)) := fun W => by
      have := hmk W
      rwa [show (((u64s (Nb.limbs a)).length + 1 : Nat) : Int) = ((u64s (Nb.limbs a)).length : Int) + 1 by omega] at this
    clear hmk
    have HLE : Aside0 ((Nb.limbs b).length ≤ (Nb.limbs a).length) := Aside0.mk (by rw [← hM, ← HMY.out]; omega)
    have HTR : Aside0 (Nb.trim (Nb.addL 0 (Nb.limbs a) (Nb.limbs b)) = Nb.limbs (a + b)) := Aside0.mk (by rw [Nb.add_limbs a b HLE.out ])
    have HhC0 := Aside0.mk hC0
    have HhD0 := Aside0.mk hD0
    have HOX := Aside0.mk (Nb.ok_limbs a)
    have HOY := Aside0.mk (Nb.ok_limbs b)
    have HO0 := Aside0.mk (own_cap ((u64s (Nb.limbs a)).length + 1) (by omega) w w.heap.size (Nat.le_refl _))
    clear hM hw ha hb hC0 hD0
    generalize Nb.limbs a = xs at *
    generalize Nb.limbs b = ys at *
    generalize a + b = ab at *
    go_enter Tryz.func111, Tryz.ntmps111
    go_wp2
    go_loopw [5, 6, 22] (fun v5 v6 v22 wr => ∃ (i cr : Nat) (done : List Nat), v22 = .int .i64 (i : Int) ∧ v6 = .int .u64 (cr : Int) ∧ cr ≤ 1 ∧ i ≤ (u64s xs).length ∧ Aside0 (done.length = i) ∧ Aside0 (done ++ Nb.addL cr (xs.drop i) (ys.drop i) = Nb.addL 0 xs ys) ∧ Aside0 ((Kd.int .u64).R 124 wr w.heap.size (fun k => w.heap.size ≤ k) v5 (u64s done)) ∧ Aside0 (Below w.heap.size w wr)) (fun _ _ v22 _ => (u64s xs).length - (RowKit.intOf v22).toNat)
    case atStart => exact ⟨0, 0, [], rfl, rfl, by omega, by omega, ⟨rfl⟩, ⟨rfl⟩, HO0, ⟨below_alloc (Below.refl _ _) _⟩⟩
    case round =>
      obtain ⟨i, cr, done, rfl, rfl, hcr, hi, hdl, hch, hR, hbw⟩ := hrel
      clear HO0
      obtain ⟨A3, c3, rfl⟩ := Kd.R_slice hR.out
      by_cases hlt : i < (u64s xs).length
      · have hix : i < xs.length := by rw [← HM.out]; exact hlt
        obtain ⟨ad, hA', hcell⟩ := Kd.at_int (Kd.C_below HhC0.out hbw.out) (i : Int) (by omega) (by omega)
        rw [rd_u64s, Int.toNat_natCast, List.getD_eq_getElem?_getD] at hcell
        subst hA'
        have hst := Aside0.mk (add_step hix hch.out)
        have hx9 : xs[i]?.getD 0 < 1000000000 := by rw [List.getElem?_eq_getElem hix]; exact HOX.out _ (List.getElem_mem hix)
        have hdlen : (u64s done).length = i := by rw [u64s_length]; exact hdl.out
        by_cases hiy : i < (u64s ys).length
        · have hiy' : i < ys.length := by rw [← HMY.out]; exact hiy
          obtain ⟨bd, hB', hcelly⟩ := Kd.at_int (Kd.C_below HhD0.out hbw.out) (i : Int) (by omega) (by omega)
          rw [rd_u64s, Int.toNat_natCast, List.getD_eq_getElem?_getD] at hcelly
          subst hB'
          have hy9 : ys[i]?.getD 0 < 1000000000 := by rw [List.getElem?_eq_getElem hiy']; exact HOY.out _ (List.getElem_mem hiy')
          clear hix hiy' hdlen
          generalize xs[i]?.getD 0 = x at hcell hst hx9
          generalize ys[i]?.getD 0 = y at hcelly hst hy9
          have HR2 := Aside0.mk (Kd.R_alloc hR.out (.cells #[.int .u64 (((x : Int) + (cr : Int) + (y : Int)) % 1000000000)] 124))
          have HB2 := Aside0.mk (below_alloc hbw.out (.cells #[.int .u64 (((x : Int) + (cr : Int) + (y : Int)) % 1000000000)] 124))
          have HCZ := Aside0.mk (row_oneI wr (((x : Int) + (cr : Int) + (y : Int)) % 1000000000))
          go_wp2_with (first | (at_builtin; refine Kd.R_append_row (Value.int .u64) (0 : Int) w.heap.size rfl (.tmp 40) (.tmp 43) 105 124 (.int .u64 0) 8 rfl Tryz.underlying105 A.info124 rfl (by decide) _ (u64s done) [((x : Int) + (cr : Int) + (y : Int)) % 1000000000] _ _ _ (fun k => w.heap.size ≤ k) rfl rfl (fun k hk => Nat.le_trans (below_size HB2.out) hk) HR2.out HCZ.out HB2.out (below_size HB2.out) (by rw [u64s_length]; have := hdl.out; omega) ?_; intro v1 w3 ho hb hg hat; have HO3 := Aside0.mk ho; have HB3 := Aside0.mk hb; clear ho hb hg hat HR2 HCZ HB2))
          go_roundw
          case rel => exact ⟨i + 1, (x + cr + y) / 1000000000, done ++ [(x + cr + y) % 1000000000], congrArg (Value.int .i64) (by omega), congrArg (Value.int .u64) (by omega), by omega, by omega, ⟨by rw [List.length_append, List.length_singleton, hdl.out]⟩, hst, ⟨by rw [u64s_append, show u64s [(x + cr + y) % 1000000000] = [((x : Int) + (cr : Int) + (y : Int)) % 1000000000] by show [(((x + cr + y) % 1000000000 : Nat) : Int)] = _; (congr 1) <;> omega]; exact HO3.out⟩, HB3⟩
          case measure => simp [RowKit.intOf]; omega
        · have hy0 : ys[i]?.getD 0 = 0 := by rw [List.getElem?_eq_none (by have := HMY.out; omega)]; rfl
          rw [hy0] at hst
          have hiyd : decide ((i : Int) < ((u64s ys).length : Int)) = false := decide_eq_false (by omega)
          clear hix hdlen hy0
          generalize xs[i]?.getD 0 = x at hcell hst hx9
          have HR2 := Aside0.mk (Kd.R_alloc hR.out (.cells #[.int .u64 (((x : Int) + (cr : Int)) % 1000000000)] 124))
          have HB2 := Aside0.mk (below_alloc hbw.out (.cells #[.int .u64 (((x : Int) + (cr : Int)) % 1000000000)] 124))
          have HCZ := Aside0.mk (row_oneI wr (((x : Int) + (cr : Int)) % 1000000000))
          go_wp2_with (first | (at_builtin; refine Kd.R_append_row (Value.int .u64) (0 : Int) w.heap.size rfl (.tmp 40) (.tmp 43) 105 124 (.int .u64 0) 8 rfl Tryz.underlying105 A.info124 rfl (by decide) _ (u64s done) [((x : Int) + (cr : Int)) % 1000000000] _ _ _ (fun k => w.heap.size ≤ k) rfl rfl (fun k hk => Nat.le_trans (below_size HB2.out) hk) HR2.out HCZ.out HB2.out (below_size HB2.out) (by rw [u64s_length]; have := hdl.out; omega) ?_; intro v1 w3 ho hb hg hat; have HO3 := Aside0.mk ho; have HB3 := Aside0.mk hb; clear ho hb hg hat HR2 HCZ HB2))
          go_roundw
          case rel => exact ⟨i + 1, (x + cr + 0) / 1000000000, done ++ [(x + cr + 0) % 1000000000], congrArg (Value.int .i64) (by omega), congrArg (Value.int .u64) (by omega), by omega, by omega, ⟨by rw [List.length_append, List.length_singleton, hdl.out]⟩, hst, ⟨by rw [u64s_append, show u64s [(x + cr + 0) % 1000000000] = [((x : Int) + (cr : Int)) % 1000000000] by show [(((x + cr + 0) % 1000000000 : Nat) : Int)] = _; (congr 1) <;> omega]; exact HO3.out⟩, HB3⟩
          case measure => simp [RowKit.intOf]; omega
      · have hin : i = xs.length := by have := HM.out; omega
        have hch2 : Aside0 (done ++ [cr] = Nb.addL 0 xs ys) := Aside0.mk (by rw [← hch.out, List.drop_eq_nil_of_le (by omega)]; rfl)
        have HLN : Aside0 ((done ++ [cr]).length ≤ 100000) := Aside0.mk (by rw [List.length_append, List.length_singleton, hdl.out]; have := HM.out; omega)
        have HR2 := Aside0.mk (Kd.R_alloc hR.out (.cells #[.int .u64 ((cr : Int))] 124))
        have HB2 := Aside0.mk (below_alloc hbw.out (.cells #[.int .u64 ((cr : Int))] 124))
        have HCZ := Aside0.mk (row_oneI wr ((cr : Int)))
        go_wp2_with (first | (at_builtin; refine Kd.R_append_row (Value.int .u64) (0 : Int) w.heap.size rfl (.tmp 48) (.tmp 50) 105 124 (.int .u64 0) 8 rfl Tryz.underlying105 A.info124 rfl (by decide) _ (u64s done) [(cr : Int)] _ _ _ (fun k => w.heap.size ≤ k) rfl rfl (fun k hk => Nat.le_trans (below_size HB2.out) hk) HR2.out HCZ.out HB2.out (below_size HB2.out) (by rw [u64s_length]; have := hdl.out; omega) ?_; intro v1 w3 ho hb hg hat; have HO3 := Aside0.mk ho; have HB3 := Aside0.mk hb; clear ho hb hg hat HR2 HCZ HB2) | (go_at_call 134; refine (trimB (done ++ [cr]) HLN.out _ _ w.heap.size (below_size HB3.out) (RowB.of_V (Kd.R_V (base' := 0) (show (Kd.int .u64).R 124 _ w.heap.size (fun k => w.heap.size ≤ k) _ (u64s (done ++ [cr])) by rw [u64s_append]; exact HO3.out)) (fun k hk => hk))).mono ?_; rintro e0 w4 ⟨v', rfl, hv, hb4⟩; rw [hch2.out, HTR.out] at hv; have HV := Aside0.mk hv; have HB4 := Aside0.mk (below_step HB3.out hb4); clear hv hb4))
        go_ret
        exact ⟨_, rfl, HV.out, HB4.out⟩
end Go.Proofs.YtfaibifilpfikaaGreatDoor.N8

set_option linter.unusedVariables false
set_option linter.unusedSimpArgs false
namespace Go.Proofs.YtfaibifilpfikaaGreatDoor.N9
open Go.RowKit Go.Shelf Go.Sort Go.Lib Go.Proofs.YtfaibifilpfikaaGreatDoorW.PrintWords

/-- The world holds Go's table of powers of ten. -/
def Pow (w : World) : Prop := Lib.TabIs Tryz.prog w "internal/strconv.uint64pow10" .u64 Lib.pow10Tab
theorem Pow.below {w w' : World} (h : Pow w) (hb : Below w.heap.size w w') : Pow w' := Lib.tabBelow_of_tabIs h w' hb
theorem holds0 (w : World) (nd : Nat) (hs : nd ≤ 24) : Holds (fun (b : UInt8) => Value.int .u8 (b.toNat : Int)) (w.alloc (.cells Lib.zeros24 161)) w.heap.size 0 (Array.replicate nd (0 : UInt8)) := fun j hj => by
  have hj' : j < nd := by simpa using hj
  rw [Nat.zero_add]
  refine ⟨?_, World.frozen?_alloc_new _ _ _ _⟩
  rw [World.cell?_alloc_new, Lib.zeros24_at _ (by omega), getElem!_pos _ j hj]
  simp
set_option maxHeartbeats 4000000 in
set_option maxRecDepth 100000 in
theorem fmt_any (u : Nat) (hu64 : u < 18446744073709551616) (w : World) (htab : Pow w) :
    Calls Tryz.prog 175 #[.int .u64 (u : Int), .int .i64 10] w fun e w' => e = .returned (.string ⟨(Lib.decDigits u).toArray⟩) ∧ Below w.heap.size w w' := by
  by_cases hs : u < 100
  · go_enter Tryz.func175, Tryz.ntmps175
    go_wp2_with (go_at_call 167; refine (Tryz.internal_strconv_small u hs _).mono ?_; rintro e w' ⟨rfl, rfl⟩)
    go_ret
    exact ⟨rfl, Below.refl _ _⟩
  · have hu1 : 1 ≤ u := by omega
    have hnd20 : Lib.nDigits u ≤ 20 := by have := Lib.numDigits_eq u hu1 hu64; split at this <;> omega
    have hal : Tryz.prog.arrayLen 161 = 24 := by kernel_rfl
    have hsl : ∀ W, (Instr.sliceAt 161 (.pointer (some ⟨w.heap.size, 0, none⟩)) none (some (.int .i64 (Lib.nDigits u : Int))) none).run Tryz.prog W = .ok (.slice (some ⟨w.heap.size, 0, none⟩) (Lib.nDigits u) 24) W := fun W => by
      rw [run_sliceAt_array_h W 161 ⟨w.heap.size, 0, none⟩ (by kernel_rfl) .i64 (Lib.nDigits u : Int) (by omega) (by rw [hal]; omega)]
      go_simp
    have hH0 := holds0 w (Lib.nDigits u) (by omega)
    have hfmt := Tryz.internal_strconv_formatBase10 w.heap.size 0 24 u (Array.replicate (Lib.nDigits u) 0) (w.alloc (.cells Lib.zeros24 161)) hH0 (by rw [Array.size_replicate]; exact Lib.lt_pow_nDigits u) hu64 (by rw [Array.size_replicate]; omega)
    rw [Array.size_replicate] at hfmt
    have HH0 := Lib.hid hH0
    have HT := Aside0.mk (Pow.below htab (below_alloc (Below.refl _ _) (.cells Lib.zeros24 161)))
    clear hH0 hal htab
    go_enter Tryz.func175, Tryz.ntmps175
    go_wp2_with (go_at_call 168; refine (Tryz.internal_strconv_numDigits u hu1 hu64 _ HT.out).mono ?_; rintro e w' ⟨rfl, rfl⟩)
    go_at_call 169
    refine hfmt.mono ?_
    rintro e w' ⟨rfl, k, v', dk, rfl, hF⟩
    have hcv : (convert 134 9 (.slice (some ⟨w.heap.size, 0, none⟩) (Lib.nDigits u) 24)).run Tryz.prog ((putRow (fun (b : UInt8) => Value.int .u8 (b.toNat : Int)) (w.alloc (.cells Lib.zeros24 161)) w.heap.size 0 dk).drewN k) = .ok (.string ⟨(Lib.decDigits u).toArray⟩) ((putRow (fun (b : UInt8) => Value.int .u8 (b.toNat : Int)) (w.alloc (.cells Lib.zeros24 161)) w.heap.size 0 dk).drewN k) := by
      have h := run_convert_bytes_back (P := Tryz.prog) ((putRow (fun (b : UInt8) => Value.int .u8 (b.toNat : Int)) (w.alloc (.cells Lib.zeros24 161)) w.heap.size 0 dk).drewN k) 134 9 5 ⟨w.heap.size, 0, none⟩ 24 (Lib.decDigits u) (by kernel_rfl) (by kernel_rfl) (by kernel_rfl) (fun j hj => by
        rw [Lib.row_is_numeral hF j hj, Lib.add_plain, World.cell?_drewN]
        exact cell?_putRow (fun (b : UInt8) => Value.int .u8 (b.toNat : Int)) _ w.heap.size 0 _ dk HH0.out (by rw [hF.size, Array.size_replicate]) j (by rw [hF.size]; rw [Lib.decDigits_length] at hj; exact hj))
      rw [Lib.decDigits_length] at h
      exact h
    have HB := Aside0.mk (show Below w.heap.size w ((putRow (fun (b : UInt8) => Value.int .u8 (b.toNat : Int)) (w.alloc (.cells Lib.zeros24 161)) w.heap.size 0 dk).drewN k) by
      rw [alloc_eq_grow]
      obtain ⟨os', _, e⟩ := putRow_grow_new (fun (b : UInt8) => Value.int .u8 (b.toNat : Int)) w #[.cells Lib.zeros24 161] w.heap.size 0 dk (Nat.le_refl _)
      rw [e]
      exact Lib.below_grow _ w (Nat.le_refl _) k os')
    go_wp2
    go_ret
    exact ⟨rfl, HB.out⟩
set_option maxRecDepth 100000 in
theorem fmt_call (u : Nat) (hu64 : u < 18446744073709551616) (w : World) (htab : Pow w) :
    Calls Tryz.prog 141 #[.int .u64 (u : Int), .int .i64 10] w fun e w' => e = .returned (.string ⟨(Lib.decDigits u).toArray⟩) ∧ Below w.heap.size w w' := by
  go_enter Tryz.func141, Tryz.ntmps141
  go_wp2_with (go_at_call 175; refine (fmt_any u hu64 _ htab).mono ?_; rintro e w' ⟨rfl, hb⟩)
  go_ret
  exact ⟨rfl, hb⟩
end Go.Proofs.YtfaibifilpfikaaGreatDoor.N9

namespace Go.Proofs.YtfaibifilpfikaaGreatDoor.N10
open Go.RowKit Go.Shelf Go.Proofs.YtfaibifilpfikaaGreatDoorW.PrintWords Go.Proofs.YtfaibifilpfikaaGreatDoorW.PrintLast Go.Proofs.YtfaibifilpfikaaGreatDoorW.PrintMore Go.Proofs.YtfaibifilpfikaaGreatDoor.A Go.Proofs.YtfaibifilpfikaaGreatDoor.N1 Go.Proofs.YtfaibifilpfikaaGreatDoor.Bw Go.Proofs.YtfaibifilpfikaaGreatDoor.N3 Go.Proofs.YtfaibifilpfikaaGreatDoor.N4 Go.Proofs.YtfaibifilpfikaaGreatDoor.Rb Go.Proofs.YtfaibifilpfikaaGreatDoor.N5 Go.Proofs.YtfaibifilpfikaaGreatDoor.N6 Go.Proofs.YtfaibifilpfikaaGreatDoor.N7 Go.Proofs.YtfaibifilpfikaaGreatDoor.N9
attribute [local go_sem] Oper.semAt_some
set_option linter.unusedVariables false
set_option linter.unusedSimpArgs false

theorem below_grown {n : Nat} {w w' : World} (h : Below n w w') (hn : w.heap.size ≤ n) : w.grownBy w' none := ⟨h.os, h.tape, h.output, h.size, fun k hk _ => h.block k (by omega)⟩
theorem bld_below {B b : Nat} {p : Value} {bs : List Value} {w w' : World} (h : Lib.BuilderAtF 136 5 B b p bs w) (hb : Below w.heap.size w w') : Lib.BuilderAtF 136 5 B b p bs w' := by
  obtain ⟨h1, v, h2, h3, h4⟩ := h
  refine ⟨h1, v, (hb.block b (Array.getElem?_eq_some_iff.1 h2).1).trans h2, h3.kept (below_grown hb (Nat.le_refl _)) ?_, h4⟩
  by_cases e : v.ownBlock = none
  · exact .inl e
  · exact .inr e
theorem bld_put {B b : Nat} {p : Value} {bs : List Value} {w : World} (h : Lib.BuilderAtF 136 5 B b p bs w) {l : Nat} {o₀ : Obj} (o : Obj) (hl : w.heap[l]? = some o₀) (hc : o₀.isCells = false) : Lib.BuilderAtF 136 5 B b p bs (w.putObj l o) := by
  obtain ⟨h1, v, h2, h3, h4⟩ := h
  have hbl : b ≠ l := fun e => by subst e; rw [h2] at hl; cases hl; simp [Obj.isCells] at hc
  refine ⟨h1, v, (World.putObj_heap_other hbl).trans h2, h3.kept (grownBy_putObj' w l o) (.inr ?_), h4⟩
  rcases h3.2 with ⟨rfl, _⟩ | ⟨g, cap, cur, fz, rfl, _, hg, _⟩
  · simp [Value.ownBlock]
  · intro e
    simp only [Value.ownBlock, Option.some.injEq] at e
    subst e
    rw [hg] at hl; cases hl; simp [Obj.isCells] at hc
theorem isb_below {B b : Nat} {bs : List Value} {w w' : World} (h : Lib.IsBuilderF 136 5 B b bs w) (hb : Below w.heap.size w w') : Lib.IsBuilderF 136 5 B b bs w' := h.elim (fun x => .inl (bld_below x hb)) (fun x => .inr (bld_below x hb))
theorem isb_put {B b : Nat} {bs : List Value} {w : World} (h : Lib.IsBuilderF 136 5 B b bs w) {l : Nat} {o₀ : Obj} (o : Obj) (hl : w.heap[l]? = some o₀) (hc : o₀.isCells = false) : Lib.IsBuilderF 136 5 B b bs (w.putObj l o) := h.elim (fun x => .inl (bld_put x o hl hc)) (fun x => .inr (bld_put x o hl hc))
theorem isb_lt {B b : Nat} {bs : List Value} {w : World} (h : Lib.IsBuilderF 136 5 B b bs w) : b < w.heap.size := h.elim (fun x => x.lt) (fun x => x.lt)
theorem keeps_oth {b : Nat} {w w' : World} (h : Lib.OthersKept 5 (some b) w w') (hs : w.heap.size ≤ w'.heap.size) (hb : ∃ cs t fz, w.heap[b]? = some (.cells cs t fz)) : KeepsOthers w w' :=
  ⟨hs, fun k o hk ho => h k o hk (fun e => by cases e; obtain ⟨cs, t, fz, h⟩ := hb; rw [h] at hk; cases hk; simp [Obj.isCells] at ho) (fun c fz e => by subst e; simp [Obj.isCells] at ho)⟩
theorem isb_cells {B b : Nat} {bs : List Value} {w : World} (h : Lib.IsBuilderF 136 5 B b bs w) : ∃ cs t fz, w.heap[b]? = some (.cells cs t fz) := by
  rcases h with ⟨_, v, h, _⟩ | ⟨_, v, h, _⟩ <;> exact ⟨_, _, _, h⟩
theorem oth_box {b k : Nat} {w w' : World} (h : Lib.OthersKept 5 (some b) w w') {u : Value} (hk : w.heap[k]? = some (.cells #[u] 105 (0, 0))) (hne : k ≠ b) : w'.heap[k]? = some (.cells #[u] 105 (0, 0)) :=
  h k _ hk (by simpa using hne) (fun c fz e => by cases e)

/-- The digits of the limbs from j on. -/
def tx (xs : List Nat) (j : Nat) : List UInt8 := if j < xs.length then Lib.decDigits (Nb.val (xs.drop j)) else []
theorem tx_len (xs : List Nat) (j : Nat) (h : Nb.Ok xs) : (tx xs j).length ≤ 9 * xs.length + 1 := by
  unfold tx
  split
  · rw [Lib.decDigits_length]
    have h1 := Nb.val_lt (Nb.Ok.drop h j)
    have h2 : (1000000000 : Nat) ^ (xs.drop j).length ≤ 10 ^ (9 * xs.length) := by
      rw [show (1000000000 : Nat) = 10 ^ 9 from rfl, ← Nat.pow_mul]
      exact Nat.pow_le_pow_right (by omega) (by rw [List.length_drop]; omega)
    have h3 : Nb.val (xs.drop j) < 10 ^ (9 * xs.length + 1) := by
      rw [Nat.pow_succ]; omega
    exact Nb.nDigits_le h3
  · simp
theorem val_drop_ne {n j : Nat} (h : j < (Nb.limbs n).length) : Nb.val ((Nb.limbs n).drop j) ≠ 0 := by
  intro h0
  have h1 := Nb.pow_le_of_limbs h
  have h2 := Nb.val_append ((Nb.limbs n).take j) ((Nb.limbs n).drop j)
  rw [List.take_append_drop, Nb.val_limbs, h0, Nat.mul_zero, Nat.add_zero] at h2
  have h3 := Nb.val_lt (Nb.Ok.take (Nb.ok_limbs n) j)
  rw [List.length_take, Nat.min_eq_left (by omega)] at h3
  omega
theorem tx_top {n j : Nat} (h : j < (Nb.limbs n).length) (hj : ¬ j + 1 < (Nb.limbs n).length) : tx (Nb.limbs n) j = tx (Nb.limbs n) (j + 1) ++ Lib.decDigits ((Nb.limbs n)[j]?.getD 0) := by
  unfold tx
  rw [if_pos h, if_neg hj, List.nil_append, List.drop_eq_getElem_cons h, List.drop_eq_nil_of_le (by omega), List.getElem?_eq_getElem h]
  rfl
theorem tx_step {n j : Nat} (h : j < (Nb.limbs n).length) (hj : j + 1 < (Nb.limbs n).length) : tx (Nb.limbs n) j = (tx (Nb.limbs n) (j + 1) ++ List.replicate (9 - (Lib.decDigits ((Nb.limbs n)[j]?.getD 0)).length) 48) ++ Lib.decDigits ((Nb.limbs n)[j]?.getD 0) := by
  unfold tx
  rw [if_pos h, if_pos hj, List.append_assoc, List.drop_eq_getElem_cons h, List.getElem?_eq_getElem h]
  exact Nb.dec_pad (Nb.ok_limbs n _ (List.getElem_mem h)) (val_drop_ne hj)
theorem repeat_eq (c : Nat) : Lib.repeatL [48] c = List.replicate c 48 := by
  induction c with
  | zero => rfl
  | succ c ih => rw [Lib.repeatL, ih]; rfl
theorem rep9 (p : ByteArray) (h : p.size ≤ 9) (w : World) : Calls Tryz.prog 143 #[.string ⟨#[48]⟩, .int .i64 (9 - (p.size : Int))] w fun e w' => ∃ z : ByteArray, z.data.toList = List.replicate (9 - p.size) (48 : UInt8) ∧ e = .returned (.string z) ∧ Below w.heap.size w w' := by
  have := Tryz.strings_Repeat ⟨#[48]⟩ (9 - p.size) w (by omega) (by show 1 * _ ≤ _; omega)
  rw [show ((9 - p.size : Nat) : Int) = 9 - (p.size : Int) by omega, show (⟨#[48]⟩ : ByteArray).data.toList = [48] from rfl, repeat_eq] at this
  exact this.mono fun e w' h => ⟨_, rfl, h.1, h.2⟩
theorem wr_call {B b : Nat} {l : List UInt8} {w : World} (s : ByteArray) (h : Lib.IsBuilderF 136 5 B b (Lib.byteCells l) w) (hl : l.length ≤ 1000000) (hs : s.size ≤ 1000000) (hB : B ≤ w.heap.size) :
    Calls Tryz.prog 142 #[.pointer (some ⟨b, 0, none⟩), .string s] w fun e w' => e = .returned (.tuple #[.int .i64 s.size, .nilIface]) ∧ Lib.IsBuilderF 136 5 B b (Lib.byteCells (l ++ s.data.toList)) w' ∧ Below B w w' ∧ Lib.OthersKept 5 (some b) w w' := by
  refine (Tryz.Builder_WriteString_k B b (Lib.byteCells l) s w h (by rw [Lib.byteCells_length]; omega) hB).mono ?_
  rintro e w' ⟨rfl, h1, h2, h3⟩
  refine ⟨rfl, .inr ?_, h2, h3⟩
  rw [Lib.byteCells_append, ← Lib.strCells_eq]
  exact h1
theorem size_rep (k : Nat) : (⟨(List.replicate (9 - k) (48 : UInt8)).toArray⟩ : ByteArray).size ≤ 1000000 := by rw [Rq.size_list]; show (List.replicate _ _).length ≤ _; rw [List.length_replicate]; omega
/-- Between two rounds. -/
def Tv (b : Nat) (w : World) (v : Value) (xs : List Nat) (j : Nat) (W : World) : Prop :=
  W.heap[b]? = some (.cells #[v] 105 (0, 0)) ∧ Lib.IsBuilderF 136 5 b (b + 1) (Lib.byteCells (tx xs j)) W ∧ Below b w W
/-- What text answers. -/
def txS (n : Nat) : ByteArray := if (Lib.decDigits n).length ≤ 300 then Rq.dec n else ⟨#[]⟩
def txE (n : Nat) : Int := if (Lib.decDigits n).length ≤ 300 then 0 else 2
set_option maxRecDepth 100000 in
set_option maxHeartbeats 2000000 in
theorem text_pos (n : Nat) (h0 : n ≠ 0) (hn : Few n) (w : World) (htab : Pow w) (A : Option Addr) (c : Nat) (hA : Kd.C (Kd.int .u64) w A (u64s (Nb.limbs n)).length (u64s (Nb.limbs n))) :
    Calls Tryz.prog 109 #[.slice A (u64s (Nb.limbs n)).length c] w fun e w' => e = .returned (.tuple #[.string (txS n), .int .i64 (txE n)]) ∧ Below w.heap.size w w' := by
  have hnl : Nb.limbs n ≠ [] := fun h => h0 (Nb.limbs_nil.1 h)
  unfold Few at hn
  have HA := Aside0.mk hA
  have HT := Aside0.mk htab
  have HL := Aside0.mk (u64s_length (Nb.limbs n))
  have HX : Aside0 ((Nb.limbs n).length ≤ 1000000) := Aside0.mk (by omega)
  have hl1 : 1 ≤ (u64s (Nb.limbs n)).length := by
    rw [HL.out]
    exact List.length_pos_iff.2 hnl
  have hl2 : (u64s (Nb.limbs n)).length ≤ 4000 := by rw [HL.out]; exact hn
  clear hA htab hnl
  obtain ⟨xs, hxs⟩ : ∃ xs, xs = Nb.limbs n := ⟨_, rfl⟩
  have HXS := Aside0.mk hxs
  rw [← hxs] at HA HL HX hl1 hl2 hn ⊢
  clear hxs
  have hd0 : decide (((u64s xs).length : Int) = 0) = false := decide_eq_false (by omega)
  refine (callsIn_wide (n := 2)).1 ?_
  refine callsIn_of_wp_marks Tryz.func109 rfl trivial ?_ rfl
  simp only [Tryz.ntmps109, List.size_toArray, List.length_cons, List.length_nil, Nat.reduceAdd, Nat.reduceSub, Array.replicate_succ, Array.replicate_zero, List.push_toArray, List.append_toArray, List.nil_append, List.cons_append]
  gi_wp2_with (first
    | (refine ⟨trivial, ?_⟩; refine callsIn_wide.2 ((back_any _ _ _ _).mono ?_); rintro e w2 ⟨rfl, rfl⟩))
  have k0 : (((w.alloc (.cells #[.slice A (u64s xs).length c] 105)).alloc (.cells #[.pointer none, .slice none 0 0] 136)).alloc (.cells #[.slice A (u64s xs).length c] 105)).heap[w.heap.size]? = some (.cells #[.slice A (u64s xs).length c] 105 (0, 0)) := blk_alloc (blk_alloc (blk_new _ _) _) _
  have k1 : (((w.alloc (.cells #[.slice A (u64s xs).length c] 105)).alloc (.cells #[.pointer none, .slice none 0 0] 136)).alloc (.cells #[.slice A (u64s xs).length c] 105)).heap[w.heap.size + 1]? = some (.cells #[.pointer none, .slice none 0 0] 136 (0, 0)) := blk_alloc (by have := blk_new (w.alloc (.cells #[.slice A (u64s xs).length c] 105)) (.cells #[.pointer none, .slice none 0 0] 136); simpa using this) _
  have k2 : (((w.alloc (.cells #[.slice A (u64s xs).length c] 105)).alloc (.cells #[.pointer none, .slice none 0 0] 136)).alloc (.cells #[.slice A (u64s xs).length c] 105)).heap[w.heap.size + 2]? = some (.cells #[.slice A (u64s xs).length c] 105 (0, 0)) := by have := blk_new ((w.alloc (.cells #[.slice A (u64s xs).length c] 105)).alloc (.cells #[.pointer none, .slice none 0 0] 136)) (.cells #[.slice A (u64s xs).length c] 105); simpa using this
  have hbel : Below w.heap.size w (((w.alloc (.cells #[.slice A (u64s xs).length c] 105)).alloc (.cells #[.pointer none, .slice none 0 0] 136)).alloc (.cells #[.slice A (u64s xs).length c] 105)) := (((Below.refl _ w).alloc (Nat.le_refl _) _).alloc (by simp) _).alloc (by simp; omega) _
  refine wp_back (bs := w.heap.size + 2) (A := A) (c := c) (xs := xs) rfl HX.out rfl ⟨k2, Kd.C_below HA.out hbel⟩
    (Tv w.heap.size w (.slice A (u64s xs).length c) xs) (fun _ _ _ => False) ?hIb ?hIo ?hXo ?h0 ?a1 ?hassign ?hbody ?hdone ?hstop
  case hIb => exact fun i W W' h hb => ⟨blk_below h.1 hb, isb_below h.2.1 hb, h.2.2.trans (hb.mono h.2.2.size)⟩
  case hIo =>
    rintro i W l o h hl ⟨o₀, ho, hc⟩
    exact ⟨(World.putObj_heap_other (by simp at hl; omega)).trans h.1, isb_put h.2.1 o ho hc, below_put o h.2.2 (Nat.le_refl _) (by simp at hl; omega)⟩
  case hXo => exact fun _ _ _ _ _ h => h.elim
  case h0 =>
    refine ⟨k0, .inl ⟨by omega, _, k1, ?_, by simp [Value.ownBlock]⟩, hbel⟩
    rw [show tx xs xs.length = [] by unfold tx; rw [if_neg (Nat.lt_irrefl _)]]
    exact World.ownsRowF_nil _ _ _ _
  case hassign =>
    intro l j W K hK
    gi_wp2
    exact hK
  case hbody =>
    rintro l j W ⟨hK0, hB, hbw⟩ hR hj
    have hx9 : xs[j]?.getD 0 < 1000000000 := by
      rw [List.getElem?_eq_getElem hj]
      have := HXS.out
      subst this
      exact Nb.ok_limbs n _ (List.getElem_mem hj)
    have HO : Aside0 (Nb.Ok xs) := Aside0.mk (by have := HXS.out; subst this; exact Nb.ok_limbs n)
    have HLT := Aside0.mk (tx_len xs (j + 1) HO.out)
    have hp9 : (Rq.dec (xs[j]?.getD 0)).size ≤ 9 := Rq.dec_size_le (k := 8) hx9
    have HK0 := Aside0.mk hK0
    have HB := Aside0.mk hB
    have HBW := Aside0.mk hbw
    have HR := Aside0.mk hR
    have hc0 : W.cell? ⟨w.heap.size, 0, none⟩ = some (.slice A (u64s xs).length c) := (blk_cell hK0 0).trans rfl
    have hjl : j < (u64s xs).length := by rw [HL.out]; exact hj
    by_cases ht : j + 1 < xs.length
    · have HST : Aside0 (tx xs j = (tx xs (j + 1) ++ List.replicate (9 - (Rq.dec (xs[j]?.getD 0)).size) 48) ++ Lib.decDigits (xs[j]?.getD 0)) := Aside0.mk (by
        have := HXS.out
        subst this
        rw [Rq.dec_size, ← Lib.decDigits_length]
        exact tx_step hj ht)
      have hdl : decide ((j : Int) < ((u64s xs).length : Int) - 1) = true := decide_eq_true (by rw [HL.out]; omega)
      have HP : Aside0 ((Rq.dec (xs[j]?.getD 0)).data.toList = Lib.decDigits (xs[j]?.getD 0)) := Aside0.mk rfl
      have HF : Aside0 (Calls Tryz.prog 141 #[.int .u64 ((xs[j]?.getD 0 : Nat) : Int), .int .i64 10] W fun e w' => e = .returned (.string (Rq.dec (xs[j]?.getD 0))) ∧ Below W.heap.size W w') := Aside0.mk (fmt_call _ (by omega) W (HT.out.below hbw))
      have HLT2 : Aside0 ((tx xs (j + 1)).length ≤ 1000000) := Aside0.mk (by have := HLT.out; omega)
      have HLT3 : Aside0 ((tx xs (j + 1) ++ List.replicate (9 - (Rq.dec (xs[j]?.getD 0)).size) (48 : UInt8)).length ≤ 1000000) := Aside0.mk (by rw [List.length_append, List.length_replicate]; have := HLT.out; omega)
      clear hK0 hB hbw hR hx9 hj ht
      generalize xs[j]?.getD 0 = x at *
      generalize Rq.dec x = p at *
      gi_wp2_with (first
        | (refine ⟨trivial, rfl, ?_⟩; refine CallsIn.inRound l (callsIn_wide.2 (HF.out.mono ?_)); rintro e w3 ⟨rfl, hb⟩; have HB3 := Aside0.mk hb; have hc3 : w3.cell? ⟨w.heap.size, 0, none⟩ = some (.slice A (u64s xs).length c) := (blk_cell (blk_below HK0.out hb) 0).trans rfl; clear hb HF)
        | (refine ⟨trivial, rfl, ?_⟩; refine CallsIn.inRound l (callsIn_wide.2 ((rep9 p hp9 _).mono ?_)); rintro e w4 ⟨z, hz, rfl, hb⟩; have HZ := Aside0.mk hz; have HZ9 : Aside0 (z.size ≤ 1000000) := Aside0.mk (by rw [Rq.size_list, hz, List.length_replicate]; omega); clear hz; have HB4 := Aside0.mk (HB3.out.trans (hb.mono HB3.out.size)); clear hb)
        | (refine ⟨trivial, rfl, ?_⟩; refine CallsIn.inRound l (callsIn_wide.2 ((wr_call p HB5.out HLT3.out (by omega) (Nat.le_trans (Nat.le_trans HBW.out.size HB4.out.size) HW5.out.size)).mono ?_)); rintro e w6 ⟨rfl, h1, h2, h3⟩; rw [HP.out, ← HST.out] at h1; have HB6 := Aside0.mk h1; have HW6 := Aside0.mk h2; have HO6 := Aside0.mk h3; clear h1 h2 h3)
        | (refine ⟨trivial, rfl, ?_⟩; refine CallsIn.inRound l (callsIn_wide.2 ((wr_call z (isb_below HB.out HB4.out) HLT2.out HZ9.out (Nat.le_trans HBW.out.size HB4.out.size)).mono ?_)); rintro e w5 ⟨rfl, h1, h2, h3⟩; rw [HZ.out] at h1; have HB5 := Aside0.mk h1; have HW5 := Aside0.mk h2; have HO5 := Aside0.mk h3; clear h1 h2 h3))
      have b1 := below_step HBW.out HB4.out
      have b2 := b1.trans HW5.out
      have b3 := b2.trans HW6.out
      refine ⟨((keeps_below HB4.out).trans (keeps_oth HO5.out HW5.out.size (isb_cells (isb_below HB.out HB4.out)))).trans (keeps_oth HO6.out HW6.out.size (isb_cells HB5.out)), ⟨oth_box HO6.out (oth_box HO5.out (blk_below HK0.out HB4.out) (by omega)) (by omega), HB6.out, b3⟩, oth_box HO6.out (oth_box HO5.out (blk_below HR.out.box HB4.out) (by omega)) (by omega), Kd.C_below HA.out b3⟩
    · have HST : Aside0 (tx xs j = tx xs (j + 1) ++ Lib.decDigits (xs[j]?.getD 0)) := Aside0.mk (by
        have := HXS.out
        subst this
        exact tx_top hj ht)
      have hdl : decide ((j : Int) < ((u64s xs).length : Int) - 1) = false := decide_eq_false (by rw [HL.out]; omega)
      have HP : Aside0 ((Rq.dec (xs[j]?.getD 0)).data.toList = Lib.decDigits (xs[j]?.getD 0)) := Aside0.mk rfl
      have HF : Aside0 (Calls Tryz.prog 141 #[.int .u64 ((xs[j]?.getD 0 : Nat) : Int), .int .i64 10] W fun e w' => e = .returned (.string (Rq.dec (xs[j]?.getD 0))) ∧ Below W.heap.size W w') := Aside0.mk (fmt_call _ (by omega) W (HT.out.below hbw))
      have HLT2 : Aside0 ((tx xs (j + 1)).length ≤ 1000000) := Aside0.mk (by have := HLT.out; omega)
      clear hK0 hB hbw hR hx9 hj ht
      generalize xs[j]?.getD 0 = x at *
      generalize Rq.dec x = p at *
      gi_wp2_with (first
        | (refine ⟨trivial, rfl, ?_⟩; refine CallsIn.inRound l (callsIn_wide.2 (HF.out.mono ?_)); rintro e w3 ⟨rfl, hb⟩; have HB3 := Aside0.mk hb; have hc3 : w3.cell? ⟨w.heap.size, 0, none⟩ = some (.slice A (u64s xs).length c) := (blk_cell (blk_below HK0.out hb) 0).trans rfl; clear hb HF)
        | (refine ⟨trivial, rfl, ?_⟩; refine CallsIn.inRound l (callsIn_wide.2 ((wr_call p (isb_below HB.out HB3.out) HLT2.out (by omega) (Nat.le_trans HBW.out.size HB3.out.size)).mono ?_)); rintro e w6 ⟨rfl, h1, h2, h3⟩; rw [HP.out, ← HST.out] at h1; have HB6 := Aside0.mk h1; have HW6 := Aside0.mk h2; have HO6 := Aside0.mk h3; clear h1 h2 h3))
      have b1 := below_step HBW.out HB3.out
      have b3 := b1.trans HW6.out
      refine ⟨((keeps_below HB3.out).trans (keeps_oth HO6.out HW6.out.size (isb_cells (isb_below HB.out HB3.out)))), ⟨oth_box HO6.out (blk_below HK0.out HB3.out) (by omega), HB6.out, b3⟩, oth_box HO6.out (blk_below HR.out.box HB3.out) (by omega), Kd.C_below HA.out b3⟩
  case hdone =>
    rintro D W hD ⟨hK0, hB, hbw⟩ hK
    have htx : tx xs 0 = Lib.decDigits n := by
      have := HXS.out
      subst this
      unfold tx
      rw [if_pos (by rw [← HL.out]; omega), List.drop_zero, Nb.val_limbs]
    rw [htx] at hB
    have HB := Aside0.mk hB
    have HBW := Aside0.mk hbw
    have HD := Aside0.mk hK
    have HDD : Aside0 (w.heap.size + 3 ≤ D) := Aside0.mk (by simpa using hD)
    have HLen := Aside0.mk (Lib.byteCells_length (Lib.decDigits n))
    clear hK0 hB hbw hK htx hD
    by_cases h3 : (Lib.decDigits n).length ≤ 300
    · have hg : decide (300 < ((Lib.decDigits n).length : Int)) = false := decide_eq_false (by omega)
      have HS : Aside0 (txS n = Rq.dec n ∧ txE n = 0) := Aside0.mk ⟨if_pos h3, if_pos h3⟩
      gi_wp2_with (first
        | (refine ⟨trivial, ?_⟩; refine callsIn_wide.2 ((Tryz.Builder_Len_f w.heap.size (w.heap.size + 1) _ _ HB.out).mono ?_); rintro e w2 ⟨rfl, rfl⟩; rw [HLen.out])
        | (refine ⟨trivial, ?_⟩; refine callsIn_wide.2 ((Tryz.Builder_String_any_k w.heap.size (w.heap.size + 1) _ _ HB.out HBW.out.size).mono ?_); rintro e w3 ⟨rfl, h1, h2, h3⟩; have HB3 := Aside0.mk h1; have HW3 := Aside0.mk h2; have HO3 := Aside0.mk h3; clear h1 h2 h3))
      have HD3 := HO3.out D _ HD.out (by have := HDD.out; simp; omega) (fun _ _ e => by cases e)
      refine ⟨by simp, .inl ⟨_, _, rfl, run_takeDeferred HD3, ?_⟩⟩
      refine ⟨_, results_tmp2 rfl _ _ _, ?_, below_put _ (HBW.out.trans HW3.out) (Nat.le_refl _) (by have := HDD.out; omega)⟩
      rw [HS.out.1, HS.out.2]
      rfl
    · have hg : decide (300 < ((Lib.decDigits n).length : Int)) = true := decide_eq_true (by omega)
      have HS : Aside0 (txS n = ⟨#[]⟩ ∧ txE n = 2) := Aside0.mk ⟨if_neg h3, if_neg h3⟩
      gi_wp2_with (first
        | (refine ⟨trivial, ?_⟩; refine callsIn_wide.2 ((Tryz.Builder_Len_f w.heap.size (w.heap.size + 1) _ _ HB.out).mono ?_); rintro e w2 ⟨rfl, rfl⟩; rw [HLen.out]))
      refine ⟨by simp, .inl ⟨_, _, rfl, run_takeDeferred HD.out, ?_⟩⟩
      refine ⟨_, results_tmp2 rfl _ _ _, ?_, below_put _ HBW.out (Nat.le_refl _) (by have := HDD.out; omega)⟩
      rw [HS.out.1, HS.out.2]
      rfl
  case hstop => exact fun _ _ _ _ _ h => h.elim
set_option maxRecDepth 100000 in
theorem text_zero (w : World) (A : Option Addr) (c : Nat) : Calls Tryz.prog 109 #[.slice A 0 c] w fun e w' => e = .returned (.tuple #[.string (txS 0), .int .i64 (txE 0)]) ∧ Below w.heap.size w w' := by
  have hb := Aside0.mk (below_alloc (Below.refl w.heap.size w) (.cells #[.slice A 0 c] 105))
  refine (callsIn_wide (n := 2)).1 ?_
  refine callsIn_of_wp_marks Tryz.func109 rfl trivial ?_ rfl
  simp only [Tryz.ntmps109, List.size_toArray, List.length_cons, List.length_nil, Nat.reduceAdd, Nat.reduceSub, Array.replicate_succ, Array.replicate_zero, List.push_toArray, List.append_toArray, List.nil_append, List.cons_append]
  have h1 : txS 0 = ⟨#[48]⟩ := by unfold txS Rq.dec; rw [Nb.dec_small (by omega)]; rfl
  have h2 : txE 0 = 0 := by unfold txE; rw [Nb.dec_small (by omega)]; rfl
  rw [h1, h2]
  gi_wp2
  exact ⟨_, results_tmp2 rfl _ _ _, rfl, hb.out⟩
theorem text_any (n : Nat) (hn : Few n) (w : World) (htab : Pow w) (v : Value) (hv : NumAt w v n) :
    Calls Tryz.prog 109 #[v] w fun e w' => e = .returned (.tuple #[.string (txS n), .int .i64 (txE n)]) ∧ Below w.heap.size w w' := by
  obtain ⟨A, c, rfl, hc, hC⟩ := hv
  by_cases h0 : n = 0
  · subst h0
    have : u64s (Nb.limbs 0) = [] := by rw [Nb.limbs_zero]; rfl
    rw [this]
    exact text_zero w A c
  · exact text_pos n h0 hn w htab A c hC
end Go.Proofs.YtfaibifilpfikaaGreatDoor.N10

set_option linter.unusedVariables false
set_option linter.unusedSimpArgs false
namespace Go.Proofs.YtfaibifilpfikaaGreatDoor.X1
open Go.RowKit Go.Lib Go.Proofs.YtfaibifilpfikaaGreatDoorW.PrintWords

def ten : ByteArray := ⟨#[48, 49, 50, 51, 52, 53, 54, 55, 56, 57]⟩
def strings_Trim.f (a0 a1 : ByteArray) : Option ByteArray := if a0.size ≤ 9223372036854775807 ∧ a1 = ten then some ⟨(Lib.trimS a0.data.toList ten.data.toList).toArray⟩ else none
theorem strings_Trim.calls (a0 a1 : ByteArray) (r : ByteArray) (w : World) (h : strings_Trim.f a0 a1 = some r) :
    Calls Tryz.prog 114 #[.string a0, .string a1] w fun e w' => e = .returned (.string r) ∧ Below w.heap.size w w' := by
  unfold strings_Trim.f at h
  split at h
  · rename_i hs
    obtain rfl := Option.some.inj h
    obtain ⟨hs, rfl⟩ := hs
    refine Tryz.strings_Trim a0 ten w hs (by decide) (fun j b hj => ?_)
    have : ∀ b ∈ ten.data.toList, b.toNat < 128 := by decide
    exact this b (List.mem_of_getElem? hj)
  · cases h
end Go.Proofs.YtfaibifilpfikaaGreatDoor.X1
