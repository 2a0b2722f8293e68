/- Package script's Parse, walked; conditions: that the world holds Go's tables. -/
import Derived.Test.YtgimbkfahfnplaaDoorX3
import Derived.Test.YtgimbkfahfnplaaDoorD1
import Derived.Maps.OwnIn
import Derived.LoopNIn
import Derived.WalkMore
namespace Go.Proofs.YtgimbkfahfnplaaDoor.X4
open Go.RowKit Go.Lib Go.Proofs.YtgimbkfahfnplaaDoorW.PrintWords Go.Proofs.YtgimbkfahfnplaaDoorW.PrintLast Go.Proofs.YtgimbkfahfnplaaDoorW.PrintMore Go.Proofs.YtgimbkfahfnplaaDoor.X1 Go.Proofs.YtgimbkfahfnplaaDoor.X2 Go.Proofs.YtgimbkfahfnplaaDoor.X3 Go.Proofs.YtgimbkfahfnplaaDoor.D Go.Proofs.YtgimbkfahfnplaaDoor.Lt Go.Proofs.YtgimbkfahfnplaaDoor.Xc
set_option linter.unusedVariables false
set_option linter.unusedSimpArgs false

/-! ### a scope through which the run goes without a goto, in a fence -/
theorem stepR_scope {P : Program} {b : Frame} {a : Act} {k : List Item} {cs : List Frame} {w : World} {c : Code} : step P (lone (b.atR a (.code (.scope c) :: k)) cs w) = .next (lone (b.atR a (.code c :: .inScope c :: k)) cs w) :=
  step_lone_go (by simp [stepG, stepG.exec, Frame.atR])
theorem stepR_inScope {P : Program} {b : Frame} {a : Act} {k : List Item} {cs : List Frame} {w : World} {c : Code} : step P (lone (b.atR a (.inScope c :: k)) cs w) = .next (lone (b.atR a k) cs w) :=
  step_lone_go (by simp [stepG, stepG.exec, Frame.atR])
theorem wpIn_scope {F : Fence} {n : Nat} {P : Program} {Q : Exit → Act → World → Prop} {a : Act} {w : World} {c : Code} (h : c.wpIn F n P (Exit.noGoto Q) a w) : (Code.scope c).wpIn F n P Q a w := by
  intro b k cs hro hb hr
  have h0 : (lone (b.atR a (.code (.scope c) :: k)) cs w).fenced P F := fenced_calm hb hr rfl
  obtain ⟨e, a₁, w₁, hq, harr⟩ := h b (.inScope c :: k) cs hro hb hr
  cases e with
  | normal => exact ⟨.normal, a₁, w₁, hq, .head h0 stepR_scope (StepsIn.trans harr (.one (fenced_calm hb hr rfl) stepR_inScope))⟩
  | exit id =>
    have hx : exitTo id (.inScope c :: k) = exitTo id k := by simp [exitTo]
    exact ⟨.exit id, a₁, w₁, hq, fun k' hk => .head h0 stepR_scope (harr.1 k' (by rw [hx]; exact hk)),
      fun hr' hk => let ⟨k₁, h1, h2⟩ := harr.2 hr' (by rw [hx]; exact hk); ⟨k₁, h1, .head h0 stepR_scope h2⟩⟩
  | goto l => exact hq.elim
  | ret => exact ⟨_, a₁, w₁, hq, .of_steps (.one h0 stepR_scope) harr⟩
  | panic ch => exact ⟨_, a₁, w₁, hq, .of_steps (.one h0 stepR_scope) harr⟩
  | outgrown => exact ⟨_, a₁, w₁, hq, .of_steps (.one h0 stepR_scope) harr⟩

/-! ### the words of the scripts -/
def known (l : List UInt8) : Int := if l = title 1 then 1 else if l = title 2 then 2 else if l = title 3 then 3 else if l = title 4 then 4 else 0
def D5 : DataW Unit := ((((((DataW.map []).put (.string []) (.lit (.int .i64 0))).put (.string [112, 108, 97, 105, 110]) (.lit (.int .i64 1))).put (.string [99, 97, 115, 101, 100]) (.lit (.int .i64 2))).put (.string [97, 98, 106, 97, 100]) (.lit (.int .i64 3))).put (.string [115, 121, 108, 108, 97, 98]) (.lit (.int .i64 4)))
theorem D5_at (l : List UInt8) (c : Int) (h : D5.atKey (.string l) (.lit (.int .i64 0)) = .lit (.int .i64 c)) : c = known l := by
  have hc : D5.atKey (.string l) (.lit (.int .i64 0)) = .lit (.int .i64 (known l)) := by
    by_cases h1 : l = title 1
    · subst h1; rfl
    by_cases h2 : l = title 2
    · subst h2; rfl
    by_cases h3 : l = title 3
    · subst h3; rfl
    by_cases h4 : l = title 4
    · subst h4; rfl
    by_cases h0 : l = []
    · subst h0; rfl
    have e : known l = 0 := by unfold known; rw [if_neg h1, if_neg h2, if_neg h3, if_neg h4]
    have ne : ∀ k : List UInt8, l ≠ k → Lit.string l ≠ Lit.string k := fun k hk he => hk (Lit.string.inj he)
    rw [e]
    have n4 := ne [115, 121, 108, 108, 97, 98] h4
    have n3 := ne [97, 98, 106, 97, 100] h3
    have n2 := ne [99, 97, 115, 101, 100] h2
    have n1 := ne [112, 108, 97, 105, 110] h1
    unfold D5
    rw [Maps.atKey_put_other n4, Maps.atKey_put_other n3, Maps.atKey_put_other n2, Maps.atKey_put_other n1, Maps.atKey_put_other (ne _ h0)]
    rfl
  rw [hc] at h
  injection h with h
  injection h with h1 h2
  exact h2.symm

/-! ### what Parse answers -/
def parseRes (sc : Int) (r : Scr.Res) : Int × List ByteArray × Int × Int := match r with
  | .ok ws => (sc, ws.map bs, 0, 0)
  | .bad e p => (0, [], e, p)
def parseL (T : List UInt8) : Int × List ByteArray × Int × Int :=
  if Lib.indexByte T 58 < 0 ∨ known (T.take (Lib.indexByte T 58).toNat) = 0 then (0, [], 5, 0)
  else parseRes (known (T.take (Lib.indexByte T 58).toNat)) (Scr.R (known (T.take (Lib.indexByte T 58).toNat)) [] 0 [] ((Lib.indexByte T 58).toNat + 1) (T.drop ((Lib.indexByte T 58).toNat + 1)))
def script_Parse.f (a0 : ByteArray) : Option (Int × List ByteArray × Int × Int) := some (if a0.size > 20000 then (0, [], 2, -1) else parseL a0.data.toList)

theorem results20 (tmps : Array Value) (b : Nat) (W : World) (sc er pos : Int) (v : Value) (f1 : Nat × Nat) (h2 : tmps.getD 2 undef = .pointer (some ⟨b, 0, none⟩)) (h3 : tmps.getD 3 undef = .pointer (some ⟨b + 1, 0, none⟩)) (h4 : tmps.getD 4 undef = .pointer (some ⟨b + 1 + 1, 0, none⟩))
    (g1 : W.heap[b]? = some (.cells #[.int .i64 sc, v] 24 f1)) (g2 : W.heap[b + 1]? = some (.cells #[.int .i64 er] 28 (0, 0))) (g3 : W.heap[b + 1 + 1]? = some (.cells #[.int .i64 pos] 3 (0, 0))) :
    (results Tryd.f20 tmps).run Tryd.prog W = .ok (.tuple #[.agg #[.int .i64 sc, v], .int .i64 er, .int .i64 pos]) W := by
  have e2 : tmps[2]?.getD undef = .pointer (some ⟨b, 0, none⟩) := by simpa using h2
  have e3 : tmps[3]?.getD undef = .pointer (some ⟨b + 1, 0, none⟩) := by simpa using h3
  have e4 : tmps[4]?.getD undef = .pointer (some ⟨b + 1 + 1, 0, none⟩) := by simpa using h4
  have c2 : W.cell? ⟨b + 1, 0, none⟩ = some (.int .i64 er) := (blk_cell g2 0).trans (by simp)
  have c3 : W.cell? ⟨b + 1 + 1, 0, none⟩ = some (.int .i64 pos) := (blk_cell g3 0).trans (by simp)
  have l1 := run_loadVar_row (P := Tryd.prog) W b 24 24 #[.int .i64 sc, v] f1 _ g1 Tryd.underlying24 rfl (by kernel_rfl)
  have hr : Tryd.f20.results = #[.cell 2 24, .cell 3 28, .cell 4 3] := rfl
  have l2 : (loadVar 28 ⟨b + 1, 0, none⟩).run Tryd.prog W = .ok (.int .i64 er) W := by
    go_simp
  have l3 : (loadVar 3 ⟨b + 1 + 1, 0, none⟩).run Tryd.prog W = .ok (.int .i64 pos) W := by
    go_simp
  simp [results, hr, e2, e3, e4, asAddr, l1, l2, l3]

theorem cut_f (a0 : ByteArray) (hs : a0.size ≤ 20000) : ∃ t1 t2 f, strings_Cut.f a0 ⟨#[58]⟩ = some (t1, t2, f) ∧ ((f = true ∧ ∃ j : Nat, Lib.indexByte a0.data.toList 58 = j ∧ j < a0.size ∧ t1 = a0.extract 0 j) ∨ (f = false ∧ Lib.indexByte a0.data.toList 58 < 0)) ∧ t1.size ≤ 20000 := by
  have e : stringslite_Index.f a0 ⟨#[58]⟩ = some (Lib.indexByte a0.data.toList 58) := rfl
  by_cases h : Lib.indexByte a0.data.toList 58 < 0
  · refine ⟨a0, ⟨#[]⟩, false, ?_, .inr ⟨rfl, h⟩, hs⟩
    unfold strings_Cut.f stringslite_Cut.f
    rw [e, Option.bind_some, if_neg (by omega)]
    rfl
  · obtain ⟨j, hj⟩ : ∃ j : Nat, Lib.indexByte a0.data.toList 58 = j := ⟨_, (Int.toNat_of_nonneg (by omega)).symm⟩
    have hlt : j < a0.size := by
      have h1 := (Lib.indexByte_some hj).1
      have h2 := (List.getElem?_eq_some_iff.1 h1).1
      simpa using h2
    have h1 : (⟨#[58]⟩ : ByteArray).size = 1 := rfl
    have hw : wrap64 ((j : Int) + (((⟨#[58]⟩ : ByteArray).size : Nat) : Int)) = ((j + 1 : Nat) : Int) := by rw [h1]; unfold wrap64; omega
    refine ⟨a0.extract 0 j, a0.extract (j + 1) a0.size, true, ?_, .inl ⟨rfl, j, hj, hlt, rfl⟩, by simp; omega⟩
    unfold strings_Cut.f stringslite_Cut.f
    rw [e, Option.bind_some, hj, if_pos (by omega), if_pos (by omega), if_pos (by omega), hw, if_pos (by omega), if_pos (by omega)]
    rfl
def mark (D : Nat) : Deferred := { target := .collected D, args := #[] }
def Post (a0 : ByteArray) (w : World) : Ending → World → Prop := fun e w' => ∃ (r1 : Int) (v : Value) (r2 : List ByteArray) (r3 r4 : Int), script_Parse.f a0 = some (r1, r2, r3, r4) ∧ e = .returned (.tuple #[.agg #[.int .i64 r1, v], .int .i64 r3, .int .i64 r4]) ∧ Kd.R Kd.string 9 w' w.heap.size (fun _ => True) v r2 ∧ Below w.heap.size w w'
theorem leave (a0 : ByteArray) (w : World) (tmps : Array Value) (h2 : tmps.getD 2 undef = .pointer (some ⟨w.heap.size, 0, none⟩)) (h3 : tmps.getD 3 undef = .pointer (some ⟨w.heap.size + 1, 0, none⟩)) (h4 : tmps.getD 4 undef = .pointer (some ⟨w.heap.size + 1 + 1, 0, none⟩))
    (sc er pos : Int) (v : Value) (ws : List ByteArray) (hf : script_Parse.f a0 = some (sc, ws, er, pos)) : ∀ (ds : List Nat) (W : World),
    W.heap[w.heap.size]? = some (.cells #[.int .i64 sc, v] 24 (0, 0)) → W.heap[w.heap.size + 1]? = some (.cells #[.int .i64 er] 28 (0, 0)) → W.heap[w.heap.size + 1 + 1]? = some (.cells #[.int .i64 pos] 3 (0, 0)) →
    Kd.R Kd.string 9 W w.heap.size (fun _ => True) v ws → Below w.heap.size w W → (∀ D ∈ ds, w.heap.size + 2 < D ∧ W.heap[D]? = some (.deferred (some []))) → ds.Nodup →
    LeavesInM Fence.wide 2 Tryd.prog Tryd.f20 tmps (Post a0 w) (ds.map mark) .returning W := by
  intro ds
  induction ds with
  | nil =>
    intro W g1 g2 g3 hR hB _ _
    exact ⟨_, results20 tmps w.heap.size W sc er pos v (0, 0) h2 h3 h4 g1 g2 g3, sc, v, ws, er, pos, hf, rfl, hR, hB⟩
  | cons D ds ih =>
    intro W g1 g2 g3 hR hB hm hnd
    obtain ⟨hD, hk⟩ := hm D List.mem_cons_self
    refine ⟨by simp, .inl ⟨D, _, rfl, run_takeDeferred hk, ?_⟩⟩
    have hnd' := List.nodup_cons.1 hnd
    refine ih _ ((World.putObj_heap_other (by omega)).trans g1) ((World.putObj_heap_other (by omega)).trans g2) ((World.putObj_heap_other (by omega)).trans g3) (R_put hR _ ⟨_, hk, rfl⟩) (hB.grown (grownBy_putObj' W D _) hB.size (fun k e => by cases e; omega)) ?_ hnd'.2
    intro E hE
    obtain ⟨e1, e2⟩ := hm E (List.mem_cons_of_mem _ hE)
    exact ⟨e1, (World.putObj_heap_other (fun e => hnd'.1 (by rw [← e]; exact hE))).trans e2⟩

/-- Parse's own boxes for its results, and that what lay in memory before lies there still. -/
structure Bxs (w : World) (W : World) : Prop where
  r1 : W.heap[w.heap.size]? = some (.cells #[.int .i64 0, .slice none 0 0] 24 (0, 0))
  r2 : W.heap[w.heap.size + 1]? = some (.cells #[.int .i64 0] 28 (0, 0))
  r3 : W.heap[w.heap.size + 1 + 1]? = some (.cells #[.int .i64 0] 3 (0, 0))
  bel : Below w.heap.size w W
theorem Bxs.start (w : World) (o : Obj) : Bxs w ((((w.alloc (.cells #[.int .i64 0, .slice none 0 0] 24)).alloc (.cells #[.int .i64 0] 28)).alloc (.cells #[.int .i64 0] 3)).alloc o) := by
  refine ⟨blk_alloc (blk_alloc (blk_alloc (blk_new _ _) _) _) _, blk_alloc (blk_alloc (by have := blk_new (w.alloc (.cells #[.int .i64 0, .slice none 0 0] 24)) (.cells #[.int .i64 0] 28); rwa [World.size_alloc] at this) _) _, blk_alloc (by have := blk_new ((w.alloc (.cells #[.int .i64 0, .slice none 0 0] 24)).alloc (.cells #[.int .i64 0] 28)) (.cells #[.int .i64 0] 3); simpa using this) _, ?_⟩
  exact ((((Below.refl _ w).alloc (Nat.le_refl _) _).alloc (by simp) _).alloc (by simp; omega) _).alloc (by simp; omega) _
theorem Bxs.below {w W W' : World} (h : Bxs w W) (hb : Below W.heap.size W W') : Bxs w W' := ⟨blk_below h.r1 hb, blk_below h.r2 hb, blk_below h.r3 hb, below_step h.bel hb⟩
theorem Bxs.grown {w W W' : World} {r : Nat} (h : Bxs w W) (hg : W.grownBy W' (some r)) (hr : w.heap.size + 3 ≤ r) : Bxs w W' :=
  ⟨blk_grown h.r1 hg (fun e => by cases e; omega), blk_grown h.r2 hg (fun e => by cases e; omega), blk_grown h.r3 hg (fun e => by cases e; omega), h.bel.grown hg h.bel.size (fun k e => by cases e; omega)⟩
theorem owns_below {w w' : World} {k : TypeId} {R : Value → Option (DataW Unit × List MemPlace)} {b n : Nat} {D : DataW Unit} (h : w.ownsMap Tryd.prog k R b n D) (hb : Below w.heap.size w w') : w'.ownsMap Tryd.prog k R b n D := by
  have hlt := h.lt
  obtain ⟨es, clock, e, F, hs, hD⟩ := h
  exact ⟨es, clock, (hb.block b hlt).trans e, F, hs, hD⟩
theorem titles_lit (w : World) : Calls Tryd.prog 32 #[] w fun e w' => e = .returned (.agg #[.string ⟨#[]⟩, .string ⟨#[112, 108, 97, 105, 110]⟩, .string ⟨#[99, 97, 115, 101, 100]⟩, .string ⟨#[97, 98, 106, 97, 100]⟩, .string ⟨#[115, 121, 108, 108, 97, 98]⟩]) ∧ Below w.heap.size w w' := titles_any w
theorem law9 : Maps.Keyed Tryd.prog 9 := Maps.string_keyed Tryd.underlying9
theorem zero3 (w : World) : (zeroValue 3).run Tryd.prog w = .ok (.int .i64 0) w := by kernel_rfl

def data (l : List ByteArray) : List (List UInt8) := l.map (fun t => t.data.toList)
/-- What lies in memory and stays while a run of letters is read. -/
structure Fr (w : World) (nb rb : Nat) (sc : Int) (ds : List Nat) (ws : List ByteArray) (v : Value) (W : World) : Prop where
  bx : Bxs w W
  nm : W.heap[nb]? = some (.cells #[.int .i64 sc, v] 24 (0, 0))
  rows : Kd.R Kd.string 9 W w.heap.size (fun k => nb + 2 ≤ k ∧ k < rb) v ws
  marks : ∀ D ∈ ds, nb + 1 < D ∧ D < rb ∧ W.heap[D]? = some (.deferred (some []))
section
variable {w W W' : World} {nb rb : Nat} {sc : Int} {ds : List Nat} {ws : List ByteArray} {v : Value}
theorem Fr.below (h : Fr w nb rb sc ds ws v W) (hb : Below W.heap.size W W') : Fr w nb rb sc ds ws v W' :=
  ⟨h.bx.below hb, blk_below h.nm hb, Kd.R_below h.rows hb, fun D hD => ⟨(h.marks D hD).1, (h.marks D hD).2.1, blk_below (h.marks D hD).2.2 hb⟩⟩
theorem Fr.put (h : Fr w nb rb sc ds ws v W) (hnb : w.heap.size + 4 ≤ nb) {l : Nat} (o : Obj) (hl : rb ≤ l) (hr : nb + 2 ≤ rb) (ho : ∃ o₀ : Obj, W.heap[l]? = some o₀ ∧ o₀.isCells = false) : Fr w nb rb sc ds ws v (W.putObj l o) := by
  obtain ⟨⟨r1, r2, r3, bel⟩, nm, rows, marks⟩ := h
  refine ⟨⟨(World.putObj_heap_other (by omega)).trans r1, (World.putObj_heap_other (by omega)).trans r2, (World.putObj_heap_other (by omega)).trans r3, bel.grown (grownBy_putObj' W l o) bel.size (fun k e => by cases e; omega)⟩, (World.putObj_heap_other (by omega)).trans nm, R_put rows o ho, fun D hD => ?_⟩
  obtain ⟨m1, m2, m3⟩ := marks D hD
  exact ⟨m1, m2, (World.putObj_heap_other (by omega)).trans m3⟩
theorem Fr.set (h : Fr w nb rb sc ds ws v W) (hnb : w.heap.size + 4 ≤ nb) {q : Nat} (hq : q = nb + 1 ∨ rb ≤ q) (hr : nb + 2 ≤ rb) (u : Value) : Fr w nb rb sc ds ws v (W.setCell ⟨q, 0, none⟩ u) := by
  obtain ⟨⟨r1, r2, r3, bel⟩, nm, rows, marks⟩ := h
  refine ⟨⟨blk_far r1 (by show _ ≠ q; omega) u, blk_far r2 (by show _ ≠ q; omega) u, blk_far r3 (by show _ ≠ q; omega) u, bel.setCell (p := ⟨q, 0, none⟩) (by show _ ≤ q; omega) u⟩, blk_far nm (by show _ ≠ q; omega) u, Kd.R_far (p := ⟨q, 0, none⟩) rows (fun k hk => by show k ≠ q; omega) u, fun D hD => ?_⟩
  obtain ⟨m1, m2, m3⟩ := marks D hD
  exact ⟨m1, m2, (heap_set W q D u (by omega)).trans m3⟩
end
/-- The frame between two rounds: what the code still reads stands written out. -/
def fr (t : ByteArray) (b nb : Nat) (x : Nat → Value) : Array Value := #[.string t, x 1, .pointer (some ⟨b, 0, none⟩), .pointer (some ⟨b + 1, 0, none⟩), .pointer (some ⟨b + 1 + 1, 0, none⟩), x 5, x 6, x 7, x 8, x 9, x 10, .pointer (some ⟨nb, 0, none⟩), .pointer (some ⟨nb + 1, 0, none⟩), x 13, x 14, x 15, x 16, x 17, x 18, x 19, x 20, x 21, x 22, x 23, x 24, x 25, x 26, x 27, x 28, x 29, x 30, x 31, x 32, x 33, x 34, x 35, x 36, x 37, x 38, x 39, x 40, x 41, x 42, x 43, x 44, x 45, x 46, x 47, x 48, x 49, x 50, x 51, x 52, x 53, x 54, x 55, x 56, x 57, x 58, x 59, x 60, x 61, x 62, x 63, x 64, x 65, x 66, x 67, x 68, x 69, x 70, x 71, x 72, x 73, x 74, x 75, x 76, x 77, x 78, x 79, x 80, x 81, x 82, x 83, x 84, x 85, x 86, x 87, x 88, x 89, x 90, x 91, x 92, x 93, x 94, x 95, x 96, x 97, x 98, x 99, x 100, x 101, x 102, x 103, x 104, x 105, x 106, x 107, x 108, x 109, x 110, x 111]
/-- Inside a run of letters, which began at p. -/
def InvI (a0 : ByteArray) (w : World) (nb rb : Nat) (sc : Int) (ds : List Nat) (ws : List ByteArray) (v : Value) (p i : Nat) (W : World) : Prop :=
  ∃ n : Nat, Fr w nb rb sc ds ws v W ∧ W.heap[nb + 1]? = some (.cells #[.int .i64 ((p + i : Nat) : Int)] 3 (0, 0)) ∧ W.heap[rb]? = some (.cells #[.int .i64 (n : Int)] 3 (0, 0)) ∧ n ≤ 12 ∧ (n = 0 ↔ i = 0) ∧ p + i ≤ a0.size ∧
    script_Parse.f a0 = some (parseRes sc (Scr.R sc (data ws) n ((a0.data.toList.drop p).take i) (p + i) (a0.data.toList.drop (p + i))))
/-- Left with an error. -/
def InvX (a0 : ByteArray) (w : World) (nb rb : Nat) (ds : List Nat) (W : World) : Prop :=
  ∃ er pos : Int, W.heap[w.heap.size]? = some (.cells #[.int .i64 0, .slice none 0 0] 24 (0, 0)) ∧ W.heap[w.heap.size + 1]? = some (.cells #[.int .i64 er] 28 (0, 0)) ∧ W.heap[w.heap.size + 1 + 1]? = some (.cells #[.int .i64 pos] 3 (0, 0)) ∧ Below w.heap.size w W ∧
    (∀ D ∈ ds, nb + 1 < D ∧ D < rb ∧ W.heap[D]? = some (.deferred (some []))) ∧ script_Parse.f a0 = some (0, [], er, pos)
/-- Between two words. -/
def InvO (a0 : ByteArray) (w : World) (nb : Nat) (sc : Int) (a : Act) (W : World) : Prop :=
  ∃ x ds ws v, ∃ p : Nat, a = ⟨fr a0 w.heap.size nb x, ds.map mark⟩ ∧ Fr w nb W.heap.size sc ds ws v W ∧ W.heap[nb + 1]? = some (.cells #[.int .i64 (p : Int)] 3 (0, 0)) ∧ ds.Nodup ∧ ws.length ≤ p ∧ p ≤ a0.size ∧
    script_Parse.f a0 = some (parseRes sc (Scr.R sc (data ws) 0 [] p (a0.data.toList.drop p)))
def atBox (nb : Nat) (W : World) : Nat := match W.cell? ⟨nb + 1, 0, none⟩ with | some (.int _ p) => p.toNat | _ => 0

theorem fold_one (T : Array Value) (k : Nat) (x : Value) : ((#[k] : Array Tmp).zip #[x]).foldl (fun t (q, v) => t.setIfInBounds q v) T = T.setIfInBounds k x := by
  show Array.foldl _ T ([k].toArray.zip [x].toArray) = _
  rw [List.zip_toArray]
  simp
section
variable {a0 : ByteArray} {w W W' : World} {nb rb : Nat} {sc : Int} {ds : List Nat} {ws : List ByteArray} {v : Value} {p i : Nat}
theorem InvI.below (h : InvI a0 w nb rb sc ds ws v p i W) (hb : Below W.heap.size W W') : InvI a0 w nb rb sc ds ws v p i W' := by
  obtain ⟨n, h1, h2, h3, h4⟩ := h
  exact ⟨n, h1.below hb, blk_below h2 hb, blk_below h3 hb, h4⟩
theorem InvI.set (h : InvI a0 w nb rb sc ds ws v p i W) (hnb : w.heap.size + 4 ≤ nb) (hr : nb + 2 ≤ rb) {q : Nat} (hq : rb < q) (u : Value) : InvI a0 w nb rb sc ds ws v p i (W.setCell ⟨q, 0, none⟩ u) := by
  obtain ⟨n, h1, h2, h3, h4⟩ := h
  exact ⟨n, h1.set hnb (.inr (by omega)) hr u, blk_far h2 (by show _ ≠ q; omega) u, blk_far h3 (by show _ ≠ q; omega) u, h4⟩
theorem InvI.put (h : InvI a0 w nb rb sc ds ws v p i W) (hnb : w.heap.size + 4 ≤ nb) (hr : nb + 2 ≤ rb) {l : Nat} (o : Obj) (hl : rb < l) (ho : ∃ o₀ : Obj, W.heap[l]? = some o₀ ∧ o₀.isCells = false) : InvI a0 w nb rb sc ds ws v p i (W.putObj l o) := by
  obtain ⟨n, h1, h2, h3, h4⟩ := h
  exact ⟨n, h1.put hnb o (by omega) hr ho, (World.putObj_heap_other (by omega)).trans h2, (World.putObj_heap_other (by omega)).trans h3, h4⟩
theorem InvX.put (h : InvX a0 w nb rb ds W) (hnb : w.heap.size + 4 ≤ nb) (hr : nb + 2 ≤ rb) {l : Nat} (o : Obj) (hl : rb < l) : InvX a0 w nb rb ds (W.putObj l o) := by
  obtain ⟨er, pos, h1, h2, h3, h4, h5, h6⟩ := h
  refine ⟨er, pos, (World.putObj_heap_other (by omega)).trans h1, (World.putObj_heap_other (by omega)).trans h2, (World.putObj_heap_other (by omega)).trans h3, h4.grown (grownBy_putObj' W l o) h4.size (fun k e => by cases e; omega), fun D hD => ?_, h6⟩
  obtain ⟨m1, m2, m3⟩ := h5 D hD
  exact ⟨m1, m2, (World.putObj_heap_other (by omega)).trans m3⟩
end
theorem InvX_of {a0 : ByteArray} {w W : World} {nb rb : Nat} {sc : Int} {ds : List Nat} {ws : List ByteArray} {v : Value} {er pos : Int} (hF : Fr w nb rb sc ds ws v W) (hnb : w.heap.size + 4 ≤ nb) (hf : script_Parse.f a0 = some (0, [], er, pos)) :
    InvX a0 w nb rb ds ((((W.setCell ⟨w.heap.size, 0, none⟩ (.int .i64 0)).setCell ⟨w.heap.size, 1, none⟩ (.slice none 0 0)).setCell ⟨w.heap.size + 1, 0, none⟩ (.int .i64 er)).setCell ⟨w.heap.size + 1 + 1, 0, none⟩ (.int .i64 pos)) := by
  refine ⟨er, pos, ?_, ?_, ?_, ?_, ?_, hf⟩
  · exact blk_far (blk_far (blk_put (blk_put hF.bx.r1 0 (.int .i64 0) rfl) 1 (.slice none 0 0) rfl) (by simp) _) (by show _ ≠ w.heap.size + 1 + 1; omega) _
  · exact blk_far (blk_put (blk_far (blk_far hF.bx.r2 (by simp) _) (by simp) _) 0 (.int .i64 er) rfl) (by simp) _
  · exact blk_put (blk_far (blk_far (blk_far hF.bx.r3 (by show _ ≠ w.heap.size; omega) _) (by show _ ≠ w.heap.size; omega) _) (by simp) _) 0 (.int .i64 pos) rfl
  · exact (((hF.bx.bel.setCell (p := ⟨w.heap.size, 0, none⟩) (Nat.le_refl _) _).setCell (p := ⟨w.heap.size, 1, none⟩) (Nat.le_refl _) _).setCell (p := ⟨w.heap.size + 1, 0, none⟩) (by simp) _).setCell (p := ⟨w.heap.size + 1 + 1, 0, none⟩) (by show w.heap.size ≤ w.heap.size + 1 + 1; omega) _
  · intro D hD
    obtain ⟨e1, e3, e2⟩ := hF.marks D hD
    refine ⟨e1, e3, (Below.heap_setCell _ _ _ _ ?_).trans ((Below.heap_setCell _ _ _ _ ?_).trans ((Below.heap_setCell _ _ _ _ ?_).trans ((Below.heap_setCell _ _ _ _ ?_).trans e2)))⟩
    · show D ≠ w.heap.size + 1 + 1; omega
    · show D ≠ w.heap.size + 1; omega
    · show D ≠ w.heap.size; omega
    · show D ≠ w.heap.size; omega
theorem keeps_four (W : World) (a b c d : Addr) (x y z u : Value) : KeepsOthers W ((((W.setCell a x).setCell b y).setCell c z).setCell d u) :=
  (((KeepsOthers.setCell _ a x).trans (KeepsOthers.setCell _ b y)).trans (KeepsOthers.setCell _ c z)).trans (KeepsOthers.setCell _ d u)
theorem wrap_a {p i k s : Nat} (h : p + (i + k) ≤ s) (hs : s ≤ 20000) : wrap64 ((p : Int) + (i : Int) + (k : Int)) = ((p + (i + k) : Nat) : Int) := by unfold wrap64; omega
theorem wrap_n {n : Nat} (h : n ≤ 11) : wrap64 ((n : Int) + 1) = ((n + 1 : Nat) : Int) := by unfold wrap64; omega
theorem InvI_next {a0 : ByteArray} {w W : World} {nb rb : Nat} {sc : Int} {ds : List Nat} {ws : List ByteArray} {v : Value} {p i k n : Nat} (hnb : w.heap.size + 4 ≤ nb) (hrb : nb + 2 ≤ rb) (HF : Fr w nb rb sc ds ws v W)
    (HA : W.heap[nb + 1]? = some (.cells #[.int .i64 ((p + i : Nat) : Int)] 3 (0, 0))) (HC : W.heap[rb]? = some (.cells #[.int .i64 (n : Int)] 3 (0, 0))) (hn : n ≤ 11) (hk : 0 < k) (hle : p + (i + k) ≤ a0.size) (hs : a0.size ≤ 20000)
    (hf : script_Parse.f a0 = some (parseRes sc (Scr.R sc (data ws) (n + 1) ((a0.data.toList.drop p).take (i + k)) (p + (i + k)) (a0.data.toList.drop (p + (i + k))))))
    {s : ByteArray} {j : Nat} (HB : Bx (rb + 1) (rb + 1 + 1) sc s j W) :
    InvI a0 w nb rb sc ds ws v p (i + k) ((W.setCell ⟨nb + 1, 0, none⟩ (.int .i64 (wrap64 ((p : Int) + (i : Int) + (k : Int))))).setCell ⟨rb, 0, none⟩ (.int .i64 (wrap64 ((n : Int) + 1)))) ∧
    Bx (rb + 1) (rb + 1 + 1) sc s j ((W.setCell ⟨nb + 1, 0, none⟩ (.int .i64 (wrap64 ((p : Int) + (i : Int) + (k : Int))))).setCell ⟨rb, 0, none⟩ (.int .i64 (wrap64 ((n : Int) + 1)))) ∧
    Below w.heap.size w ((W.setCell ⟨nb + 1, 0, none⟩ (.int .i64 (wrap64 ((p : Int) + (i : Int) + (k : Int))))).setCell ⟨rb, 0, none⟩ (.int .i64 (wrap64 ((n : Int) + 1)))) := by
  rw [wrap_a hle hs, wrap_n hn]
  have h2 := (HF.set hnb (.inl rfl) hrb (.int .i64 ((p + (i + k) : Nat) : Int))).set hnb (.inr (Nat.le_refl _)) hrb (.int .i64 ((n + 1 : Nat) : Int))
  exact ⟨⟨n + 1, h2, blk_far (blk_put HA 0 _ rfl) (by show _ ≠ rb; omega) _, blk_put (blk_far HC (by show _ ≠ nb + 1; omega) _) 0 _ rfl, by omega, by omega, hle, hf⟩, (HB.far (by omega) (by omega) _).far (by omega) (by omega) _, h2.bx.bel⟩
theorem Fr.mono {w W : World} {nb rb rb' : Nat} {sc : Int} {ds : List Nat} {ws : List ByteArray} {v : Value} (h : Fr w nb rb sc ds ws v W) (hr : rb ≤ rb') : Fr w nb rb' sc ds ws v W :=
  ⟨h.bx, h.nm, Kd.R_mono h.rows (fun k hk => ⟨hk.1, by omega⟩), fun D hD => ⟨(h.marks D hD).1, by have := (h.marks D hD).2.1; omega, (h.marks D hD).2.2⟩⟩
/-- Behind the store of the longer list. -/
theorem Fr_app {w W2 w3 : World} {nb rb : Nat} {sc : Int} {ds : List Nat} {ws ws1 : List ByteArray} {v v1 : Value} (hF : Fr w nb rb sc ds ws v W2) (hnb : w.heap.size + 4 ≤ nb) (ho : Kd.R Kd.string 9 w3 w.heap.size (fun k => nb + 2 ≤ k) v1 ws1) (hb : Below w.heap.size w w3) (hg : W2.grownBy w3 v.ownBlock) :
    Fr w nb w3.heap.size sc ds ws1 v1 (w3.setCell ⟨nb, 1, none⟩ v1) ∧ (∀ o, W2.heap[nb + 1]? = some (.cells #[o] 3 (0, 0)) → (w3.setCell ⟨nb, 1, none⟩ v1).heap[nb + 1]? = some (.cells #[o] 3 (0, 0))) ∧
    (∀ (D : Nat) (x : Option (List Deferred)), W2.heap[D]? = some (.deferred x) → (w3.setCell ⟨nb, 1, none⟩ v1).heap[D]? = some (.deferred x)) := by
  have hfar : ∀ q, q < nb + 2 → some q ≠ v.ownBlock := fun q hq e => by have := hF.rows.1 q e.symm; omega
  have hK : KeepsOthers W2 w3 := KeepsOthers.of_grownBy hg (fun q o e ho' => by
    obtain ⟨inner, hown⟩ := Kd.R_own hF.rows
    obtain ⟨cells, hc⟩ := own_typed hown q e
    rw [ho'] at hc; cases hc; rfl)
  have hnm : w3.heap[nb]? = some (.cells #[.int .i64 sc, v] 24 (0, 0)) := blk_grown hF.nm hg (hfar _ (by omega))
  have hD : ∀ (D : Nat) (x : Option (List Deferred)), W2.heap[D]? = some (.deferred x) → (w3.setCell ⟨nb, 1, none⟩ v1).heap[D]? = some (.deferred x) := fun D x h => by
    have h3 : w3.heap[D]? = some (.deferred x) := hK.same D _ h rfl
    refine (Below.heap_setCell w3 ⟨nb, 1, none⟩ v1 D ?_).trans h3
    show D ≠ nb
    rintro rfl
    rw [hnm] at h3
    cases h3
  refine ⟨⟨⟨blk_far (blk_grown hF.bx.r1 hg (hfar _ (by omega))) (by show _ ≠ nb; omega) _, blk_far (blk_grown hF.bx.r2 hg (hfar _ (by omega))) (by show _ ≠ nb; omega) _, blk_far (blk_grown hF.bx.r3 hg (hfar _ (by omega))) (by show _ ≠ nb; omega) _, hb.setCell (p := ⟨nb, 1, none⟩) (by show w.heap.size ≤ nb; omega) _⟩, blk_put hnm 1 v1 rfl, ?_, ?_⟩, ?_, hD⟩
  · exact Kd.R_far (p := ⟨nb, 1, none⟩) (Kd.R_mono (Kd.R_bound ho) (fun k hk => ⟨hk.1, hk.2.2.1⟩)) (fun k hk => by show k ≠ nb; omega) _
  · intro D hm
    obtain ⟨m1, m2, m3⟩ := hF.marks D hm
    exact ⟨m1, blk_lt (hK.same D _ m3 rfl), hD D _ m3⟩
  · intro o h
    exact blk_far (blk_grown h hg (hfar _ (by omega))) (by show _ ≠ nb; omega) _
theorem atBox_eq {nb p : Nat} {W : World} (h : W.heap[nb + 1]? = some (.cells #[.int .i64 (p : Int)] 3 (0, 0))) : atBox nb W = p := by
  have : W.cell? ⟨nb + 1, 0, none⟩ = some (.int .i64 (p : Int)) := (blk_cell h 0).trans rfl
  unfold atBox
  rw [this]
  simp
theorem InvO_mk {a0 : ByteArray} {w : World} {nb : Nat} {sc : Int} {W : World} {tmps : Array Value} {ds : List Nat} {ws : List ByteArray} {v : Value} (p : Nat) (ha : tmps = fr a0 w.heap.size nb (fun k => tmps.getD k undef))
    (hF : Fr w nb W.heap.size sc ds ws v W) (hat : W.heap[nb + 1]? = some (.cells #[.int .i64 (p : Int)] 3 (0, 0))) (hnd : ds.Nodup) (hws : ws.length ≤ p) (hp : p ≤ a0.size)
    (hrun : script_Parse.f a0 = some (parseRes sc (Scr.R sc (data ws) 0 [] p (a0.data.toList.drop p)))) : InvO a0 w nb sc ⟨tmps, ds.map mark⟩ W :=
  ⟨_, ds, ws, v, p, by rw [← ha], hF, hat, hnd, hws, hp, hrun⟩
/-- Leaving behind the three stores. -/
theorem leaveW (a0 : ByteArray) (w : World) {tmps : Array Value} (h2 : tmps.getD 2 undef = .pointer (some ⟨w.heap.size, 0, none⟩)) (h3 : tmps.getD 3 undef = .pointer (some ⟨w.heap.size + 1, 0, none⟩)) (h4 : tmps.getD 4 undef = .pointer (some ⟨w.heap.size + 1 + 1, 0, none⟩))
    {sc er pos : Int} {v : Value} {ws : List ByteArray} (hf : script_Parse.f a0 = some (sc, ws, er, pos)) {ds : List Nat} {W : World} (bx : Bxs w W) (hR : Kd.R Kd.string 9 W w.heap.size (fun k => w.heap.size + 2 < k) v ws)
    (hm : ∀ D ∈ ds, w.heap.size + 2 < D ∧ W.heap[D]? = some (.deferred (some []))) (hnd : ds.Nodup) :
    LeavesInM Fence.wide 2 Tryd.prog Tryd.f20 tmps (Post a0 w) (ds.map mark) .returning ((((W.setCell ⟨w.heap.size, 0, none⟩ (.int .i64 sc)).setCell ⟨w.heap.size, 1, none⟩ v).setCell ⟨w.heap.size + 1, 0, none⟩ (.int .i64 er)).setCell ⟨w.heap.size + 1 + 1, 0, none⟩ (.int .i64 pos)) := by
  refine leave a0 w tmps h2 h3 h4 sc er pos v ws hf ds _ ?_ ?_ ?_ ?_ ?_ ?_ hnd
  · exact blk_far (blk_far (blk_put (blk_put bx.r1 0 (.int .i64 sc) rfl) 1 v rfl) (by simp) _) (by show _ ≠ w.heap.size + 1 + 1; omega) _
  · exact blk_far (blk_put (blk_far (blk_far bx.r2 (by simp) _) (by simp) _) 0 (.int .i64 er) rfl) (by simp) _
  · exact blk_put (blk_far (blk_far (blk_far bx.r3 (by show _ ≠ w.heap.size; omega) _) (by show _ ≠ w.heap.size; omega) _) (by simp) _) 0 (.int .i64 pos) rfl
  · exact Kd.R_mono (Kd.R_far (p := ⟨w.heap.size + 1 + 1, 0, none⟩) (Kd.R_far (p := ⟨w.heap.size + 1, 0, none⟩) (Kd.R_far (p := ⟨w.heap.size, 1, none⟩) (Kd.R_far (p := ⟨w.heap.size, 0, none⟩) hR (fun k hk => by show k ≠ w.heap.size; omega) _) (fun k hk => by show k ≠ w.heap.size; omega) _) (fun k hk => by show k ≠ w.heap.size + 1; omega) _) (fun k hk => by show k ≠ w.heap.size + 1 + 1; omega) _) (fun _ _ => trivial)
  · exact (((bx.bel.setCell (p := ⟨w.heap.size, 0, none⟩) (Nat.le_refl _) _).setCell (p := ⟨w.heap.size, 1, none⟩) (Nat.le_refl _) _).setCell (p := ⟨w.heap.size + 1, 0, none⟩) (by simp) _).setCell (p := ⟨w.heap.size + 1 + 1, 0, none⟩) (by show w.heap.size ≤ w.heap.size + 1 + 1; omega) _
  · intro D hD
    obtain ⟨e1, e2⟩ := hm D hD
    refine ⟨e1, (Below.heap_setCell _ _ _ _ ?_).trans ((Below.heap_setCell _ _ _ _ ?_).trans ((Below.heap_setCell _ _ _ _ ?_).trans ((Below.heap_setCell _ _ _ _ ?_).trans e2)))⟩
    · show D ≠ w.heap.size + 1 + 1; omega
    · show D ≠ w.heap.size + 1; omega
    · show D ≠ w.heap.size; omega
    · show D ≠ w.heap.size; omega

theorem Fr.norm {w W : World} {nb rb : Nat} {sc : Int} {ds : List Nat} {ws : List ByteArray} {v : Value} (h : Fr w nb rb sc ds ws v W) : Fr w nb W.heap.size sc ds ws v W :=
  ⟨h.bx, h.nm, Kd.R_mono (Kd.R_bound h.rows) (fun k hk => ⟨hk.1.1, hk.2.2.1⟩), fun D hD => ⟨(h.marks D hD).1, blk_lt (h.marks D hD).2.2, (h.marks D hD).2.2⟩⟩
theorem Fr.cons {w W : World} {nb rb D : Nat} {sc : Int} {ds : List Nat} {ws : List ByteArray} {v : Value} (h : Fr w nb rb sc ds ws v W) (hD : nb + 1 < D) (hk : W.heap[D]? = some (.deferred (some []))) : Fr w nb W.heap.size sc (D :: ds) ws v W := by
  have h := h.norm
  refine ⟨h.bx, h.nm, h.rows, fun E hE => ?_⟩
  rcases List.mem_cons.1 hE with rfl | hE
  · exact ⟨hD, blk_lt hk, hk⟩
  · exact h.marks E hE
theorem Fr.nodup {w W : World} {nb rb D : Nat} {sc : Int} {ds : List Nat} {ws : List ByteArray} {v : Value} (h : Fr w nb rb sc ds ws v W) (hnd : ds.Nodup) (hD : rb ≤ D) : (D :: ds).Nodup :=
  List.nodup_cons.2 ⟨fun hm => by have := (h.marks D hm).2.1; omega, hnd⟩
theorem leaveF (a0 : ByteArray) (w : World) {tmps : Array Value} (h2 : tmps.getD 2 undef = .pointer (some ⟨w.heap.size, 0, none⟩)) (h3 : tmps.getD 3 undef = .pointer (some ⟨w.heap.size + 1, 0, none⟩)) (h4 : tmps.getD 4 undef = .pointer (some ⟨w.heap.size + 1 + 1, 0, none⟩))
    {sc sc0 er pos : Int} {v v0 : Value} {ws ws0 : List ByteArray} (hf : script_Parse.f a0 = some (sc, ws, er, pos)) {ds : List Nat} {W : World} {nb rb : Nat} (hF : Fr w nb rb sc0 ds ws0 v0 W) (hnb : w.heap.size + 4 ≤ nb) (hR : Kd.R Kd.string 9 W w.heap.size (fun k => nb + 2 ≤ k ∧ k < rb) v ws) (hnd : ds.Nodup) :
    LeavesInM Fence.wide 2 Tryd.prog Tryd.f20 tmps (Post a0 w) (ds.map mark) .returning ((((W.setCell ⟨w.heap.size, 0, none⟩ (.int .i64 sc)).setCell ⟨w.heap.size, 1, none⟩ v).setCell ⟨w.heap.size + 1, 0, none⟩ (.int .i64 er)).setCell ⟨w.heap.size + 1 + 1, 0, none⟩ (.int .i64 pos)) :=
  leaveW a0 w h2 h3 h4 hf hF.bx (Kd.R_mono hR (fun k hk => by omega)) (fun D hD => ⟨by have := (hF.marks D hD).1; omega, (hF.marks D hD).2.2⟩) hnd
theorem data_nil {l : List ByteArray} : data l = [] ↔ l.length = 0 := by simp [data]
theorem map_bs (l : List ByteArray) : (data l).map bs = l := by unfold data; rw [List.map_map]; exact List.map_id _
theorem step_end {a0 : ByteArray} {sc : Int} {Wd : List (List UInt8)} {n q : Nat} {cur : List UInt8} {ws2 : List ByteArray} (h : script_Parse.f a0 = some (parseRes sc (Scr.R sc Wd n cur q (a0.data.toList.drop q)))) (hq : q = a0.size) (hfl : data ws2 = Scr.flush Wd n cur) :
    script_Parse.f a0 = some (if ws2.length = 0 then (0, [], 6, (a0.size : Int)) else (sc, ws2, 0, 0)) := by
  have hd : a0.data.toList.drop q = [] := List.drop_eq_nil_of_le (by rw [hq]; simp)
  rw [h, hd, Scr.R_end, ← hfl]
  by_cases h0 : ws2.length = 0
  · rw [if_pos (data_nil.2 h0), if_pos h0, hq]; rfl
  · rw [if_neg (fun e => h0 (data_nil.1 e)), if_neg h0]; simp [parseRes, map_bs]
theorem drop_get {a0 : ByteArray} {q : Nat} (hq : q < a0.size) : a0.data.toList.drop q = a0[q] :: a0.data.toList.drop (q + 1) := List.drop_eq_getElem_cons (l := a0.data.toList) (by simpa using hq)
theorem step_bad {a0 : ByteArray} {sc : Int} {Wd : List (List UInt8)} {n q : Nat} {cur : List UInt8} (h : script_Parse.f a0 = some (parseRes sc (Scr.R sc Wd n cur q (a0.data.toList.drop q)))) (hz : Scr.len sc (a0.data.toList.drop q) = 0) (hq : q < a0.size) (hb : (((a0[q].toNat : Nat) : Int) != 32) = true) :
    script_Parse.f a0 = some (0, [], 3, (q : Int)) := by
  rw [h]
  rw [drop_get hq] at hz ⊢
  rw [Scr.R_bad _ _ _ _ _ _ _ hz (fun e => by rw [e] at hb; exact absurd hb (by decide))]
  rfl
theorem step_blank {a0 : ByteArray} {sc : Int} {Wd : List (List UInt8)} {n q : Nat} {cur : List UInt8} {ws2 : List ByteArray} (h : script_Parse.f a0 = some (parseRes sc (Scr.R sc Wd n cur q (a0.data.toList.drop q)))) (hfl : data ws2 = Scr.flush Wd n cur) (hq : q < a0.size) (hb : (((a0[q].toNat : Nat) : Int) != 32) = false) :
    script_Parse.f a0 = some (parseRes sc (Scr.R sc (data ws2) 0 [] (q + 1) (a0.data.toList.drop (q + 1)))) := by
  have e : a0[q] = 32 := by
    have : ((a0[q].toNat : Nat) : Int) = 32 := by simpa using hb
    exact UInt8.toNat_inj.1 (by show a0[q].toNat = 32; omega)
  rw [h, drop_get hq, e, Scr.R_blank, ← hfl]
theorem parse_syn {a0 : ByteArray} (hs : a0.size ≤ 20000) (h : Lib.indexByte a0.data.toList 58 < 0 ∨ known (a0.data.toList.take (Lib.indexByte a0.data.toList 58).toNat) = 0) : script_Parse.f a0 = some (0, [], 5, 0) := by
  unfold script_Parse.f parseL
  rw [if_neg (by omega), if_pos h]
theorem take_list (a0 : ByteArray) (j : Nat) : (a0.extract 0 j).data.toList = a0.data.toList.take j := by
  rw [ByteArray.data_extract, Array.toList_extract, List.extract_eq_take_drop]
  simp
theorem parse_go {a0 : ByteArray} {j : Nat} {sc : Int} (hs : a0.size ≤ 20000) (hj : Lib.indexByte a0.data.toList 58 = j) (hsc : sc = known (a0.extract 0 j).data.toList) (h0 : sc ≠ 0) :
    script_Parse.f a0 = some (parseRes sc (Scr.R sc (data []) 0 [] (j + 1) (a0.data.toList.drop (j + 1)))) := by
  rw [take_list] at hsc
  unfold script_Parse.f parseL
  rw [if_neg (by omega), hj, Int.toNat_natCast, ← hsc, if_neg (by omega)]
  rfl
theorem three (w : World) (o1 o2 o3 : Obj) : (((w.alloc o1).alloc o2).alloc o3).heap[w.heap.size]? = some o1 ∧ (((w.alloc o1).alloc o2).alloc o3).heap[w.heap.size + 1]? = some o2 ∧ (((w.alloc o1).alloc o2).alloc o3).heap[w.heap.size + 1 + 1]? = some o3 ∧ Below w.heap.size w (((w.alloc o1).alloc o2).alloc o3) := by
  refine ⟨blk_alloc (blk_alloc (blk_new _ _) _) _, blk_alloc (by have := blk_new (w.alloc o1) o2; rwa [World.size_alloc] at this) _, by have := blk_new ((w.alloc o1).alloc o2) o3; simpa using this, ?_⟩
  exact (((Below.refl _ w).alloc (Nat.le_refl _) _).alloc (by simp) _).alloc (by simp; omega) _
def noPanic (Q : Exit → Act → World → Prop) : Exit → Act → World → Prop
  | .panic _, _, _ => False
  | e, a, w => Q e a w
set_option maxHeartbeats 4000000 in
set_option maxRecDepth 100000 in
theorem walk (a0 : ByteArray) (w : World) (hT : Tabs w) :
    Calls Tryd.prog 20 #[.string a0] w (Post a0 w) := by
  have hmm := @run_makeMap Tryd.prog
  have hx0 : ∀ W, (Instr.index 52 (.agg #[.string ⟨#[]⟩, .string ⟨#[112, 108, 97, 105, 110]⟩, .string ⟨#[99, 97, 115, 101, 100]⟩, .string ⟨#[97, 98, 106, 97, 100]⟩, .string ⟨#[115, 121, 108, 108, 97, 98]⟩]) (.int .i64 0)).run Tryd.prog W = .ok (.string ⟨#[]⟩) W := fun W => by kernel_rfl
  have hx1 : ∀ W, (Instr.index 52 (.agg #[.string ⟨#[]⟩, .string ⟨#[112, 108, 97, 105, 110]⟩, .string ⟨#[99, 97, 115, 101, 100]⟩, .string ⟨#[97, 98, 106, 97, 100]⟩, .string ⟨#[115, 121, 108, 108, 97, 98]⟩]) (.int .i64 1)).run Tryd.prog W = .ok (.string ⟨#[112, 108, 97, 105, 110]⟩) W := fun W => by kernel_rfl
  have hx2 : ∀ W, (Instr.index 52 (.agg #[.string ⟨#[]⟩, .string ⟨#[112, 108, 97, 105, 110]⟩, .string ⟨#[99, 97, 115, 101, 100]⟩, .string ⟨#[97, 98, 106, 97, 100]⟩, .string ⟨#[115, 121, 108, 108, 97, 98]⟩]) (.int .i64 2)).run Tryd.prog W = .ok (.string ⟨#[99, 97, 115, 101, 100]⟩) W := fun W => by kernel_rfl
  have hx3 : ∀ W, (Instr.index 52 (.agg #[.string ⟨#[]⟩, .string ⟨#[112, 108, 97, 105, 110]⟩, .string ⟨#[99, 97, 115, 101, 100]⟩, .string ⟨#[97, 98, 106, 97, 100]⟩, .string ⟨#[115, 121, 108, 108, 97, 98]⟩]) (.int .i64 3)).run Tryd.prog W = .ok (.string ⟨#[97, 98, 106, 97, 100]⟩) W := fun W => by kernel_rfl
  have hx4 : ∀ W, (Instr.index 52 (.agg #[.string ⟨#[]⟩, .string ⟨#[112, 108, 97, 105, 110]⟩, .string ⟨#[99, 97, 115, 101, 100]⟩, .string ⟨#[97, 98, 106, 97, 100]⟩, .string ⟨#[115, 121, 108, 108, 97, 98]⟩]) (.int .i64 4)).run Tryd.prog W = .ok (.string ⟨#[115, 121, 108, 108, 97, 98]⟩) W := fun W => by kernel_rfl
  refine (callsIn_wide (n := 2)).1 ?_
  refine callsIn_of_wp_marks Tryd.func20 rfl trivial ?_ rfl
  refine wpIn_mono (Q := noPanic (bodyPostM Fence.wide 2 Tryd.prog Tryd.f20 (Post a0 w))) ?_ (fun e a w h => by cases e <;> first | exact h | exact h.elim)
  simp only [Tryd.ntmps20, List.size_toArray, List.length_cons, List.length_nil, Nat.reduceAdd, Nat.reduceSub, Array.replicate_succ, Array.replicate_zero, List.push_toArray, List.append_toArray, List.nil_append, List.cons_append]
  gi_wp2
  refine wpIn_scope ?_
  gi_wp2_with (refine ⟨trivial, ?_⟩; refine callsIn_wide.2 ((titles_lit _).mono ?_); rintro e w1 ⟨rfl, hb1⟩)
  · have h3 := three w (.cells #[.int .i64 0, .slice none 0 0] 24) (.cells #[.int .i64 2] 28) (.cells #[.int .i64 (-1)] 3)
    exact leave a0 w _ rfl rfl rfl 0 2 (-1) (.slice none 0 0) [] (by unfold script_Parse.f; rw [if_pos (by omega)]) [] _ h3.1 h3.2.1 h3.2.2.1 (Kd.R_nil _ _ _ _ _) h3.2.2.2 (by simp) List.nodup_nil
  have X1 := Aside0.mk ((Bxs.start w (.map #[] 0)).below hb1)
  have M1 := owns_below (World.ownsMap_made (H := Unit) (((w.alloc (.cells #[.int .i64 0, .slice none 0 0] 24)).alloc (.cells #[.int .i64 0] 28)).alloc (.cells #[.int .i64 0] 3)) Tryd.prog 9 (plainElem Tryd.prog 3)) hb1
  simp only [World.size_alloc] at M1
  clear hb1
  refine wpIn_loop_rounds 6 ?_
  rw [roundsIn_succ]
  gi_wp2_with (gi_at_mapUpdate; refine wpListIn_mapUpdate_own _ rfl _ _ _ 56 rfl 9 3 law9 Tryd.underlying56 _ (w.heap.size + 1 + 1 + 1) 0 _ rfl M1 (by unfold maxLen; omega) _ _ (.string []) rfl rfl (by kernel_rfl) _ [] (plainElem_int Tryd.underlying3 (by decide)) ?_; intro w2 M2 hg)
  have X2 := Aside0.mk (X1.out.grown hg (by omega))
  clear hg X1 M1
  rw [roundsIn_succ]
  gi_wp2_with (gi_at_mapUpdate; refine wpListIn_mapUpdate_own _ rfl _ _ _ 56 rfl 9 3 law9 Tryd.underlying56 _ (w.heap.size + 1 + 1 + 1) 1 _ rfl M2 (by unfold maxLen; omega) _ _ (.string [112, 108, 97, 105, 110]) rfl rfl (by kernel_rfl) _ [] (plainElem_int Tryd.underlying3 (by decide)) ?_; intro w3 M3 hg)
  have X3 := Aside0.mk (X2.out.grown hg (by omega))
  clear hg X2 M2
  rw [roundsIn_succ]
  gi_wp2_with (gi_at_mapUpdate; refine wpListIn_mapUpdate_own _ rfl _ _ _ 56 rfl 9 3 law9 Tryd.underlying56 _ (w.heap.size + 1 + 1 + 1) 2 _ rfl M3 (by unfold maxLen; omega) _ _ (.string [99, 97, 115, 101, 100]) rfl rfl (by kernel_rfl) _ [] (plainElem_int Tryd.underlying3 (by decide)) ?_; intro w4 M4 hg)
  have X4 := Aside0.mk (X3.out.grown hg (by omega))
  clear hg X3 M3
  rw [roundsIn_succ]
  gi_wp2_with (gi_at_mapUpdate; refine wpListIn_mapUpdate_own _ rfl _ _ _ 56 rfl 9 3 law9 Tryd.underlying56 _ (w.heap.size + 1 + 1 + 1) 3 _ rfl M4 (by unfold maxLen; omega) _ _ (.string [97, 98, 106, 97, 100]) rfl rfl (by kernel_rfl) _ [] (plainElem_int Tryd.underlying3 (by decide)) ?_; intro w5 M5 hg)
  have X5 := Aside0.mk (X4.out.grown hg (by omega))
  clear hg X4 M4
  rw [roundsIn_succ]
  gi_wp2_with (gi_at_mapUpdate; refine wpListIn_mapUpdate_own _ rfl _ _ _ 56 rfl 9 3 law9 Tryd.underlying56 _ (w.heap.size + 1 + 1 + 1) 4 _ rfl M5 (by unfold maxLen; omega) _ _ (.string [115, 121, 108, 108, 97, 98]) rfl rfl (by kernel_rfl) _ [] (plainElem_int Tryd.underlying3 (by decide)) ?_; intro w6 M6 hg)
  have X6 := Aside0.mk (X5.out.grown hg (by omega))
  clear hg X5 M5
  have hs2 : a0.size ≤ 20000 := by omega
  obtain ⟨t1, t2, f, hcut, hf, hts⟩ := cut_f a0 hs2
  have HC := Aside0.mk hcut
  have HF := Aside0.mk hf
  clear hcut hf
  have hkey : keyOf Tryd.prog 9 (.string t1) = some (.string t1.data.toList) := Go.WideMaps.keyOf_string_mk Tryd.underlying9 (by unfold maxLen; omega)
  rw [roundsIn_succ]
  gi_wp2_with (first
    | (refine ⟨trivial, ?_⟩; refine callsIn_wide.2 ((strings_Cut.calls _ _ _ _ _ _ HC.out).mono ?_); rintro e w7 ⟨rfl, hd7⟩; have M7 := owns_below M6 hd7.below; have X7 := Aside0.mk (X6.out.below hd7.below); have hlt7 := M7.lt; clear hd7 M6 X6; have c10 : ∀ o, (w7.alloc o).cell? ⟨w.heap.size, 0, none⟩ = some (.int .i64 0) := fun o => (blk_cell (blk_alloc X7.out.r1 o) 0).trans rfl; have c11 : ∀ o, (w7.alloc o).cell? ⟨w.heap.size, 1, none⟩ = some (.slice none 0 0) := fun o => (blk_cell (blk_alloc X7.out.r1 o) 1).trans rfl; have c20 : ∀ o, (w7.alloc o).cell? ⟨w.heap.size + 1, 0, none⟩ = some (.int .i64 0) := fun o => (blk_cell (blk_alloc X7.out.r2 o) 0).trans rfl; have c30 : ∀ o, (w7.alloc o).cell? ⟨w.heap.size + 1 + 1, 0, none⟩ = some (.int .i64 0) := fun o => (blk_cell (blk_alloc X7.out.r3 o) 0).trans rfl; have f1 : ∀ o i, (w7.alloc o).frozen? ⟨w.heap.size, i, none⟩ = false := fun o i => blk_frozen (blk_alloc X7.out.r1 o) i; have f2 : ∀ o i, (w7.alloc o).frozen? ⟨w.heap.size + 1, i, none⟩ = false := fun o i => blk_frozen (blk_alloc X7.out.r2 o) i; have f3 : ∀ o i, (w7.alloc o).frozen? ⟨w.heap.size + 1 + 1, i, none⟩ = false := fun o i => blk_frozen (blk_alloc X7.out.r3 o) i)
    | (gi_at_lookup; refine wpListIn_lookup_own_int _ rfl _ _ 56 rfl 9 3 .i64 law9 Tryd.underlying56 Tryd.underlying3 (zero3 _) (w.heap.size + 1 + 1 + 1) 5 _ rfl M7 _ _ rfl hkey ?_; intro sc hat hwc; have HSC := Aside0.mk (D5_at _ _ hat); clear hat hwc M7))
  · rename_i hft hsc0
    have hj : ∃ j : Nat, indexByte a0.data.toList 58 = ↑j ∧ j < a0.size ∧ t1 = a0.extract 0 j := by
      rcases HF.out with h | h
      · exact h.2
      · exact absurd (hft.symm.trans h.1) (by simp)
    obtain ⟨j, hj, hjlt, rfl⟩ := hj
    have HE := Aside0.mk (parse_syn hs2 (.inr (by rw [hj, Int.toNat_natCast, ← take_list, ← HSC.out]; exact beq_iff_eq.1 hsc0)))
    exact leaveW a0 w (ds := []) rfl rfl rfl HE.out (X7.out.below ((Below.refl _ _).alloc (Nat.le_refl _) _)) (Kd.R_nil _ _ _ _ _) (by simp) List.nodup_nil
  · have hnb : w.heap.size + 4 ≤ w7.heap.size := by omega
    rename_i hft hsc0 KL hKL
    have hj : ∃ j : Nat, indexByte a0.data.toList 58 = ↑j ∧ j < a0.size ∧ t1 = a0.extract 0 j := by
      rcases HF.out with h | h
      · exact h.2
      · exact absurd (hft.symm.trans h.1) (by simp)
    obtain ⟨j, hj, hjlt, rfl⟩ := hj
    have hts1 : (a0.extract 0 j).size = j := by simp; omega
    apply wpIn_label
    gi_wp2
    rw [hts1]
    refine wpIn_loop (InvO a0 w w7.heap.size sc) (fun _ W => a0.size - atBox w7.heap.size W) ?st ?rd
    case st =>
      refine InvO_mk (ds := []) (ws := []) (v := .slice none 0 0) (j + 1) (by kernel_rfl) ⟨X7.out.below ((Below.refl _ _).alloc (Nat.le_refl _) _ |>.alloc (by simp) _), blk_alloc (blk_new _ _) _, Kd.R_nil _ _ _ _ _, by simp⟩ (by have := blk_new (w7.alloc (.cells #[.int .i64 sc, .slice none 0 0] 24)) (.cells #[.int .i64 ((j : Int) + 1)] 3); rw [World.size_alloc] at this; simpa using this) List.nodup_nil (by simp) (by omega) (parse_go hs2 hj HSC.out (fun e => by rw [e] at hsc0; exact absurd hsc0 (by decide)))
    case rd =>
      rintro a W ⟨x, ds, ws, v, p, rfl, hF, hat, hnd, hws, hp, hrun⟩
      have hca : W.cell? ⟨w7.heap.size + 1, 0, none⟩ = some (.int .i64 (p : Int)) := (blk_cell hat 0).trans rfl
      obtain ⟨A1, c1, ev⟩ := Kd.R_slice hF.rows
      subst ev
      have c10 : W.cell? ⟨w.heap.size, 0, none⟩ = some (.int .i64 0) := (blk_cell hF.bx.r1 0).trans rfl
      have c11 : W.cell? ⟨w.heap.size, 1, none⟩ = some (.slice none 0 0) := (blk_cell hF.bx.r1 1).trans rfl
      have c20 : W.cell? ⟨w.heap.size + 1, 0, none⟩ = some (.int .i64 0) := (blk_cell hF.bx.r2 0).trans rfl
      have c30 : W.cell? ⟨w.heap.size + 1 + 1, 0, none⟩ = some (.int .i64 0) := (blk_cell hF.bx.r3 0).trans rfl
      have f10 : ∀ i, W.frozen? ⟨w.heap.size, i, none⟩ = false := fun i => blk_frozen hF.bx.r1 i
      have f20 : ∀ i, W.frozen? ⟨w.heap.size + 1, i, none⟩ = false := fun i => blk_frozen hF.bx.r2 i
      have f30 : ∀ i, W.frozen? ⟨w.heap.size + 1 + 1, i, none⟩ = false := fun i => blk_frozen hF.bx.r3 i
      have cn0 : W.cell? ⟨w7.heap.size, 0, none⟩ = some (.int .i64 sc) := (blk_cell hF.nm 0).trans rfl
      have cn1 : W.cell? ⟨w7.heap.size, 1, none⟩ = some (.slice A1 ws.length c1) := (blk_cell hF.nm 1).trans rfl
      clear c10 c11 c20 c30 f10 f20 f30
      simp only [fr]
      by_cases hpl : p < a0.size
      · gi_wp2
        refine wpIn_wide.2 ?_
        have HF1 := Aside0.mk (hF.below ((Below.refl _ W).alloc (Nat.le_refl _) (.cells #[.int .i64 0] 3)))
        have HA1 := Aside0.mk (blk_alloc hat (.cells #[.int .i64 0] 3))
        have HC1 := Aside0.mk (blk_new W (.cells #[.int .i64 0] 3))
        have HZ1 := Aside0.mk (World.size_alloc W (.cells #[.int .i64 0] 3))
        obtain ⟨rb, hrb⟩ : ∃ rb, W.heap.size = rb := ⟨_, rfl⟩
        have hrb2 : w7.heap.size + 2 ≤ rb := by have := blk_lt hat; omega
        rw [hrb] at HF1 HC1 HZ1 ⊢
        generalize W.alloc (.cells #[.int .i64 0] 3) = W1 at HF1 HA1 HC1 HZ1 ⊢
        have HMU := Aside0.mk (show atBox w7.heap.size W = p from atBox_eq hat)
        clear hF hat hca cn0 cn1 hrb
        refine start_ (n := 6) (S := fun w' => w'.cell? ⟨w7.heap.size, 0, none⟩ = some (.int .i64 sc) ∧ w'.cell? ⟨w7.heap.size + 1, 0, none⟩ = some (.int .i64 (p : Int))) (ds := []) #[false, false, false, false, false, false] (by kernel_rfl) rfl rfl ⟨(blk_cell HF1.out.nm 0).trans rfl, (blk_cell HA1.out 0).trans rfl⟩ (fun hHeld => ?_)
        replace HF1 := Aside0.mk (HF1.out.below (below_drew (Below.refl _ _)))
        replace HA1 := Aside0.mk (blk_drew HA1.out)
        replace HC1 := Aside0.mk (blk_drew HC1.out)
        replace HZ1 := Aside0.mk (show W1.drew.heap.size = rb + 1 from HZ1.out)
        generalize W1.drew = W2 at HF1 HA1 HC1 HZ1 hHeld ⊢
        refine pure_ (i := 0) (N := some 56) (v := ?_) (a' := ?_) #[true, false, false, false, false, false] rfl rfl (by kernel_rfl) (fun _ _ _ h => h) (Or.inl ⟨by rfl, ?_⟩) ?_ ?_
        rotate_left
        · intro w'
          go_simp
          with_reducible rfl
        rotate_left
        · simp only [Act.put, List.setIfInBounds_toArray, List.set_cons_zero, List.set_cons_succ, i64_w, i32_w]
          rfl
        refine take_ (i := 1) (N := some 57) (v := ?_) (a' := ?_) #[true, true, false, false, false, false] rfl rfl (by kernel_rfl) (fun _ _ _ h => h) (Or.inl ⟨by rfl, ?_⟩) hHeld ?_ ?_
        rotate_left
        · rintro w' ⟨s0, s1⟩
          go_simp
          with_reducible rfl
        rotate_left
        · simp only [Act.put, List.setIfInBounds_toArray, List.set_cons_zero, List.set_cons_succ, i64_w, i32_w]
          rfl
        refine pure_ (i := 2) (N := some 58) (v := ?_) (a' := ?_) #[true, true, true, false, false, false] rfl rfl (by kernel_rfl) (fun _ _ _ h => h) (Or.inl ⟨by rfl, ?_⟩) ?_ ?_
        rotate_left
        · intro w'
          go_simp
          with_reducible rfl
        rotate_left
        · simp only [Act.put, List.setIfInBounds_toArray, List.set_cons_zero, List.set_cons_succ, i64_w, i32_w]
          rfl
        refine take_ (i := 3) (N := some 59) (v := ?_) (a' := ?_) #[true, true, true, true, false, false] rfl rfl (by kernel_rfl) (fun _ _ _ h => h) (Or.inl ⟨by rfl, ?_⟩) hHeld ?_ ?_
        rotate_left
        · rintro w' ⟨s0, s1⟩
          go_simp
          with_reducible rfl
        rotate_left
        · simp only [Act.put, List.setIfInBounds_toArray, List.set_cons_zero, List.set_cons_succ, i64_w, i32_w]
          rfl
        refine pure_ (i := 4) (N := some 60) (v := ?_) (a' := ?_) #[true, true, true, true, true, false] rfl rfl (by kernel_rfl) (fun _ _ _ h => h) (Or.inl ⟨by rfl, ?_⟩) ?_ ?_
        rotate_left
        · intro w'
          go_simp
          with_reducible rfl
        rotate_left
        · simp only [Act.put, List.setIfInBounds_toArray, List.set_cons_zero, List.set_cons_succ, i64_w, i32_w]
          rfl
        refine one_ (i := 5) (N := some 61) #[true, true, true, true, true, true] rfl rfl (by kernel_rfl) (by decide) (fun K hK => ?_)
        refine goes_ Tryd.func28 (by kernel_rfl) rfl #[.int .i64 sc, .string (a0.extract p a0.size)] (by rfl) rfl rfl (by (try simp only [List.map_toArray, List.map_cons, List.map_nil]); first | done | rfl) ?_
        with_reducible refine (letters_any sc (a0.extract p a0.size) W2).mono ?_
        rintro e w3 ⟨rfl, rfl⟩
        refine ⟨_, rfl, ?_⟩
        rw [HZ1.out]
        have HBB := Aside0.mk (((Below.refl _ W2).alloc (Nat.le_refl _) (.cells #[.int .i64 sc] 3)).alloc (by simp) (.cells #[.string (a0.extract p a0.size)] 9))
        have HF3 := Aside0.mk (HF1.out.below HBB.out)
        have HA3 := Aside0.mk (blk_below HA1.out HBB.out)
        have HC3 := Aside0.mk (blk_below HC1.out HBB.out)
        have HX3 := Aside0.mk (blk_alloc (blk_new W2 (.cells #[.int .i64 sc] 3)) (.cells #[.string (a0.extract p a0.size)] 9))
        have HY3 := Aside0.mk (blk_new (W2.alloc (.cells #[.int .i64 sc] 3)) (.cells #[.string (a0.extract p a0.size)] 9))
        have HZ3 := Aside0.mk (show ((W2.alloc (.cells #[.int .i64 sc] 3)).alloc (.cells #[.string (a0.extract p a0.size)] 9)).heap.size = rb + 3 from by rw [World.size_alloc, World.size_alloc, HZ1.out])
        rw [HZ1.out] at HX3
        rw [World.size_alloc, HZ1.out] at HY3
        generalize (W2.alloc (.cells #[.int .i64 sc] 3)).alloc (.cells #[.string (a0.extract p a0.size)] 9) = W3 at HF3 HA3 HC3 HX3 HY3 HZ3 ⊢
        clear HBB HF1 HA1 HC1
        refine hK.out _ _ ⟨(blk_cell HF3.out.nm 0).trans rfl, (blk_cell HA3.out 0).trans rfl⟩ (fun hHeld => ?_)
        clear hK K
        refine norm_ (a' := ?_) ?_ ?_
        rotate_left
        · show Act.put _ (some 61) _ = _
          simp only [Act.put, List.setIfInBounds_toArray, List.set_cons_zero, List.set_cons_succ, i64_w, i32_w]
          rfl
        refine done_ (by kernel_rfl) ?_
        clear hHeld
        gi_wp2
        refine wp_range (fun W => Below w.heap.size w W) (fun A B h hb => h.trans (hb.mono h.size)) (Ln.lenSaid w hT) (cb := rb + 1) (sb := rb + 1 + 1) (sc := sc) (s := a0.extract p a0.size) rfl (by omega) (by have := HZ3.out; omega) (by have := HZ3.out; omega) (by simp; omega) rfl
          (fun A v h => h.setCell (p := ⟨rb + 1 + 1, 0, none⟩) (by show w.heap.size ≤ rb + 1 + 1; omega) _) (fun A l o h hl => h.grown (grownBy_putObj' A l o) h.size (fun k e => by cases e; have := HZ3.out; omega))
          ⟨(blk_cell HX3.out 0).trans rfl, (blk_cell HY3.out 0).trans (by generalize a0.extract p a0.size = s; simp), blk_frozen HY3.out 0⟩ HF3.out.bx.bel
          (InvI a0 w w7.heap.size rb sc ds ws (.slice A1 ws.length c1) p) (fun c i W => c = .ret ∧ InvX a0 w w7.heap.size rb ds W) ?hIs ?hIb ?hIo ?hXo ?h0 ?a1 ?hassign ?hbody ?hdone ?hstop
        case hIs => exact fun i A v h => h.set hnb hrb2 (by omega) v
        case hIb => exact fun i A B h hb => h.below hb
        case hIo => exact fun i A l o h hl ho => h.put hnb hrb2 o (by have := HZ3.out; omega) ho
        case hXo => exact fun c i A l o h hl ho => ⟨h.1, h.2.put hnb hrb2 o (by have := HZ3.out; omega)⟩
        case h0 => exact ⟨0, HF3.out, HA3.out, HC3.out, by omega, by simp, by omega, by simpa using hrun⟩
        case hassign =>
          intro l x W K hK
          rw [fold_one]
          simp only [List.setIfInBounds_toArray, List.set_cons_zero, List.set_cons_succ]
          gi_wp2
          exact hK
        case hbody =>
          intro l i W hI hB hTW hpos hle
          obtain ⟨n, hF, hat, hcn, hn, hni, hpi, hrunI⟩ := hI
          obtain ⟨k, hk⟩ : ∃ k, Scr.len sc ((a0.extract p a0.size).data.toList.drop i) = k := ⟨_, rfl⟩
          rw [hk] at hpos hle ⊢
          rw [toList_extract, List.drop_drop] at hk
          have hsE : (a0.extract p a0.size).size = a0.size - p := by simp
          have ca : W.cell? ⟨w7.heap.size + 1, 0, none⟩ = some (.int .i64 ((p + i : Nat) : Int)) := (blk_cell hat 0).trans rfl
          have cc : W.cell? ⟨rb, 0, none⟩ = some (.int .i64 (n : Int)) := (blk_cell hcn 0).trans rfl
          have c10 : W.cell? ⟨w.heap.size, 0, none⟩ = some (.int .i64 0) := (blk_cell hF.bx.r1 0).trans rfl
          have c11 : W.cell? ⟨w.heap.size, 1, none⟩ = some (.slice none 0 0) := (blk_cell hF.bx.r1 1).trans rfl
          have c20 : W.cell? ⟨w.heap.size + 1, 0, none⟩ = some (.int .i64 0) := (blk_cell hF.bx.r2 0).trans rfl
          have c30 : W.cell? ⟨w.heap.size + 1 + 1, 0, none⟩ = some (.int .i64 0) := (blk_cell hF.bx.r3 0).trans rfl
          have f10 : ∀ i, W.frozen? ⟨w.heap.size, i, none⟩ = false := fun i => blk_frozen hF.bx.r1 i
          have f20 : ∀ i, W.frozen? ⟨w.heap.size + 1, i, none⟩ = false := fun i => blk_frozen hF.bx.r2 i
          have f30 : ∀ i, W.frozen? ⟨w.heap.size + 1 + 1, i, none⟩ = false := fun i => blk_frozen hF.bx.r3 i
          have cn0 : W.cell? ⟨w7.heap.size, 0, none⟩ = some (.int .i64 sc) := (blk_cell hF.nm 0).trans rfl
          have cn1 : W.cell? ⟨w7.heap.size, 1, none⟩ = some (.slice A1 ws.length c1) := (blk_cell hF.nm 1).trans rfl
          --<BODY
          clear hTW
          have HF := Aside0.mk hF
          have HA := Aside0.mk hat
          have HC := Aside0.mk hcn
          have HBx := Aside0.mk hB
          have HRI := Aside0.mk hrunI
          have hlimf : (n = 12 ∨ ws.length = 6) → script_Parse.f a0 = some (0, [], 2, (p : Int) + (i : Int)) := fun h => by
            rw [hrunI, Scr.R_lim _ _ _ _ _ _ (by omega) (by rcases h with h | h; exact .inl h; exact .inr (by simp [data, h]))]
            simp [parseRes]
          have hletf : ¬ (n = 12 ∨ ws.length = 6) → script_Parse.f a0 = some (parseRes sc (Scr.R sc (data ws) (n + 1) ((a0.data.toList.drop p).take (i + k)) (p + (i + k)) (a0.data.toList.drop (p + (i + k))))) := fun h => by
            rw [hrunI, Scr.R_letter _ _ _ _ _ _ (by omega) (by rintro (h' | h'); exact h (.inl h'); exact h (.inr (by simpa [data] using h'))), hk, List.drop_drop, List.take_add, List.drop_drop, Nat.add_assoc]
          clear hF hat hcn hB hrunI c10 c11 c20 c30 f10 f20 f30 hrun HF3 HA3 HC3 HX3 HY3
          have sm1 : ∀ f d t x ty ps af g, Oper.semAt (some l) f ⟨d, .load t x, ty, ps, af, g⟩ = execOp f ⟨d, .load t x, ty, ps, af, g⟩ := fun _ _ _ _ _ _ _ _ => rfl
          have sm2 : ∀ f d x ty ps af g, Oper.semAt (some l) f ⟨d, .move x, ty, ps, af, g⟩ = execOp f ⟨d, .move x, ty, ps, af, g⟩ := fun _ _ _ _ _ _ _ => rfl
          have sm3 : ∀ f d b t x y u ty ps af g, Oper.semAt (some l) f ⟨d, .binOp b t x y u, ty, ps, af, g⟩ = execOp f ⟨d, .binOp b t x y u, ty, ps, af, g⟩ := fun _ _ _ _ _ _ _ _ _ _ _ => rfl
          have sm4 : ∀ f d c ty ps af g, Oper.semAt (some l) f ⟨d, .call c, ty, ps, af, g⟩ = execOp f ⟨d, .call c, ty, ps, af, g⟩ := fun _ _ _ _ _ _ _ => rfl
          have sm5 : ∀ f d t x n ty ps af g, Oper.semAt (some l) f ⟨d, .fieldAddr t x n, ty, ps, af, g⟩ = execOp f ⟨d, .fieldAddr t x n, ty, ps, af, g⟩ := fun _ _ _ _ _ _ _ _ _ => rfl
          have sm6 : ∀ f d x y z ty ps af g, Oper.semAt (some l) f ⟨d, .pick x y z, ty, ps, af, g⟩ = execOp f ⟨d, .pick x y z, ty, ps, af, g⟩ := fun _ _ _ _ _ _ _ _ _ => rfl
          gi_wp2
          · rename_i hn12 K1 hK1
            have HLF := Aside0.mk (hlimf (.inl (by omega)))
            clear hn12
            refine startIn_ (n := 5) (S := fun w' => w'.cell? ⟨w7.heap.size + 1, 0, none⟩ = some (.int .i64 ((p + i : Nat) : Int))) (ds := [4]) #[false, false, false, false, false] (by kernel_rfl) rfl rfl (by kernel_rfl) (by rintro ⟨a', w', h'⟩; exact h'.elim) ca (fun hHeld => ?_)
            have HKO := Aside0.mk (KeepsOthers.drew W)
            replace HF := Aside0.mk (HF.out.below (below_drew (Below.refl _ _)))
            generalize W.drew = W2 at HF HKO hHeld ⊢
            have c10 : W2.cell? ⟨w.heap.size, 0, none⟩ = some (.int .i64 0) := (blk_cell HF.out.bx.r1 0).trans rfl
            have c11 : W2.cell? ⟨w.heap.size, 1, none⟩ = some (.slice none 0 0) := (blk_cell HF.out.bx.r1 1).trans rfl
            have c20 : W2.cell? ⟨w.heap.size + 1, 0, none⟩ = some (.int .i64 0) := (blk_cell HF.out.bx.r2 0).trans rfl
            have c30 : W2.cell? ⟨w.heap.size + 1 + 1, 0, none⟩ = some (.int .i64 0) := (blk_cell HF.out.bx.r3 0).trans rfl
            have f10 : ∀ i, W2.frozen? ⟨w.heap.size, i, none⟩ = false := fun i => blk_frozen HF.out.bx.r1 i
            have f20 : ∀ i, W2.frozen? ⟨w.heap.size + 1, i, none⟩ = false := fun i => blk_frozen HF.out.bx.r2 i
            have f30 : ∀ i, W2.frozen? ⟨w.heap.size + 1 + 1, i, none⟩ = false := fun i => blk_frozen HF.out.bx.r3 i
            refine pure_ (i := 0) (N := some 71) (v := ?_) (a' := ?_) #[true, false, false, false, false] rfl rfl (by kernel_rfl) (fun _ _ _ h => h) (Or.inl ⟨by rfl, ?_⟩) ?_ ?_
            rotate_left
            · intro w'
              go_simp
              with_reducible rfl
            rotate_left
            · simp only [Act.put, List.setIfInBounds_toArray, List.set_cons_zero, List.set_cons_succ, i64_w, i32_w]
              rfl
            refine take_ (i := 1) (N := some 72) (v := ?_) (a' := ?_) #[true, true, false, false, false] rfl rfl (by kernel_rfl) (fun _ _ _ h => h) (Or.inl ⟨by rfl, ?_⟩) hHeld ?_ ?_
            rotate_left
            · rintro w' s0
              go_simp
              with_reducible rfl
            rotate_left
            · simp only [Act.put, List.setIfInBounds_toArray, List.set_cons_zero, List.set_cons_succ, i64_w, i32_w]
              rfl
            refine one_ (i := 2) (N := none) #[true, true, true, false, false] rfl rfl (by kernel_rfl) (by decide) (fun K hK => ?_)
            refine skip_ (w1 := ?_) (by rfl) rfl ?_ ?_
            rotate_left
            · go_simp
              rfl
            refine hK.out _ _ ((World.cell?_setCell_other _ ⟨w.heap.size, 1, none⟩ ⟨w7.heap.size + 1, 0, none⟩ _ (fun e => by have := congrArg Addr.block e; simp at this; omega)).trans ((World.cell?_setCell_other _ ⟨w.heap.size, 0, none⟩ ⟨w7.heap.size + 1, 0, none⟩ _ (fun e => by have := congrArg Addr.block e; simp at this; omega)).trans hHeld)) (fun hHeld => ?_)
            clear hK K
            refine one_ (i := 3) (N := none) #[true, true, true, true, false] rfl rfl (by kernel_rfl) (by decide) (fun K hK => ?_)
            refine skip_ (w1 := ?_) (by rfl) rfl ?_ ?_
            rotate_left
            · go_simp
              rfl
            refine hK.out _ _ ((World.cell?_setCell_other _ ⟨w.heap.size + 1, 0, none⟩ ⟨w7.heap.size + 1, 0, none⟩ _ (fun e => by have := congrArg Addr.block e; simp at this; omega)).trans hHeld) (fun hHeld => ?_)
            clear hK K
            refine last_ (i := 4) (N := none) #[true, true, true, true, true] rfl rfl (by kernel_rfl) (by decide) (fun K hK => ?_)
            refine skip_ (w1 := ?_) (by rfl) rfl ?_ ?_
            rotate_left
            · go_simp
              rfl
            refine hK.out _ _ ?_
            clear hK K
            refine done_ (by kernel_rfl) ?_
            clear hHeld c10 c11 c20 c30 f10 f20 f30
            gi_wp2
            exact ⟨HKO.out.trans (keeps_four _ _ _ _ _ _ _ _ _), rfl, InvX_of HF.out hnb HLF.out⟩
          · rename_i hn12 hw6 K1 hK1
            have HLF := Aside0.mk (hlimf (.inr (by rcases hw6 with h | h; exact absurd (beq_iff_eq.1 h) hn12; have := beq_iff_eq.1 h; omega)))
            clear hn12 hw6
            refine startIn_ (n := 5) (S := fun w' => w'.cell? ⟨w7.heap.size + 1, 0, none⟩ = some (.int .i64 ((p + i : Nat) : Int))) (ds := [4]) #[false, false, false, false, false] (by kernel_rfl) rfl rfl (by kernel_rfl) (by rintro ⟨a', w', h'⟩; exact h'.elim) ca (fun hHeld => ?_)
            have HKO := Aside0.mk (KeepsOthers.drew W)
            replace HF := Aside0.mk (HF.out.below (below_drew (Below.refl _ _)))
            generalize W.drew = W2 at HF HKO hHeld ⊢
            have c10 : W2.cell? ⟨w.heap.size, 0, none⟩ = some (.int .i64 0) := (blk_cell HF.out.bx.r1 0).trans rfl
            have c11 : W2.cell? ⟨w.heap.size, 1, none⟩ = some (.slice none 0 0) := (blk_cell HF.out.bx.r1 1).trans rfl
            have c20 : W2.cell? ⟨w.heap.size + 1, 0, none⟩ = some (.int .i64 0) := (blk_cell HF.out.bx.r2 0).trans rfl
            have c30 : W2.cell? ⟨w.heap.size + 1 + 1, 0, none⟩ = some (.int .i64 0) := (blk_cell HF.out.bx.r3 0).trans rfl
            have f10 : ∀ i, W2.frozen? ⟨w.heap.size, i, none⟩ = false := fun i => blk_frozen HF.out.bx.r1 i
            have f20 : ∀ i, W2.frozen? ⟨w.heap.size + 1, i, none⟩ = false := fun i => blk_frozen HF.out.bx.r2 i
            have f30 : ∀ i, W2.frozen? ⟨w.heap.size + 1 + 1, i, none⟩ = false := fun i => blk_frozen HF.out.bx.r3 i
            refine pure_ (i := 0) (N := some 71) (v := ?_) (a' := ?_) #[true, false, false, false, false] rfl rfl (by kernel_rfl) (fun _ _ _ h => h) (Or.inl ⟨by rfl, ?_⟩) ?_ ?_
            rotate_left
            · intro w'
              go_simp
              with_reducible rfl
            rotate_left
            · simp only [Act.put, List.setIfInBounds_toArray, List.set_cons_zero, List.set_cons_succ, i64_w, i32_w]
              rfl
            refine take_ (i := 1) (N := some 72) (v := ?_) (a' := ?_) #[true, true, false, false, false] rfl rfl (by kernel_rfl) (fun _ _ _ h => h) (Or.inl ⟨by rfl, ?_⟩) hHeld ?_ ?_
            rotate_left
            · rintro w' s0
              go_simp
              with_reducible rfl
            rotate_left
            · simp only [Act.put, List.setIfInBounds_toArray, List.set_cons_zero, List.set_cons_succ, i64_w, i32_w]
              rfl
            refine one_ (i := 2) (N := none) #[true, true, true, false, false] rfl rfl (by kernel_rfl) (by decide) (fun K hK => ?_)
            refine skip_ (w1 := ?_) (by rfl) rfl ?_ ?_
            rotate_left
            · go_simp
              rfl
            refine hK.out _ _ ((World.cell?_setCell_other _ ⟨w.heap.size, 1, none⟩ ⟨w7.heap.size + 1, 0, none⟩ _ (fun e => by have := congrArg Addr.block e; simp at this; omega)).trans ((World.cell?_setCell_other _ ⟨w.heap.size, 0, none⟩ ⟨w7.heap.size + 1, 0, none⟩ _ (fun e => by have := congrArg Addr.block e; simp at this; omega)).trans hHeld)) (fun hHeld => ?_)
            clear hK K
            refine one_ (i := 3) (N := none) #[true, true, true, true, false] rfl rfl (by kernel_rfl) (by decide) (fun K hK => ?_)
            refine skip_ (w1 := ?_) (by rfl) rfl ?_ ?_
            rotate_left
            · go_simp
              rfl
            refine hK.out _ _ ((World.cell?_setCell_other _ ⟨w.heap.size + 1, 0, none⟩ ⟨w7.heap.size + 1, 0, none⟩ _ (fun e => by have := congrArg Addr.block e; simp at this; omega)).trans hHeld) (fun hHeld => ?_)
            clear hK K
            refine last_ (i := 4) (N := none) #[true, true, true, true, true] rfl rfl (by kernel_rfl) (by decide) (fun K hK => ?_)
            refine skip_ (w1 := ?_) (by rfl) rfl ?_ ?_
            rotate_left
            · go_simp
              rfl
            refine hK.out _ _ ?_
            clear hK K
            refine done_ (by kernel_rfl) ?_
            clear hHeld c10 c11 c20 c30 f10 f20 f30
            gi_wp2
            exact ⟨HKO.out.trans (keeps_four _ _ _ _ _ _ _ _ _), rfl, InvX_of HF.out hnb HLF.out⟩
          · rename_i hn12 hw6
            have hw6 : ws.length ≠ 6 := fun h => by rw [h] at hw6; exact absurd hw6.2 (by decide)
            have HLF := Aside0.mk (hletf (by omega))
            have HNL := Aside0.mk (show n ≤ 11 by omega)
            clear hn12 hw6
            have hxz : ((a0.extract p a0.size).extract i (i + k)).size = k := by simp at hle ⊢; omega
            generalize (a0.extract p a0.size).extract i (i + k) = xx at hxz ⊢
            refine startIn_ (n := 8) (S := fun w' => w'.cell? ⟨rb, 0, none⟩ = some (.int .i64 (n : Int))) (ds := [7]) #[false, false, false, false, false, false, false, false] (by kernel_rfl) rfl rfl (by kernel_rfl) (by rintro ⟨a', w', h'⟩; exact h'.elim) cc (fun hHeld => ?_)
            have HKO := Aside0.mk (KeepsOthers.drew W)
            replace HF := Aside0.mk (HF.out.below (below_drew (Below.refl _ _)))
            replace HA := Aside0.mk (blk_drew HA.out)
            replace HC := Aside0.mk (blk_drew HC.out)
            replace HBx := Aside0.mk (HBx.out.below (below_drew (Below.refl _ _)))
            generalize W.drew = W2 at HF HA HC HBx HKO hHeld ⊢
            have ca2 : W2.cell? ⟨w7.heap.size + 1, 0, none⟩ = some (.int .i64 ((p + i : Nat) : Int)) := (blk_cell HA.out 0).trans rfl
            have fa2 : ∀ i, W2.frozen? ⟨w7.heap.size + 1, i, none⟩ = false := fun i => blk_frozen HA.out i
            have fc2 : ∀ i, W2.frozen? ⟨rb, i, none⟩ = false := fun i => blk_frozen HC.out i
            refine pure_ (i := 1) (N := some 74) (v := ?_) (a' := ?_) #[false, true, false, false, false, false, false, false] rfl rfl (by kernel_rfl) (fun _ _ _ h => h) (Or.inl ⟨by rfl, ?_⟩) ?_ ?_
            rotate_left
            · intro w'
              go_simp
              with_reducible rfl
            rotate_left
            · simp only [Act.put, List.setIfInBounds_toArray, List.set_cons_zero, List.set_cons_succ, i64_w, i32_w]
              rfl
            refine pure_ (i := 2) (N := some 75) (v := ?_) (a' := ?_) #[false, true, true, false, false, false, false, false] rfl rfl (by kernel_rfl) (fun _ _ _ h => h) (Or.inl ⟨by rfl, ?_⟩) ?_ ?_
            rotate_left
            · intro w'
              go_simp
              with_reducible rfl
            rotate_left
            · simp only [Act.put, List.setIfInBounds_toArray, List.set_cons_zero, List.set_cons_succ, i64_w, i32_w]
              rfl
            refine take_ (i := 4) (N := some 77) (v := ?_) (a' := ?_) #[false, true, true, false, true, false, false, false] rfl rfl (by kernel_rfl) (fun _ _ _ h => h) (Or.inl ⟨by rfl, ?_⟩) hHeld ?_ ?_
            rotate_left
            · rintro w' s0
              go_simp
              with_reducible rfl
            rotate_left
            · simp only [Act.put, List.setIfInBounds_toArray, List.set_cons_zero, List.set_cons_succ, i64_w, i32_w]
              rfl
            refine pure_ (i := 5) (N := some 78) (v := ?_) (a' := ?_) #[false, true, true, false, true, true, false, false] rfl rfl (by kernel_rfl) (fun _ _ _ h => h) (Or.inl ⟨by rfl, ?_⟩) ?_ ?_
            rotate_left
            · intro w'
              go_simp
              with_reducible rfl
            rotate_left
            · simp only [Act.put, List.setIfInBounds_toArray, List.set_cons_zero, List.set_cons_succ, i64_w, i32_w]
              rfl
            refine one_ (i := 0) (N := some 73) #[true, true, true, false, true, true, false, false] rfl rfl (by kernel_rfl) (by decide) (fun K hK => ?_)
            refine value_ (w1 := ?_) (v := ?_) (by rfl) rfl ?_ ?_
            rotate_left 2
            · go_simp
              first | rfl | (constructor <;> rfl)
            refine hK.out _ _ hHeld (fun hHeld => ?_)
            clear hK K
            refine norm_ (a' := ?_) ?_ ?_
            rotate_left
            · show Act.put _ (some 73) _ = _
              simp only [Act.put, List.setIfInBounds_toArray, List.set_cons_zero, List.set_cons_succ, i64_w, i32_w]
              rfl
            refine pure_ (i := 3) (N := some 76) (v := ?_) (a' := ?_) #[true, true, true, true, true, true, false, false] rfl rfl (by kernel_rfl) (fun _ _ _ h => h) (Or.inl ⟨by rfl, ?_⟩) ?_ ?_
            rotate_left
            · intro w'
              go_simp
              with_reducible rfl
            rotate_left
            · simp only [Act.put, List.setIfInBounds_toArray, List.set_cons_zero, List.set_cons_succ, i64_w, i32_w]
              rfl
            refine one_ (i := 6) (N := none) #[true, true, true, true, true, true, true, false] rfl rfl (by kernel_rfl) (by decide) (fun K hK => ?_)
            refine skip_ (w1 := ?_) (by rfl) rfl ?_ ?_
            rotate_left
            · go_simp
              rfl
            refine hK.out _ _ ((World.cell?_setCell_other _ ⟨w7.heap.size + 1, 0, none⟩ ⟨rb, 0, none⟩ _ (fun e => by have := congrArg Addr.block e; simp at this; omega)).trans hHeld) (fun hHeld => ?_)
            clear hK K
            refine last_ (i := 7) (N := none) #[true, true, true, true, true, true, true, true] rfl rfl (by kernel_rfl) (by decide) (fun K hK => ?_)
            refine skip_ (w1 := ?_) (by rfl) rfl ?_ ?_
            rotate_left
            · go_simp
              rfl
            refine hK.out _ _ ?_
            clear hK K
            refine done_ (by kernel_rfl) ?_
            clear hHeld ca2 fa2 fc2
            have hle2 : p + (i + k) ≤ a0.size := by rw [hsE] at hle; omega
            gi_wp2
            exact ⟨HKO.out.trans ((KeepsOthers.setCell _ _ _).trans (KeepsOthers.setCell _ _ _)), InvI_next hnb hrb2 HF.out HA.out HC.out HNL.out hpos hle2 hs2 HLF.out HBx.out⟩
          --BODY>
        case hdone =>
          intro D i W hD hI hz hK
          obtain ⟨n, hF, hat, hcn, hn, hni, hpi, hrunI⟩ := hI
          rw [toList_extract, List.drop_drop] at hz
          have hD3 := HZ3.out
          have cc : W.cell? ⟨rb, 0, none⟩ = some (.int .i64 (n : Int)) := (blk_cell hcn 0).trans rfl
          have HF := Aside0.mk hF
          have HA := Aside0.mk hat
          have HRI := Aside0.mk hrunI
          have HK := Aside0.mk hK
          have HZ := Aside0.mk hz
          have HNI := Aside0.mk hni
          clear hF hat hcn hrunI hK hz hni hrun HF3 HA3 HC3 HX3 HY3
          have hm2 : w7.heap.size + 2 ≤ W.heap.size := by have := HF.out.bx.r1; have h1 := blk_lt HK.out; omega
          have hndz : (D :: ds).Nodup := HF.out.nodup hnd (by omega)
          have hDn : w7.heap.size + 1 < D := by omega
          by_cases hn0 : n = 0
          · --<NZ
            subst hn0
            have hwz := hws
            have HFz := Aside0.mk (HF.out.cons hDn HK.out)
            have HAz := HA
            clear HF HA HK HNI
            obtain ⟨ws2, hw2⟩ : ∃ ws2, ws2 = ws := ⟨_, rfl⟩
            have HFL : Aside0 (data ws2 = Scr.flush (data ws) 0 ((a0.data.toList.drop p).take i)) := ⟨by rw [hw2]; rfl⟩
            rw [← hw2] at HFz hwz
            clear hw2
            have hws2 : ws2.length ≤ p + i := by omega
            generalize hWz : W = Wz at HFz HAz cc hm2 ⊢
            generalize hA' : A1 = A2 at HFz
            generalize hc' : c1 = c2 at HFz
            clear hWz hA' hc'
            by_cases hend : p + i = a0.size
            · have HE := Aside0.mk (step_end HRI.out hend HFL.out)
              have ca : Wz.cell? ⟨w7.heap.size + 1, 0, none⟩ = some (.int .i64 ((p + i : Nat) : Int)) := (blk_cell HAz.out 0).trans rfl
              rw [hend] at ca
              have c10 : Wz.cell? ⟨w.heap.size, 0, none⟩ = some (.int .i64 0) := (blk_cell HFz.out.bx.r1 0).trans rfl
              have c11 : Wz.cell? ⟨w.heap.size, 1, none⟩ = some (.slice none 0 0) := (blk_cell HFz.out.bx.r1 1).trans rfl
              have c20 : Wz.cell? ⟨w.heap.size + 1, 0, none⟩ = some (.int .i64 0) := (blk_cell HFz.out.bx.r2 0).trans rfl
              have c30 : Wz.cell? ⟨w.heap.size + 1 + 1, 0, none⟩ = some (.int .i64 0) := (blk_cell HFz.out.bx.r3 0).trans rfl
              have f10 : ∀ i, Wz.frozen? ⟨w.heap.size, i, none⟩ = false := fun i => blk_frozen HFz.out.bx.r1 i
              have f20 : ∀ i, Wz.frozen? ⟨w.heap.size + 1, i, none⟩ = false := fun i => blk_frozen HFz.out.bx.r2 i
              have f30 : ∀ i, Wz.frozen? ⟨w.heap.size + 1 + 1, i, none⟩ = false := fun i => blk_frozen HFz.out.bx.r3 i
              have cn0 : Wz.cell? ⟨w7.heap.size, 0, none⟩ = some (.int .i64 sc) := (blk_cell HFz.out.nm 0).trans rfl
              have cn1 : Wz.cell? ⟨w7.heap.size, 1, none⟩ = some (.slice A2 ws2.length c2) := (blk_cell HFz.out.nm 1).trans rfl
              have hHE := HE.out
              clear HE
              by_cases hw0 : ws2.length = 0
              · rw [if_pos hw0] at hHE
                have HE := Aside0.mk hHE
                clear hHE
                gi_wp2
                exact leaveF a0 w (ds := D :: ds) rfl rfl rfl HE.out HFz.out hnb (Kd.R_nil _ _ _ _ _) hndz
              · rw [if_neg hw0] at hHE
                have HE := Aside0.mk hHE
                clear hHE
                gi_wp2
                exact leaveF a0 w (ds := D :: ds) rfl rfl rfl HE.out HFz.out hnb HFz.out.rows hndz
            · have hlt : p + i < a0.size := by omega
              clear hend
              have ca : Wz.cell? ⟨w7.heap.size + 1, 0, none⟩ = some (.int .i64 ((p + i : Nat) : Int)) := (blk_cell HAz.out 0).trans rfl
              have fa : ∀ i, Wz.frozen? ⟨w7.heap.size + 1, i, none⟩ = false := fun i => blk_frozen HAz.out i
              gi_wp2
              · rename_i hbyte K1 hK1
                have HE := Aside0.mk (step_bad HRI.out HZ.out hlt hbyte)
                clear hbyte
                refine wpIn_wide.2 ?_
                refine start_ (n := 5) (S := fun w' => w'.cell? ⟨w7.heap.size + 1, 0, none⟩ = some (.int .i64 ((p + i : Nat) : Int))) (ds := [4]) #[false, false, false, false, false] (by kernel_rfl) rfl rfl ca (fun hHeld => ?_)
                replace HFz := Aside0.mk (HFz.out.below (below_drew (Below.refl _ _)))
                clear ca fa HAz
                generalize Wz.drew = W2 at HFz hHeld ⊢
                have c10 : W2.cell? ⟨w.heap.size, 0, none⟩ = some (.int .i64 0) := (blk_cell HFz.out.bx.r1 0).trans rfl
                have c11 : W2.cell? ⟨w.heap.size, 1, none⟩ = some (.slice none 0 0) := (blk_cell HFz.out.bx.r1 1).trans rfl
                have c20 : W2.cell? ⟨w.heap.size + 1, 0, none⟩ = some (.int .i64 0) := (blk_cell HFz.out.bx.r2 0).trans rfl
                have c30 : W2.cell? ⟨w.heap.size + 1 + 1, 0, none⟩ = some (.int .i64 0) := (blk_cell HFz.out.bx.r3 0).trans rfl
                have f10 : ∀ i, W2.frozen? ⟨w.heap.size, i, none⟩ = false := fun i => blk_frozen HFz.out.bx.r1 i
                have f20 : ∀ i, W2.frozen? ⟨w.heap.size + 1, i, none⟩ = false := fun i => blk_frozen HFz.out.bx.r2 i
                have f30 : ∀ i, W2.frozen? ⟨w.heap.size + 1 + 1, i, none⟩ = false := fun i => blk_frozen HFz.out.bx.r3 i
                refine pure_ (i := 0) (N := some 100) (v := ?_) (a' := ?_) #[true, false, false, false, false] rfl rfl (by kernel_rfl) (fun _ _ _ h => h) (Or.inl ⟨by rfl, ?_⟩) ?_ ?_
                rotate_left
                · intro w'
                  go_simp
                  with_reducible rfl
                rotate_left
                · simp only [Act.put, List.setIfInBounds_toArray, List.set_cons_zero, List.set_cons_succ, i64_w, i32_w]
                  rfl
                refine take_ (i := 1) (N := some 101) (v := ?_) (a' := ?_) #[true, true, false, false, false] rfl rfl (by kernel_rfl) (fun _ _ _ h => h) (Or.inl ⟨by rfl, ?_⟩) hHeld ?_ ?_
                rotate_left
                · rintro w' s0
                  go_simp
                  with_reducible rfl
                rotate_left
                · simp only [Act.put, List.setIfInBounds_toArray, List.set_cons_zero, List.set_cons_succ, i64_w, i32_w]
                  rfl
                refine one_ (i := 2) (N := none) #[true, true, true, false, false] rfl rfl (by kernel_rfl) (by decide) (fun K hK => ?_)
                refine skip_ (w1 := ?_) (by rfl) rfl ?_ ?_
                rotate_left
                · go_simp
                  rfl
                refine hK.out _ _ ((World.cell?_setCell_other _ ⟨w.heap.size, 1, none⟩ ⟨w7.heap.size + 1, 0, none⟩ _ (fun e => by have := congrArg Addr.block e; simp at this; omega)).trans ((World.cell?_setCell_other _ ⟨w.heap.size, 0, none⟩ ⟨w7.heap.size + 1, 0, none⟩ _ (fun e => by have := congrArg Addr.block e; simp at this; omega)).trans hHeld)) (fun hHeld => ?_)
                clear hK K
                refine one_ (i := 3) (N := none) #[true, true, true, true, false] rfl rfl (by kernel_rfl) (by decide) (fun K hK => ?_)
                refine skip_ (w1 := ?_) (by rfl) rfl ?_ ?_
                rotate_left
                · go_simp
                  rfl
                refine hK.out _ _ ((World.cell?_setCell_other _ ⟨w.heap.size + 1, 0, none⟩ ⟨w7.heap.size + 1, 0, none⟩ _ (fun e => by have := congrArg Addr.block e; simp at this; omega)).trans hHeld) (fun hHeld => ?_)
                clear hK K
                refine last_ (i := 4) (N := none) #[true, true, true, true, true] rfl rfl (by kernel_rfl) (by decide) (fun K hK => ?_)
                refine skip_ (w1 := ?_) (by rfl) rfl ?_ ?_
                rotate_left
                · go_simp
                  rfl
                refine hK.out _ _ ?_
                clear hK K
                refine done_ (by kernel_rfl) ?_
                clear hHeld c10 c11 c20 c30 f10 f20 f30
                gi_wp2
                exact leaveF a0 w (ds := D :: ds) rfl rfl rfl HE.out HFz.out hnb (Kd.R_nil _ _ _ _ _) hndz
              · rename_i hbyte
                have HE := step_blank HRI.out HFL.out hlt hbyte
                have HS := HFz.out.set hnb (.inl rfl) hm2 (.int .i64 ((p : Int) + (i : Int) + 1))
                have hA9 : (Wz.setCell ⟨w7.heap.size + 1, 0, none⟩ (.int .i64 ((p : Int) + (i : Int) + 1))).heap[w7.heap.size + 1]? = some (.cells #[.int .i64 ((p + i + 1 : Nat) : Int)] 3 (0, 0)) := blk_put HAz.out 0 _ rfl
                refine ⟨InvO_mk (ds := D :: ds) (p + i + 1) (by kernel_rfl) HS.norm hA9 hndz (by omega) hlt HE, ?_⟩
                rw [atBox_eq hA9, HMU.out]
                omega
            --NZ>
          · have hnp : (0 : Int) < (n : Int) := by omega
            have hip : 0 < i := by have := HNI.out; omega
            gi_wp2
            refine wpIn_wide.2 ?_
            have HM22 := hm2
            refine start_ (n := 10) (S := fun w' => w'.cell? ⟨w7.heap.size, 1, none⟩ = some (.slice A1 ws.length c1) ∧ w'.cell? ⟨w7.heap.size + 1, 0, none⟩ = some (.int .i64 ((p + i : Nat) : Int))) (ds := [9]) #[false, false, false, false, false, false, false, false, false, false] (by kernel_rfl) rfl rfl ⟨(blk_cell HF.out.nm 1).trans rfl, (blk_cell HA.out 0).trans rfl⟩ (fun hHeld => ?_)
            replace HF := Aside0.mk (HF.out.below (below_drew (Below.refl _ _)))
            replace HA := Aside0.mk (blk_drew HA.out)
            replace HK := Aside0.mk (blk_drew HK.out)
            replace HM22 := Aside0.mk (show w7.heap.size + 2 ≤ W.drew.heap.size from HM22)
            clear hm2 cc
            generalize W.drew = W2 at HF HA HK HM22 hHeld ⊢
            refine pure_ (i := 0) (N := some 81) (v := ?_) (a' := ?_) #[true, false, false, false, false, false, false, false, false, false] rfl rfl (by kernel_rfl) (fun _ _ _ h => h) (Or.inl ⟨by rfl, ?_⟩) ?_ ?_
            rotate_left
            · intro w'
              go_simp
              with_reducible rfl
            rotate_left
            · simp only [Act.put, List.setIfInBounds_toArray, List.set_cons_zero, List.set_cons_succ, i64_w, i32_w]
              rfl
            refine take_ (i := 1) (N := some 82) (v := ?_) (a' := ?_) #[true, true, false, false, false, false, false, false, false, false] rfl rfl (by kernel_rfl) (fun _ _ _ h => h) (Or.inl ⟨by rfl, ?_⟩) hHeld ?_ ?_
            rotate_left
            · rintro w' ⟨s0, s1⟩
              go_simp
              with_reducible rfl
            rotate_left
            · simp only [Act.put, List.setIfInBounds_toArray, List.set_cons_zero, List.set_cons_succ, i64_w, i32_w]
              rfl
            refine pure_ (i := 2) (N := some 83) (v := ?_) (a' := ?_) #[true, true, true, false, false, false, false, false, false, false] rfl rfl (by kernel_rfl) (fun _ _ _ h => h) (Or.inl ⟨by rfl, ?_⟩) ?_ ?_
            rotate_left
            · intro w'
              go_simp
              with_reducible rfl
            rotate_left
            · simp only [Act.put, List.setIfInBounds_toArray, List.set_cons_zero, List.set_cons_succ, i64_w, i32_w]
              rfl
            refine pure_ (i := 3) (N := some 84) (v := ?_) (a' := ?_) #[true, true, true, true, false, false, false, false, false, false] rfl rfl (by kernel_rfl) (fun _ _ _ h => h) (Or.inl ⟨by rfl, ?_⟩) ?_ ?_
            rotate_left
            · intro w'
              go_simp
              with_reducible rfl
            rotate_left
            · simp only [Act.put, List.setIfInBounds_toArray, List.set_cons_zero, List.set_cons_succ, i64_w, i32_w]
              rfl
            refine take_ (i := 4) (N := some 85) (v := ?_) (a' := ?_) #[true, true, true, true, true, false, false, false, false, false] rfl rfl (by kernel_rfl) (fun _ _ _ h => h) (Or.inl ⟨by rfl, ?_⟩) hHeld ?_ ?_
            rotate_left
            · rintro w' ⟨s0, s1⟩
              go_simp
              with_reducible rfl
            rotate_left
            · simp only [Act.put, List.setIfInBounds_toArray, List.set_cons_zero, List.set_cons_succ, i64_w, i32_w]
              rfl
            refine pure_ (i := 5) (N := some 86) (v := .string (a0.extract p (p + i))) (a' := ?_) #[true, true, true, true, true, true, false, false, false, false] rfl rfl (by kernel_rfl) (fun _ _ _ h => h) (Or.inl ⟨by rfl, fun w' => by go_simp; rw [if_pos (by omega), if_pos (by omega), show ((p : Int) + (i : Int)).toNat = p + i from by omega]⟩) ?_ ?_
            rotate_left
            · simp only [Act.put, List.setIfInBounds_toArray, List.set_cons_zero, List.set_cons_succ, i64_w, i32_w]
              rfl
            refine one_ (i := 6) (N := some 87) #[true, true, true, true, true, true, true, false, false, false] rfl rfl (by kernel_rfl) (by decide) (fun K hK => ?_)
            refine value_ (w1 := ?_) (v := ?_) (by rfl) rfl ?_ ?_
            rotate_left 2
            · go_simp
              first | rfl | (constructor <;> rfl)
            refine hK.out _ _ ⟨(blk_cell (blk_alloc HF.out.nm _) 1).trans rfl, (blk_cell (blk_alloc HA.out _) 0).trans rfl⟩ (fun hHeld => ?_)
            clear hK K
            refine norm_ (a' := ?_) ?_ ?_
            rotate_left
            · show Act.put _ (some 87) _ = _
              simp only [Act.put, List.setIfInBounds_toArray, List.set_cons_zero, List.set_cons_succ, i64_w, i32_w]
              rfl
            refine one_ (i := 7) (N := some 88) #[true, true, true, true, true, true, true, true, false, false] rfl rfl (by kernel_rfl) (by decide) (fun K hK => ?_)
            refine Kd.R_append_step Kd.string (w0 := w) w.heap.size (by rfl) (.tmp 82) (.tmp 87) 22 9 (.string ⟨#[]⟩) 16 rfl Tryd.underlying22 info9 rfl (by decide) (by omega) (.slice A1 ws.length c1) ws (a0.extract p (p + i)) [.string (a0.extract p (p + i))] (fun k => w7.heap.size + 2 ≤ k) (fun _ => False) rfl rfl rfl (fun _ hk => hk.elim) (fun q hq => by have := HM22.out; omega) (Kd.R_mono HF.out.rows (fun k hk => hk.1)) HF.out.bx.bel (below_size HF.out.bx.bel) (by omega) ?_
            intro v1 w3 ho hb hg hat3
            have HP := Aside0.mk (Fr_app HF.out hnb ho hb hg)
            have hfar : ∀ q, q < w7.heap.size + 2 → some q ≠ (Value.slice A1 ws.length c1).ownBlock := fun q hq e => by have := HF.out.rows.1 q e.symm; omega
            have hs3 : w3.cell? ⟨w7.heap.size, 1, none⟩ = some (.slice A1 ws.length c1) ∧ w3.cell? ⟨w7.heap.size + 1, 0, none⟩ = some (.int .i64 ((p + i : Nat) : Int)) := ⟨(blk_cell (blk_grown HF.out.nm hg (hfar _ (by omega))) 1).trans rfl, (blk_cell (blk_grown HA.out hg (hfar _ (by omega))) 0).trans rfl⟩
            have hf3 : ∀ i, w3.frozen? ⟨w7.heap.size, i, none⟩ = false := fun i => blk_frozen (blk_grown HF.out.nm hg (hfar _ (by omega))) i
            clear hfar hg hb hat3
            obtain ⟨A2, c2, ev'⟩ := Kd.R_slice ho
            have ev : v1 = .slice A2 (ws.length + 1) c2 := by rw [ev', List.length_append]; rfl
            clear ev'
            subst ev
            clear ho
            refine hK.out _ _ hs3 (fun hHeld => ?_)
            clear hK K
            refine norm_ (a' := ?_) ?_ ?_
            rotate_left
            · show Act.put _ (some 88) _ = _
              simp only [Act.put, List.setIfInBounds_toArray, List.set_cons_zero, List.set_cons_succ, i64_w, i32_w]
              rfl
            refine pure_ (i := 8) (N := some 89) (v := ?_) (a' := ?_) #[true, true, true, true, true, true, true, true, true, false] rfl rfl (by kernel_rfl) (fun _ _ _ h => h) (Or.inl ⟨by rfl, ?_⟩) ?_ ?_
            rotate_left
            · intro w'
              go_simp
              with_reducible rfl
            rotate_left
            · simp only [Act.put, List.setIfInBounds_toArray, List.set_cons_zero, List.set_cons_succ, i64_w, i32_w]
              rfl
            refine last_ (i := 9) (N := none) #[true, true, true, true, true, true, true, true, true, true] rfl rfl (by kernel_rfl) (by decide) (fun K hK => ?_)
            refine skip_ (w1 := ?_) (by rfl) rfl ?_ ?_
            rotate_left
            · go_simp
              rfl
            refine hK.out _ _ ?_
            clear hK K
            refine done_ (by kernel_rfl) ?_
            have HFz := Aside0.mk (HP.out.1.cons hDn (HP.out.2.2 D _ HK.out))
            have HAz := Aside0.mk (HP.out.2.1 _ HA.out)
            have hm2 : w7.heap.size + 2 ≤ (w3.setCell ⟨w7.heap.size, 1, none⟩ (.slice A2 (ws.length + 1) c2)).heap.size := by have := blk_lt HAz.out; omega
            clear HF HA HK HNI HP hs3 hf3 hHeld
            have HFL : Aside0 (data (ws ++ [a0.extract p (p + i)]) = Scr.flush (data ws) n ((a0.data.toList.drop p).take i)) := ⟨by unfold Scr.flush; rw [if_neg hn0]; simp [data, extract_mid]⟩
            have hws2 : (ws ++ [a0.extract p (p + i)]).length ≤ p + i := by simp; omega
            have hl2 : (ws ++ [a0.extract p (p + i)]).length = ws.length + 1 := by simp
            generalize w3.setCell ⟨w7.heap.size, 1, none⟩ (.slice A2 (ws.length + 1) c2) = Wz at HFz HAz hm2 ⊢
            rw [← hl2] at HFz
            clear hl2
            generalize ws ++ [a0.extract p (p + i)] = ws2 at HFz HFL hws2
            by_cases hend : p + i = a0.size
            · have HE := Aside0.mk (step_end HRI.out hend HFL.out)
              have ca : Wz.cell? ⟨w7.heap.size + 1, 0, none⟩ = some (.int .i64 ((p + i : Nat) : Int)) := (blk_cell HAz.out 0).trans rfl
              rw [hend] at ca
              have c10 : Wz.cell? ⟨w.heap.size, 0, none⟩ = some (.int .i64 0) := (blk_cell HFz.out.bx.r1 0).trans rfl
              have c11 : Wz.cell? ⟨w.heap.size, 1, none⟩ = some (.slice none 0 0) := (blk_cell HFz.out.bx.r1 1).trans rfl
              have c20 : Wz.cell? ⟨w.heap.size + 1, 0, none⟩ = some (.int .i64 0) := (blk_cell HFz.out.bx.r2 0).trans rfl
              have c30 : Wz.cell? ⟨w.heap.size + 1 + 1, 0, none⟩ = some (.int .i64 0) := (blk_cell HFz.out.bx.r3 0).trans rfl
              have f10 : ∀ i, Wz.frozen? ⟨w.heap.size, i, none⟩ = false := fun i => blk_frozen HFz.out.bx.r1 i
              have f20 : ∀ i, Wz.frozen? ⟨w.heap.size + 1, i, none⟩ = false := fun i => blk_frozen HFz.out.bx.r2 i
              have f30 : ∀ i, Wz.frozen? ⟨w.heap.size + 1 + 1, i, none⟩ = false := fun i => blk_frozen HFz.out.bx.r3 i
              have cn0 : Wz.cell? ⟨w7.heap.size, 0, none⟩ = some (.int .i64 sc) := (blk_cell HFz.out.nm 0).trans rfl
              have cn1 : Wz.cell? ⟨w7.heap.size, 1, none⟩ = some (.slice A2 ws2.length c2) := (blk_cell HFz.out.nm 1).trans rfl
              have hHE := HE.out
              clear HE
              by_cases hw0 : ws2.length = 0
              · rw [if_pos hw0] at hHE
                have HE := Aside0.mk hHE
                clear hHE
                gi_wp2
                exact leaveF a0 w (ds := D :: ds) rfl rfl rfl HE.out HFz.out hnb (Kd.R_nil _ _ _ _ _) hndz
              · rw [if_neg hw0] at hHE
                have HE := Aside0.mk hHE
                clear hHE
                gi_wp2
                exact leaveF a0 w (ds := D :: ds) rfl rfl rfl HE.out HFz.out hnb HFz.out.rows hndz
            · have hlt : p + i < a0.size := by omega
              clear hend
              have ca : Wz.cell? ⟨w7.heap.size + 1, 0, none⟩ = some (.int .i64 ((p + i : Nat) : Int)) := (blk_cell HAz.out 0).trans rfl
              have fa : ∀ i, Wz.frozen? ⟨w7.heap.size + 1, i, none⟩ = false := fun i => blk_frozen HAz.out i
              gi_wp2
              · rename_i hbyte K1 hK1
                have HE := Aside0.mk (step_bad HRI.out HZ.out hlt hbyte)
                clear hbyte
                refine wpIn_wide.2 ?_
                refine start_ (n := 5) (S := fun w' => w'.cell? ⟨w7.heap.size + 1, 0, none⟩ = some (.int .i64 ((p + i : Nat) : Int))) (ds := [4]) #[false, false, false, false, false] (by kernel_rfl) rfl rfl ca (fun hHeld => ?_)
                replace HFz := Aside0.mk (HFz.out.below (below_drew (Below.refl _ _)))
                clear ca fa HAz
                generalize Wz.drew = W2 at HFz hHeld ⊢
                have c10 : W2.cell? ⟨w.heap.size, 0, none⟩ = some (.int .i64 0) := (blk_cell HFz.out.bx.r1 0).trans rfl
                have c11 : W2.cell? ⟨w.heap.size, 1, none⟩ = some (.slice none 0 0) := (blk_cell HFz.out.bx.r1 1).trans rfl
                have c20 : W2.cell? ⟨w.heap.size + 1, 0, none⟩ = some (.int .i64 0) := (blk_cell HFz.out.bx.r2 0).trans rfl
                have c30 : W2.cell? ⟨w.heap.size + 1 + 1, 0, none⟩ = some (.int .i64 0) := (blk_cell HFz.out.bx.r3 0).trans rfl
                have f10 : ∀ i, W2.frozen? ⟨w.heap.size, i, none⟩ = false := fun i => blk_frozen HFz.out.bx.r1 i
                have f20 : ∀ i, W2.frozen? ⟨w.heap.size + 1, i, none⟩ = false := fun i => blk_frozen HFz.out.bx.r2 i
                have f30 : ∀ i, W2.frozen? ⟨w.heap.size + 1 + 1, i, none⟩ = false := fun i => blk_frozen HFz.out.bx.r3 i
                refine pure_ (i := 0) (N := some 100) (v := ?_) (a' := ?_) #[true, false, false, false, false] rfl rfl (by kernel_rfl) (fun _ _ _ h => h) (Or.inl ⟨by rfl, ?_⟩) ?_ ?_
                rotate_left
                · intro w'
                  go_simp
                  with_reducible rfl
                rotate_left
                · simp only [Act.put, List.setIfInBounds_toArray, List.set_cons_zero, List.set_cons_succ, i64_w, i32_w]
                  rfl
                refine take_ (i := 1) (N := some 101) (v := ?_) (a' := ?_) #[true, true, false, false, false] rfl rfl (by kernel_rfl) (fun _ _ _ h => h) (Or.inl ⟨by rfl, ?_⟩) hHeld ?_ ?_
                rotate_left
                · rintro w' s0
                  go_simp
                  with_reducible rfl
                rotate_left
                · simp only [Act.put, List.setIfInBounds_toArray, List.set_cons_zero, List.set_cons_succ, i64_w, i32_w]
                  rfl
                refine one_ (i := 2) (N := none) #[true, true, true, false, false] rfl rfl (by kernel_rfl) (by decide) (fun K hK => ?_)
                refine skip_ (w1 := ?_) (by rfl) rfl ?_ ?_
                rotate_left
                · go_simp
                  rfl
                refine hK.out _ _ ((World.cell?_setCell_other _ ⟨w.heap.size, 1, none⟩ ⟨w7.heap.size + 1, 0, none⟩ _ (fun e => by have := congrArg Addr.block e; simp at this; omega)).trans ((World.cell?_setCell_other _ ⟨w.heap.size, 0, none⟩ ⟨w7.heap.size + 1, 0, none⟩ _ (fun e => by have := congrArg Addr.block e; simp at this; omega)).trans hHeld)) (fun hHeld => ?_)
                clear hK K
                refine one_ (i := 3) (N := none) #[true, true, true, true, false] rfl rfl (by kernel_rfl) (by decide) (fun K hK => ?_)
                refine skip_ (w1 := ?_) (by rfl) rfl ?_ ?_
                rotate_left
                · go_simp
                  rfl
                refine hK.out _ _ ((World.cell?_setCell_other _ ⟨w.heap.size + 1, 0, none⟩ ⟨w7.heap.size + 1, 0, none⟩ _ (fun e => by have := congrArg Addr.block e; simp at this; omega)).trans hHeld) (fun hHeld => ?_)
                clear hK K
                refine last_ (i := 4) (N := none) #[true, true, true, true, true] rfl rfl (by kernel_rfl) (by decide) (fun K hK => ?_)
                refine skip_ (w1 := ?_) (by rfl) rfl ?_ ?_
                rotate_left
                · go_simp
                  rfl
                refine hK.out _ _ ?_
                clear hK K
                refine done_ (by kernel_rfl) ?_
                clear hHeld c10 c11 c20 c30 f10 f20 f30
                gi_wp2
                exact leaveF a0 w (ds := D :: ds) rfl rfl rfl HE.out HFz.out hnb (Kd.R_nil _ _ _ _ _) hndz
              · rename_i hbyte
                have HE := step_blank HRI.out HFL.out hlt hbyte
                have HS := HFz.out.set hnb (.inl rfl) hm2 (.int .i64 ((p : Int) + (i : Int) + 1))
                have hA9 : (Wz.setCell ⟨w7.heap.size + 1, 0, none⟩ (.int .i64 ((p : Int) + (i : Int) + 1))).heap[w7.heap.size + 1]? = some (.cells #[.int .i64 ((p + i + 1 : Nat) : Int)] 3 (0, 0)) := blk_put HAz.out 0 _ rfl
                refine ⟨InvO_mk (ds := D :: ds) (p + i + 1) (by kernel_rfl) HS.norm hA9 hndz (by omega) hlt HE, ?_⟩
                rw [atBox_eq hA9, HMU.out]
                omega
        case hstop =>
          rintro D c i W hD ⟨rfl, er, pos, g1, g2, g3, hb, hm, hf⟩ hK
          have HX := Aside0.mk g1
          have HY := Aside0.mk g2
          have HZ := Aside0.mk g3
          have HB := Aside0.mk hb
          have HM := Aside0.mk hm
          have HE := Aside0.mk hf
          have HK := Aside0.mk hK
          have hD3 := HZ3.out
          clear g1 g2 g3 hb hm hf hK hrun HF3 HA3 HC3 HX3 HY3
          have hndz : (D :: ds).Nodup := List.nodup_cons.2 ⟨fun hmem => by have := (HM.out D hmem).2.1; omega, hnd⟩
          gi_wp2
          refine leave a0 w _ rfl rfl rfl 0 er pos (.slice none 0 0) [] HE.out (D :: ds) W HX.out HY.out HZ.out (Kd.R_nil _ _ _ _ _) HB.out (fun E hE => ?_) hndz
          rcases List.mem_cons.1 hE with rfl | hE
          · exact ⟨by omega, HK.out⟩
          · exact ⟨by have := (HM.out E hE).1; omega, (HM.out E hE).2.2⟩
      · have hpe : p = a0.size := by omega
        have HE := Aside0.mk (step_end (ws2 := ws) hrun hpe rfl)
        have HFz := Aside0.mk hF
        have hndz := hnd
        rw [hpe] at hca
        clear hF hat hrun hnd cn0 cn1
        generalize hWz : W = Wz at HFz hca ⊢
        clear hWz
        obtain ⟨ws2, hw2⟩ : ∃ ws2, ws2 = ws := ⟨_, rfl⟩
        rw [← hw2] at HFz HE
        generalize A1 = A2 at HFz
        generalize c1 = c2 at HFz
        clear hw2
        have c10 : Wz.cell? ⟨w.heap.size, 0, none⟩ = some (.int .i64 0) := (blk_cell HFz.out.bx.r1 0).trans rfl
        have c11 : Wz.cell? ⟨w.heap.size, 1, none⟩ = some (.slice none 0 0) := (blk_cell HFz.out.bx.r1 1).trans rfl
        have c20 : Wz.cell? ⟨w.heap.size + 1, 0, none⟩ = some (.int .i64 0) := (blk_cell HFz.out.bx.r2 0).trans rfl
        have c30 : Wz.cell? ⟨w.heap.size + 1 + 1, 0, none⟩ = some (.int .i64 0) := (blk_cell HFz.out.bx.r3 0).trans rfl
        have f10 : ∀ i, Wz.frozen? ⟨w.heap.size, i, none⟩ = false := fun i => blk_frozen HFz.out.bx.r1 i
        have f20 : ∀ i, Wz.frozen? ⟨w.heap.size + 1, i, none⟩ = false := fun i => blk_frozen HFz.out.bx.r2 i
        have f30 : ∀ i, Wz.frozen? ⟨w.heap.size + 1 + 1, i, none⟩ = false := fun i => blk_frozen HFz.out.bx.r3 i
        have cn0 : Wz.cell? ⟨w7.heap.size, 0, none⟩ = some (.int .i64 sc) := (blk_cell HFz.out.nm 0).trans rfl
        have cn1 : Wz.cell? ⟨w7.heap.size, 1, none⟩ = some (.slice A2 ws2.length c2) := (blk_cell HFz.out.nm 1).trans rfl
        have hHE := HE.out
        clear HE
        by_cases hw0 : ws2.length = 0
        · rw [if_pos hw0] at hHE
          have HE := Aside0.mk hHE
          clear hHE
          gi_wp2
          exact leaveF a0 w (ds := ds) rfl rfl rfl HE.out HFz.out hnb (Kd.R_nil _ _ _ _ _) hndz
        · rw [if_neg hw0] at hHE
          have HE := Aside0.mk hHE
          clear hHE
          gi_wp2
          exact leaveF a0 w (ds := ds) rfl rfl rfl HE.out HFz.out hnb HFz.out.rows hndz
  · rename_i hft
    have HE := Aside0.mk (parse_syn hs2 (by rcases HF.out with h | h; exact absurd h.1 hft; exact .inl h.2))
    exact leaveW a0 w (ds := []) rfl rfl rfl HE.out (X7.out.below ((Below.refl _ _).alloc (Nat.le_refl _) _)) (Kd.R_nil _ _ _ _ _) (by simp) List.nodup_nil

theorem script_Parse.calls (a0 : ByteArray) (r1 : Int) (r2 : List ByteArray) (r3 : Int) (r4 : Int) (w : World) (h : script_Parse.f a0 = some (r1, r2, r3, r4)) (hT : Tabs w) :
    Calls Tryd.prog 20 #[.string a0] w fun e w' => ∃ v1_ : Value, e = .returned (.tuple #[.agg #[.int .i64 r1, v1_], .int .i64 r3, .int .i64 r4]) ∧ Kd.R Kd.string 9 w' w.heap.size (fun _ => True) v1_ r2 ∧ Below w.heap.size w w' := by
  refine (walk a0 w hT).mono ?_
  rintro e w' ⟨q1, v, q2, q3, q4, hq, he, hr, hb⟩
  rw [h] at hq
  simp only [Option.some.injEq, Prod.mk.injEq] at hq
  obtain ⟨rfl, rfl, rfl, rfl⟩ := hq
  exact ⟨v, he, hr, hb⟩
end Go.Proofs.YtgimbkfahfnplaaDoor.X4
