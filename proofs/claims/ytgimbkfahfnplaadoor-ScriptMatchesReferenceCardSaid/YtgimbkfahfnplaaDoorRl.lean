/- Two laws for a range over the letters of a text: a region that draws its order inside a round, and the statement itself; conditions: the loop's body keeps what is no cells and the iterator's two boxes. -/
import Derived.OrdersIn
import Derived.Test.YtgimbkfahfnplaaDoorLt
import Derived.Test.YtgimbkfahfnplaaDoorWLast
import Derived.Test.YtgimbkfahfnplaaDoorWTab
namespace Go.Proofs.YtgimbkfahfnplaaDoor.Lt
open Go.RowKit Go.Shelf Go.Proofs.YtgimbkfahfnplaaDoorW.PrintWords Go.Proofs.YtgimbkfahfnplaaDoorW.PrintLast
variable {P : Program} {ops : Array Oper} {Q : Exit → Act → World → Prop} {md : Region.Mode} {S : World → Prop} {ds : List Nat}

theorem rowsIn_round {n l : Nat} {row : String} {args : Array Value} {w : World} {R : Value → World → Prop} (h : Rows P row args w R) : RowsIn (Fence.wide.inRound l) n P row args w R :=
  fun c cs _ => let ⟨v, w', r, s⟩ := h c cs; ⟨v, w', r, by rw [fenced_inRound]; exact stepsIn_wide.2 s⟩

/-- One operation that is no defer statement: in a round as anywhere. -/
theorem operIn_round {n l : Nat} {o : Oper} {a : Act} {w : World} {K : Act → World → Prop} (hd : ∀ c, o.op ≠ .defer c) (h : o.wp P a w K Q) : o.wpIn (Fence.wide.inRound l) n P a w K Q := by
  refine ⟨fun _ _ => trivial, ?_⟩
  rw [Oper.semAt_eq _ _ _ hd]
  unfold Oper.wp at h
  have hdep : (Fence.wide.inRound l).depth.isSome = true → 1 ≤ n := fun e => by simp [Fence.wide] at e
  generalize (execOp a.eval o).run P w = r at *
  cases r with
  | ok x w' =>
    cases x with
    | value v => exact h
    | skip => exact h
    | defer d => exact h
    | enter f args => exact ⟨hdep, CallsIn.inRound l (callsIn_wide.2 h)⟩
    | row row args => exact ⟨hdep, rowsIn_round h⟩
    | _ => simp [Oper.upon] at h
  | halt x w' => cases x <;> first | exact h | (simp only [Oper.upon] at h)

theorem wpOpIn_round {n l i : Nat} {a : Act} {w : World} {K : Act → World → Prop} (hd : ∀ o c, ops[i]? = some o → o.op ≠ .defer c) (hQ : ¬ LetsOut Q) (h : wpOp P ops Q i K a w) : wpOpIn (Fence.wide.inRound l) n P ops Q i K a w := by
  unfold wpOp at h
  unfold wpOpIn
  split
  · rename_i e; rw [e] at h; exact h
  · rename_i o e
    rw [e] at h
    simp only at h
    split
    · rename_i hw
      rw [if_pos hw] at h
      rcases h with h | h
      · exact operIn_round (fun c => hd o c e) h
      · exact absurd h.2 hQ
    · rename_i hw
      rw [if_neg hw] at h
      exact ⟨fun _ _ => trivial, h⟩

theorem wpAnyIn_round {n l : Nat} (hd : ∀ (i : Nat) (o : Oper) c, ops[i]? = some o → o.op ≠ .defer c) (hQ : ¬ LetsOut Q) : ∀ (fuel : Nat) (listed : Array Bool) (a : Act) (w : World), wpAny P md ops Q fuel listed a w → wpAnyIn (Fence.wide.inRound l) n P md ops Q fuel listed a w
  | 0, _, _, _, h => h
  | fuel + 1, _, _, _, h => ⟨h.1, fun i hi => wpOpIn_mono (fun a' w' h' => wpAnyIn_round hd hQ fuel _ a' w' h') (wpOpIn_round (fun o c => hd i o c) hQ (h.2 i hi))⟩

def noDefer (ops : Array Oper) : Bool := ops.all fun o => match o.op with | .defer _ => false | _ => true
theorem noDefer_spec (h : noDefer ops = true) (i : Nat) (o : Oper) (c : Call) (hi : ops[i]? = some o) : o.op ≠ .defer c := by
  intro e
  have := Array.all_eq_true.1 h i (Array.getElem?_eq_some_iff.1 hi).1
  rw [(Array.getElem?_eq_some_iff.1 hi).2, e] at this
  simp at this

/-- The begin of a region that draws its order, in a round. -/
theorem startIn_ {id n m l : Nat} {a : Act} {w : World} (lst : Array Bool) (hm : P.follows .mixedOrders = true) (hn : ops.size = n) (hl : Array.replicate n false = lst) (hd : noDefer ops = true) (hQ : ¬ LetsOut Q) (hS : S w.drew)
    (h : S w.drew → wpAnyLast P .any ops Q S ds n lst a w.drew) : (Code.region id ops true).wpIn (Fence.wide.inRound l) m P Q a w := by
  subst hn
  subst hl
  exact wpIn_region_any hm (wpAnyIn_round (noDefer_spec hd) hQ _ _ _ _ (wpAny_of_last _ _ _ _ (h hS)))

/-! ### The statement -/
/-- How the body of a round may be left. -/
def bodyPost1 (Kp : World → Prop) (I : World → Prop) (Ix : Code → World → Prop) : Exit → Act → World → Prop
  | .normal, _, W' => Kp W' ∧ I W'
  | .ret, _, W' => Kp W' ∧ Ix .ret W'
  | .exit id, _, W' => Kp W' ∧ Ix (.exit id) W'
  | .goto t, _, W' => Kp W' ∧ Ix (.goto t) W'
  | .panic _, _, _ => False
  | .outgrown, _, _ => False

theorem heap_set (W : World) (b l : Nat) (v : Value) (h : b ≠ l) : (W.setCell ⟨b, 0, none⟩ v).heap[l]? = W.heap[l]? := Below.heap_setCell W ⟨b, 0, none⟩ v l (fun e => h e.symm)
theorem heap_below {W W' : World} (h : Below W.heap.size W W') {l : Nat} {o : Obj} (hl : W.heap[l]? = some o) : W'.heap[l]? = some o := (h.block l (Array.getElem?_eq_some_iff.1 hl).1).trans hl
theorem Bx.putObj {cb sb : Nat} {sc : Int} {s : ByteArray} {i : Nat} {w : World} (h : Bx cb sb sc s i w) {l : Nat} (o : Obj) (hc : cb ≠ l) (hs : sb ≠ l) : Bx cb sb sc s i (w.putObj l o) := by
  have e1 : (w.putObj l o).heap[cb]? = w.heap[cb]? := World.putObj_heap_other hc
  have e2 : (w.putObj l o).heap[sb]? = w.heap[sb]? := World.putObj_heap_other hs
  exact ⟨(World.cell?_of_block (a := ⟨cb, 0, none⟩) e1).trans h.script, (World.cell?_of_block (a := ⟨sb, 0, none⟩) e2).trans h.rest, (World.frozen?_of_block (a := ⟨sb, 0, none⟩) e2).trans h.free⟩

theorem wp_range (Tb : World → Prop) (hTb : ∀ w w', Tb w → Below w.heap.size w w' → Tb w') (hL : LenSaid Tb) {g : Operand} {ps : Array Tmp} {assign body : Code} {Q : Exit → Act → World → Prop} {a : Act} {w : World} {cb sb : Nat} {sc : Int} {s : ByteArray}
    (hg : a.eval g = .func (.func 36) #[] #[.pointer (some ⟨cb, 0, none⟩), .pointer (some ⟨sb, 0, none⟩)]) (hne : cb ≠ sb) (hcl : cb < w.heap.size) (hsl : sb < w.heap.size) (hs : s.size ≤ 35184372088831) (hps : ps.size = 1)
    (hTs : ∀ w v, Tb w → Tb (w.setCell ⟨sb, 0, none⟩ v)) (hTo : ∀ W l o, Tb W → w.heap.size ≤ l → Tb (W.putObj l o)) (hB : Bx cb sb sc s 0 w) (hT : Tb w)
    (I : Nat → World → Prop) (Ix : Code → Nat → World → Prop)
    (hIs : ∀ i W v, I i W → I i (W.setCell ⟨sb, 0, none⟩ v)) (hIb : ∀ i W W', I i W → Below W.heap.size W W' → I i W')
    (hIo : ∀ i W l o, I i W → w.heap.size ≤ l → (∃ o₀, W.heap[l]? = some o₀ ∧ o₀.isCells = false) → I i (W.putObj l o))
    (hXo : ∀ c i W l o, Ix c i W → w.heap.size ≤ l → (∃ o₀, W.heap[l]? = some o₀ ∧ o₀.isCells = false) → Ix c i (W.putObj l o))
    (h0 : I 0 w) (a₁ : ByteArray → Act)
    (hassign : ∀ (l : Nat) (x : ByteArray) (W : World) (K : Act → World → Prop), K (a₁ x) W →
      assign.wpIn (Fence.wide.inRound l) 0 Tryd.prog (Exit.then K (fun _ _ _ => False)) { tmps := (ps.zip #[.string x]).foldl (fun t (p, v) => t.setIfInBounds p v) a.tmps, defers := [] } W)
    (hbody : ∀ (l i : Nat) (W : World), I i W → Bx cb sb sc s i W → Tb W → 0 < Scr.len sc (s.data.toList.drop i) → i + Scr.len sc (s.data.toList.drop i) ≤ s.size →
      body.wpIn (Fence.wide.inRound l) 0 Tryd.prog (bodyPost1 (KeepsOthers W) (fun W' => I (i + Scr.len sc (s.data.toList.drop i)) W' ∧ Bx cb sb sc s i W' ∧ Tb W') (fun c => Ix c (i + Scr.len sc (s.data.toList.drop i)))) (a₁ (s.extract i (i + Scr.len sc (s.data.toList.drop i)))) W)
    (hdone : ∀ (D i : Nat) (W : World), w.heap.size ≤ D → I i W → Scr.len sc (s.data.toList.drop i) = 0 → W.heap[D]? = some (.deferred (some [])) → Q .normal { a with defers := { target := .collected D, args := #[] } :: a.defers } W)
    (hstop : ∀ (D : Nat) (c : Code) (i : Nat) (W : World), w.heap.size ≤ D → Ix c i W → W.heap[D]? = some (.deferred (some [])) → c.wpIn Fence.wide 2 Tryd.prog Q { a with defers := { target := .collected D, args := #[] } :: a.defers } W) :
    (Code.rangeFunc g ps assign body).wpIn Fence.wide 2 Tryd.prog Q a w := by
  refine wpIn_rangeFunc ?_
  intro fn _
  obtain ⟨rec, hrec⟩ : ∃ rec : LoopState → Option Code → Loop, rec = fun st pe => { state := st, pending := pe, fn, tmps := a.tmps, params := ps, assign, body, defers := w.heap.size } := ⟨_, rfl⟩
  obtain ⟨W1, hW1⟩ : ∃ W1, (w.alloc (.deferred (some []))).alloc (.loop (rec .ready none)) = W1 := ⟨_, rfl⟩
  have hbel : Below w.heap.size w W1 := by rw [← hW1]; exact ((Below.refl _ w).alloc (Nat.le_refl _) _).alloc (by simp) _
  have hL1 : W1.heap[w.heap.size + 1]? = some (.loop (rec .ready none)) := by
    rw [← hW1]; have := World.alloc_heap_new (w.alloc (.deferred (some []))) (.loop (rec .ready none)); rwa [World.size_alloc] at this
  have hK1 : W1.heap[w.heap.size]? = some (.deferred (some [])) := by
    rw [← hW1]; exact (Below.heap_alloc _ _ _ (by simp)).trans (World.alloc_heap_new w _)
  refine ⟨w.heap.size + 1, [{ target := .collected w.heap.size, args := #[] }], W1, { target := .fn (.func 36) #[.pointer (some ⟨cb, 0, none⟩), .pointer (some ⟨sb, 0, none⟩)], args := #[.func (.yield (w.heap.size + 1)) #[] #[]] }, W1, 36,
    #[.func (.yield (w.heap.size + 1)) #[] #[], .pointer (some ⟨cb, 0, none⟩), .pointer (some ⟨sb, 0, none⟩)], W1, ?_, ?_, fun _ _ => trivial, ?_, fun e => by simp [Fence.wide] at e, ?_⟩
  · rw [← hW1, hrec]; exact run_enterLoop_outer _ _ _ _ _
  · simp only [resolve, hg]
    simp [go_sem]
  · have eg := enters_of (P := Tryd.prog) Tryd.func36 (by kernel_rfl) rfl
    simp [invoke, go_sem, eg]
  · refine callsIn_wide.2 ?_
    refine (letters1 Tb hTb hL (w.heap.size + 1) cb sb hTs hne sc s hs
      (fun i W => I i W ∧ W.heap[w.heap.size + 1]? = some (.loop (rec .ready none)) ∧ W.heap[w.heap.size]? = some (.deferred (some [])))
      (fun i W => ∃ c, Ix c i W ∧ W.heap[w.heap.size + 1]? = some (.loop (rec .done (some c))) ∧ W.heap[w.heap.size]? = some (.deferred (some [])))
      (fun i W v h => ⟨hIs i W v h.1, (heap_set W sb _ v (by omega)).trans h.2.1, (heap_set W sb _ v (by omega)).trans h.2.2⟩)
      (fun i W W' h hb => ⟨hIb i W W' h.1 hb, heap_below hb h.2.1, heap_below hb h.2.2⟩) ?_ W1 (hB.below hbel) (hTb _ _ hT hbel) ⟨hIb 0 w W1 h0 hbel, hL1, hK1⟩).mono ?_
    · rintro i W ⟨hi, hl, hk⟩ hBW hTW hpos hle
      have hlt : w.heap.size + 1 < W.heap.size := (Array.getElem?_eq_some_iff.1 hl).1
      have hy := run_yield (P := Tryd.prog) (args := #[.string (s.extract i (i + Scr.len sc (s.data.toList.drop i)))]) hl (by rw [hrec]; exact hps.symm)
      rw [hrec] at hy
      refine ⟨fn, _, assign, body, hy, roundIn_of_wpIn trivial (hassign _ _ W _ ⟨_, run_beginRound hl (by rw [hrec]), ?_⟩)⟩
      have hl2 : (W.putObj (w.heap.size + 1) (.loop { rec .ready none with state := .busy })).heap[w.heap.size + 1]? = some (.loop { rec .ready none with state := .busy }) := World.putObj_heap_same hlt
      have hk2 : (W.putObj (w.heap.size + 1) (.loop { rec .ready none with state := .busy })).heap[w.heap.size]? = some (.deferred (some [])) := (World.putObj_heap_other (by omega)).trans hk
      refine wpIn_mono (hbody _ i _ (hIo i W _ _ hi (by omega) ⟨_, hl, rfl⟩) (hBW.putObj _ (by omega) (by omega)) (hTo _ _ _ hTW (by omega)) hpos hle) ?_
      have fin : ∀ (jump : Option Code) (W3 : World), KeepsOthers (W.putObj (w.heap.size + 1) (.loop { rec .ready none with state := .busy })) W3 →
          (Instr.endRound (w.heap.size + 1) jump).run Tryd.prog W3 = .ok (.bool jump.isNone) (W3.putObj (w.heap.size + 1) (.loop (rec (if jump.isNone then .ready else .done) jump))) ∧
          W3.heap[w.heap.size + 1]? = some (.loop { rec .ready none with state := .busy }) ∧
          (W3.putObj (w.heap.size + 1) (.loop (rec (if jump.isNone then .ready else .done) jump))).heap[w.heap.size + 1]? = some (.loop (rec (if jump.isNone then .ready else .done) jump)) ∧
          (W3.putObj (w.heap.size + 1) (.loop (rec (if jump.isNone then .ready else .done) jump))).heap[w.heap.size]? = some (.deferred (some [])) := fun jump W3 hk3 => by
        have hl3 := hk3.same _ _ hl2 rfl
        have := run_endRound (P := Tryd.prog) jump hl3
        rw [hrec] at this ⊢
        exact ⟨this, by rw [hrec] at hl3; exact hl3, World.putObj_heap_same (Array.getElem?_eq_some_iff.1 hl3).1, (World.putObj_heap_other (by omega)).trans (hk3.same _ _ hk2 rfl)⟩
      rintro e a3 W3 hp
      cases e with
      | normal =>
        obtain ⟨hk3, hi3, hB3, hT3⟩ := hp
        obtain ⟨hr, hl3, hl4, hk4⟩ := fin none W3 hk3
        exact ⟨_, _, hr, .inl ⟨rfl, ⟨hIo _ _ _ _ hi3 (by omega) ⟨_, hl3, rfl⟩, hl4, hk4⟩, hB3.putObj _ (by omega) (by omega), hTo _ _ _ hT3 (by omega)⟩⟩
      | ret =>
        obtain ⟨hk3, hi3⟩ := hp
        obtain ⟨hr, hl3, hl4, hk4⟩ := fin (some .ret) W3 hk3
        exact ⟨_, _, hr, .inr ⟨rfl, .ret, hXo _ _ _ _ _ hi3 (by omega) ⟨_, hl3, rfl⟩, hl4, hk4⟩⟩
      | exit id =>
        obtain ⟨hk3, hi3⟩ := hp
        obtain ⟨hr, hl3, hl4, hk4⟩ := fin (some (.exit id)) W3 hk3
        exact ⟨_, _, hr, .inr ⟨rfl, .exit id, hXo _ _ _ _ _ hi3 (by omega) ⟨_, hl3, rfl⟩, hl4, hk4⟩⟩
      | goto t =>
        obtain ⟨hk3, hi3⟩ := hp
        obtain ⟨hr, hl3, hl4, hk4⟩ := fin (some (.goto t)) W3 hk3
        exact ⟨_, _, hr, .inr ⟨rfl, .goto t, hXo _ _ _ _ _ hi3 (by omega) ⟨_, hl3, rfl⟩, hl4, hk4⟩⟩
      | panic ch => exact hp.elim
      | outgrown => exact hp.elim
    · rintro e W2 ⟨⟨v, rfl⟩, (⟨i, hz, hi, hl, hk⟩ | ⟨i, c, hi, hl, hk⟩)⟩
      · exact ⟨none, _, by have := run_endLoop (P := Tryd.prog) hl (by rw [hrec]; simp); rw [hrec] at this; exact this, hdone _ i _ (Nat.le_refl _) (hIo _ _ _ _ hi (by omega) ⟨_, hl, rfl⟩) hz ((World.putObj_heap_other (by omega)).trans hk)⟩
      · exact ⟨some c, _, by have := run_endLoop (P := Tryd.prog) hl (by rw [hrec]; simp); rw [hrec] at this; exact this, hstop _ c i _ (Nat.le_refl _) (hXo _ _ _ _ _ hi (by omega) ⟨_, hl, rfl⟩) ((World.putObj_heap_other (by omega)).trans hk)⟩
end Go.Proofs.YtgimbkfahfnplaaDoor.Lt
