/- What the rows share: the listed variables of Go's library hold Go's tables; a first state in which they are laid; a rational number that came in as an argument, opened and shut. -/
import Derived.Test.YtfaibifilpfikaaGreatDoorMd
import Derived.Test.YtfaibifilpfikaaGreatDoorRows
import Derived.Lib.LaidCase
import Derived.Lib.LaidTab
import Derived.Lib.SmallJoins
import Derived.PinnedBridge
import Derived.LaidMore
import Derived.Lay
import Derived.MakeChecks
import Derived.WalkKit
import Derived.ProofKit
import Derived.OpenShut
import Derived.ShutString
import Derived.ChangeOld
import Derived.Below
import Derived.SizedLaws
import Derived.Carry
set_option linter.unusedVariables false
set_option linter.unusedSimpArgs false
namespace Go.Proofs.YtfaibifilpfikaaGreatDoor.Rc
open Go Go.Proofs Go.Shelf Go.Lib Go.Joins Go.ChangeShapes Go.WideShapes Go.ChangeAt Go.RowKit Go.Proofs.YtfaibifilpfikaaGreatDoor.X2
def laidL : List (String × DataW Unit) := [("math/bits.deBruijn32tab", Rows.laid_math_bits_deBruijn32tab), ("math/bits.deBruijn64tab", Rows.laid_math_bits_deBruijn64tab), ("internal/strconv.uint64pow10", Rows.laid_internal_strconv_uint64pow10), ("unicode/utf8.acceptRanges", Rows.laid_unicode_utf8_acceptRanges), ("strconv.ErrRange", Rows.laid_strconv_ErrRange), ("strconv.ErrSyntax", Rows.laid_strconv_ErrSyntax), ("unicode/utf8.first", Rows.laid_unicode_utf8_first)]
theorem own : ownKnob Tryz.prog.godebug = none := by kernel_rfl
theorem laidOut : laidOutB Tryz.prog = true := by kernel_rfl
theorem pow_eq : (Rows.laid_internal_strconv_uint64pow10 : DataW Unit) = Lib.tabData .u64 Lib.pow10Tab := by kernel_rfl
theorem iface_cs {H : Type} {enc : TypeId × Value → H} {P : Program} {w : World} {base : Nat} {sp : Nat → Bool} {fuel : Nat} {t : TypeId} {ms : Array (String × TypeId)} {cs : List Value} {nm : String} {x : DataW H} {p : List MemPlace}
    (ht : P.underlying t = some (.interface ms)) (h : DataW.trod enc P w base sp false fuel t cs = some (.iface nm x, p)) : ∃ u v, cs = [.iface u v] := by
  cases fuel with
  | zero => simp [DataW.trod] at h
  | succ n =>
    rcases cs with _ | ⟨c, _ | ⟨c2, r⟩⟩
    · simp [DataW.trod, ht] at h
    · cases c <;> simp [DataW.trod, ht] at h
      exact ⟨_, _, rfl⟩
    · simp [DataW.trod, ht] at h
theorem err_of {W : World} {n : String} {g : Nat} {nm : String} {x : DataW Unit} (hg : Tryz.prog.globalNamed n = some g) (ht : (Tryz.prog.globals[g]?).map (·.type) = some 74) (h : VarReads Tryz.prog W n (.iface nm x)) : ∃ tp p, W.var? Tryz.prog n = some #[.iface tp p] := by
  obtain ⟨g', t', cs, fuel, p, h1, h2, h3, h4⟩ := h
  obtain rfl := Option.some.inj (hg.symm.trans h1)
  obtain rfl := Option.some.inj (ht.symm.trans h2)
  obtain ⟨u, v, hc⟩ := iface_cs Tryz.underlying74 h4
  refine ⟨u, v, ?_⟩
  rw [h3]
  congr 1
  exact Array.toList_inj.1 hc
set_option maxRecDepth 100000 in
theorem tabs_of {W : World} (h : laidMetH Tryz.prog laidL W) : Tabs W := by
  rw [MakeChecks.laidMetH_plain _ _ _ (by kernel_rfl)] at h
  have h1 : VarReads Tryz.prog W "internal/strconv.uint64pow10" (Lib.tabData .u64 Lib.pow10Tab) := pow_eq ▸ Lib.laidMet.reads h (.tail _ (.tail _ (.head _)))
  have h2 := Lib.laidMet.reads h (n := "strconv.ErrRange") (d := Rows.laid_strconv_ErrRange) (.tail _ (.tail _ (.tail _ (.tail _ (.head _)))))
  have h3 := Lib.laidMet.reads h (n := "strconv.ErrSyntax") (d := Rows.laid_strconv_ErrSyntax) (.tail _ (.tail _ (.tail _ (.tail _ (.tail _ (.head _))))))
  refine ⟨?_, err_of (g := 1) (by kernel_rfl) (by kernel_rfl) h2, err_of (g := 0) (by kernel_rfl) (by kernel_rfl) h3⟩
  obtain ⟨g, t, cs, fuel, p, e1, e2, e3, e4⟩ := h1
  have hg : Tryz.prog.globalNamed "internal/strconv.uint64pow10" = some 3 := by kernel_rfl
  obtain rfl := Option.some.inj (hg.symm.trans e1)
  have ht : (Tryz.prog.globals[3]?).map (·.type) = some 183 := by kernel_rfl
  obtain rfl := Option.some.inj (ht.symm.trans e2)
  have hc := Lib.cells_of_tab (n := 20) (e := 124) (by kernel_rfl) (by kernel_rfl) (by kernel_rfl) (by kernel_rfl) e4
  show W.var? Tryz.prog "internal/strconv.uint64pow10" = _
  rw [e3]
  congr 1
  exact Array.toList_inj.1 hc
theorem met (os : Os) (args : Array Value) : laidMetH Tryz.prog laidL ((World.laidAll Tryz.prog os laidL).forCall (fun _ _ => 0) ⟨#[], args, []⟩).memory := by
  rw [MakeChecks.laidMetH_plain _ _ _ (by kernel_rfl)]
  exact laidMet_laidAll _ (by kernel_rfl) (by kernel_rfl)
theorem shaped (os : Os) (args : Array Value) : ((World.laidAll Tryz.prog os laidL).forCall (fun _ _ => 0) ⟨#[], args, []⟩).Shaped Tryz.prog := World.shaped_of_ZipB (by kernel_rfl) (by kernel_rfl)
theorem one_bool {H : Type} {enc : TypeId × Value → H} {P : Program} {w : World} {base : Nat} {sp : Nat → Bool} {held : Bool} {fuel : Nat} {t : TypeId} {v : Value} {y : DataW H × List MemPlace}
    (ht : P.underlying t = some .bool) (h : DataW.trod enc P w base sp held fuel t [v] = some y) : ∃ b, v = .bool b ∧ y = (.lit (.bool b), []) := by
  cases fuel with
  | zero => simp [DataW.trod] at h
  | succ n =>
    cases v <;> simp [DataW.trod, ht] at h
    exact ⟨_, rfl, h.symm⟩
theorem one_string {H : Type} {enc : TypeId × Value → H} {P : Program} {w : World} {base : Nat} {sp : Nat → Bool} {held : Bool} {fuel : Nat} {t : TypeId} {v : Value} {y : DataW H × List MemPlace}
    (ht : P.underlying t = some .string) (h : DataW.trod enc P w base sp held fuel t [v] = some y) : ∃ s, v = .string s ∧ y = (.lit (.string s.data.toList), []) ∧ s.size ≤ maxLen := by
  cases fuel with
  | zero => simp [DataW.trod] at h
  | succ n =>
    cases v <;> simp [DataW.trod, ht] at h
    exact ⟨_, rfl, h.2.symm, h.1⟩
theorem mk_bool {H : Type} {enc : TypeId × Value → H} {P : Program} {w : World} {base : Nat} {sp : Nat → Bool} {held : Bool} {t : TypeId} (ht : P.underlying t = some .bool) (b : Bool) :
    ∃ n, DataW.trod enc P w base sp held n t [.bool b] = some (.lit (.bool b), []) := ⟨1, by simp [DataW.trod, ht]⟩
theorem mk_string {H : Type} {enc : TypeId × Value → H} {P : Program} {w : World} {base : Nat} {sp : Nat → Bool} {held : Bool} {t : TypeId} (ht : P.underlying t = some .string) (s : ByteArray) (hs : s.size ≤ maxLen) :
    ∃ n, DataW.trod enc P w base sp held n t [.string s] = some (.lit (.string s.data.toList), []) := ⟨1, by simp [DataW.trod, ht, hs]⟩
set_option maxRecDepth 100000 in
theorem open_ratio {H : Type} {enc : TypeId × Value → H} {W : World} {r : Reach} {b0 : Nat} {v : Value} {d : DataW H} {p : List MemPlace} (hv : Value.okWide Tryz.prog W r b0 23 v) (h : DataW.Trod enc Tryz.prog W 0 (fun _ => true) true 23 v d p) :
    ∃ (s : Bool) (n e : ByteArray), v = .agg #[.bool s, .string n, .string e] ∧ d = .agg [.lit (.bool s), .lit (.string n.data.toList), .lit (.string e.data.toList)] ∧ p = [] ∧ n.size ≤ maxLen ∧ e.size ≤ maxLen := by
  obtain ⟨c0, c1, c2, y0, y1, y2, m, rfl, rfl, rfl, hy0, hy1, hy2⟩ := open_agg3 Tryz.underlying23 (by kernel_rfl) (by kernel_rfl) hv h
  obtain ⟨s, e0, z0⟩ := one_bool Tryz.underlying4 hy0
  obtain ⟨n, e1, z1, s1⟩ := one_string Tryz.underlying9 hy1
  obtain ⟨e, e2, z2, s2⟩ := one_string Tryz.underlying9 hy2
  subst e0 e1 e2 z0 z1 z2
  exact ⟨s, n, e, rfl, rfl, rfl, s1, s2⟩
set_option maxRecDepth 100000 in
theorem shut_ratio {H : Type} {enc : TypeId × Value → H} {W : World} {sp : Nat → Bool} {held : Bool} {base : Nat} (s : Bool) (n e : ByteArray) (h1 : n.size ≤ maxLen) (h2 : e.size ≤ maxLen) :
    DataW.Trod enc Tryz.prog W base sp held 23 (.agg #[.bool s, .string n, .string e]) (.agg [.lit (.bool s), .lit (.string n.data.toList), .lit (.string e.data.toList)]) [] :=
  shut_agg3 (y0 := (.lit (.bool s), [])) (y1 := (.lit (.string n.data.toList), [])) (y2 := (.lit (.string e.data.toList), [])) Tryz.underlying23 (by kernel_rfl) (by kernel_rfl)
    (mk_bool Tryz.underlying4 s) (mk_string Tryz.underlying9 n h1) (mk_string Tryz.underlying9 e h2)
end Go.Proofs.YtfaibifilpfikaaGreatDoor.Rc
