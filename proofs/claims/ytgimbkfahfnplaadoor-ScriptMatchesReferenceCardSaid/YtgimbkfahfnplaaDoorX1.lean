/- The library's functions that package script calls, as Lean functions with their contracts; conditions: strings shorter than 2^45 bytes, and that the world holds Go's tables. -/
import Derived.Test.YtgimbkfahfnplaaDoorShelf
import Derived.Test.YtgimbkfahfnplaaDoorWMore
import Derived.Shelf.Strings.CaseAny
namespace Go.Proofs.YtgimbkfahfnplaaDoor.X1
open Go.RowKit Go.Shelf Go.Lib Go.Proofs.YtgimbkfahfnplaaDoorW.PrintWords Go.Proofs.YtgimbkfahfnplaaDoorW.PrintLast

/-- The world holds Go's tables of letters' cases and of UTF-8. -/
structure Tabs (w : World) : Prop where
  cases_ : CaseVar 0 caseA w
  utf8 : Lib.Utf8Tabs 2 3 w
theorem Tabs.below {w w' : World} (h : Tabs w) (hb : Below w.heap.size w w') : Tabs w' := ⟨CaseVar_below h.cases_ hb, Utf8Tabs_below h.utf8 hb⟩
theorem Tabs.drew {w : World} (h : Tabs w) : Tabs w.drew := h.below (below_drew (Below.refl _ _))
theorem Tabs.drewN {w : World} (n : Nat) (h : Tabs w) : Tabs (w.drewN n) := h.below (pw_below_drewN (Below.refl _ _) n)

def strings_IndexByte.f (a0 : ByteArray) (a1 : Int) : Option Int := some (Lib.indexByte a0.data.toList a1.toNat.toUInt8)
theorem strings_IndexByte.calls (a0 : ByteArray) (a1 : Int) (r : Int) (w : World) (h : strings_IndexByte.f a0 a1 = some r) :
    Calls Tryd.prog 55 #[.string a0, .int .u8 a1] w fun e w' => e = .returned (.int .i64 r) ∧ Drawn0 w w' := by
  obtain rfl := Option.some.inj h
  exact (Tryd.strings_IndexByte a0 a1 w).mono fun e w' ⟨he, hw⟩ => ⟨he, by subst hw; exact Drawn0.refl _⟩

def strings_ToLower.f (a0 : ByteArray) : Option ByteArray := if a0.size < 35184372088832 then some ⟨(Lib.toLowerD a0.data.toList).toArray⟩ else none
theorem strings_ToLower.calls (a0 : ByteArray) (r : ByteArray) (w : World) (h : strings_ToLower.f a0 = some r) (hT : Tabs w) :
    Calls Tryd.prog 30 #[.string a0] w fun e w' => e = .returned (.string r) ∧ Below w.heap.size w w' := by
  unfold strings_ToLower.f at h
  split at h
  · rename_i hs
    obtain rfl := Option.some.inj h
    exact Tryd.strings_ToLower_any a0 w hs hT.cases_ hT.utf8
  · cases h
end Go.Proofs.YtgimbkfahfnplaaDoor.X1
