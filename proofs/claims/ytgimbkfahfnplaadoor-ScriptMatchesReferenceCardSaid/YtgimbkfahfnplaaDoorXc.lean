/- The library's search for one byte as a Lean function with its contract; conditions: a separator of one byte. -/
import Derived.Test.YtgimbkfahfnplaaDoorX1
namespace Go.Proofs.YtgimbkfahfnplaaDoor.Xc
open Go.RowKit Go.Shelf Go.Lib Go.Proofs.YtgimbkfahfnplaaDoorW.PrintWords Go.Proofs.YtgimbkfahfnplaaDoorW.PrintLast
def stringslite_Index.f (a0 : ByteArray) (a1 : ByteArray) : Option Int := match a1.data.toList with | [c] => some (Lib.indexByte a0.data.toList c) | _ => none
theorem stringslite_Index.calls (a0 : ByteArray) (a1 : ByteArray) (r : Int) (w : World) (h : stringslite_Index.f a0 a1 = some r) :
    Calls Tryd.prog 54 #[.string a0, .string a1] w fun e w' => e = .returned (.int .i64 r) ∧ Drawn0 w w' := by
  obtain ⟨⟨l⟩⟩ := a1
  unfold stringslite_Index.f at h
  split at h
  · rename_i c hc
    simp only at hc
    subst hc
    obtain rfl := Option.some.inj h
    exact (Tryd.stringslite_Index_one a0 c w).mono fun e w' ⟨he, hw⟩ => ⟨he, by subst hw; exact Drawn0.refl _⟩
  · cases h
end Go.Proofs.YtgimbkfahfnplaaDoor.Xc
