/- Package script's Letters as a Lean function with its contract; conditions: words shorter than 2^45 bytes, and that the world holds Go's tables. -/
import Derived.Test.YtgimbkfahfnplaaDoorLn
import Derived.Test.YtgimbkfahfnplaaDoorLe
namespace Go.Proofs.YtgimbkfahfnplaaDoor.X2
open Go.RowKit Go.Lib Go.Proofs.YtgimbkfahfnplaaDoorW.PrintWords Go.Proofs.YtgimbkfahfnplaaDoor.X1

/-- A string of some bytes. -/
def bs (l : List UInt8) : ByteArray := ⟨l.toArray⟩
theorem bs_data (s : ByteArray) : bs s.data.toList = s := rfl
theorem data_bs (l : List UInt8) : (bs l).data.toList = l := rfl
def script_Letters.f (a0 : Int) (a1 : ByteArray) : Option (List ByteArray × Int) := if a1.size ≤ 35184372088831 then some ((Scr.lettersE a0 a1.data.toList).1.map bs, (Scr.lettersE a0 a1.data.toList).2) else none
theorem script_Letters.calls (a0 : Int) (a1 : ByteArray) (r1 : List ByteArray) (r2 : Int) (w : World) (h : script_Letters.f a0 a1 = some (r1, r2)) (hT : Tabs w) :
    Calls Tryd.prog 14 #[.int .i64 a0, .string a1] w fun e w' => ∃ v0_ : Value, e = .returned (.tuple #[v0_, .int .i64 r2]) ∧ Kd.R Kd.string 9 w' w.heap.size (fun _ => True) v0_ r1 ∧ Below w.heap.size w w' := by
  unfold script_Letters.f at h
  split at h
  · rename_i hs
    have h := Option.some.inj h
    rw [Prod.mk.injEq] at h
    obtain ⟨rfl, rfl⟩ := h
    refine (Lt.Letters_any a0 a1 hs w (Ln.lenSaid w hT)).mono ?_
    rintro e w' ⟨v, q1, q2, rfl, he, hr, hb⟩
    rw [he]
    refine ⟨v, rfl, ?_, hb⟩
    have : (q1.map (fun t : ByteArray => t.data.toList)).map bs = q1 := by rw [List.map_map]; exact List.map_id _
    rw [this]
    exact hr
  · cases h
end Go.Proofs.YtgimbkfahfnplaaDoor.X2
