/- A seat's facts for the last step. -/
import Derived.Test.YtcigobiolbojhaaRows
import Derived.Test.YtcigobiolbojhaaLaw
namespace Go.Proofs.Ytcigobiolbojhaa.Vb
open Go.RowKit Go.WideShapes Go.ChangeShapes Go.ChangeAt Go.Joins Go.Deep

theorem own : ownKnob Try.prog.godebug = none := by kernel_rfl
theorem kids : Kids Try.prog (· < Try.prog.types.size) := kids_rows (by kernel_rfl) (by kernel_rfl)
theorem full : ∀ t e, t < Try.prog.types.size → Try.prog.underlying t = some (.slice e) → 0 < Try.prog.cellsOf e := slices_full_of Try.prog (by kernel_rfl)

set_option maxRecDepth 100000 in
/-- an instance that came in -/
theorem open_inst {H : Type} {enc : TypeId × Value → H} {w : World} {base : Nat} {held : Bool} {r : Reach} {b0 : Nat} {v : Value} {d : DataW H} {p : List MemPlace}
    (hv : Value.okWide Try.prog w r b0 24 v) (h : DataW.Trod enc Try.prog w base (fun _ => true) held 24 v d p) :
    ∃ (n : Int) (vb : Value) (bs : List (List Off)), v = .agg #[.int .i64 n, vb] ∧ -9223372036854775808 ≤ n ∧ n ≤ 9223372036854775807 ∧ Buys w (fun _ => True) vb bs := by
  obtain ⟨v0, v1, y0, y1, k, rfl, _, _, h0, h1⟩ := open_agg2 Try.underlying24 (by kernel_rfl) (by kernel_rfl) hv h
  obtain ⟨n, e, _, w0⟩ := DataW.trod_int Try.underlying3 h0
  simp at e
  subst e
  obtain ⟨bs, hbs⟩ := open_buys Try.underlying22 (by kernel_rfl) Try.underlying41 Try.underlying45 (by kernel_rfl) (by kernel_rfl) rfl rfl (by kernel_rfl) (by kernel_rfl) (by kernel_rfl) h1
  exact ⟨n, v1, bs, rfl, (bd_i64 w0).1, (bd_i64 w0).2, hbs⟩
end Go.Proofs.Ytcigobiolbojhaa.Vb
