/- The key of a part. -/
import Derived.Test.YtcigobiolbojhaaMapG
import Derived.DeepKeys4
namespace Go.Proofs.Ytcigobiolbojhaa.Vb
open Go.RowKit
open Go.Maps (Keyed)

theorem laidOut : laidOutB Try.prog = true := by kernel_rfl
theorem placeRow : (218 : TypeId) < Try.prog.types.size := of_decide_eq_true (by kernel_rfl)
theorem placeKeyed : Keyed Try.prog 218 := Keyed.of_law (deep_law_laid laidOut (m := 3) (by omega) placeRow (by kernel_rfl) (by rw [Try.underlying218]))
theorem placeType : Try.prog.keyType 218 = true := by kernel_rfl
theorem placeCells : Try.prog.cellsOf 218 = 2 := by kernel_rfl
theorem intCells : Try.prog.cellsOf 3 = 1 := by kernel_rfl
theorem goodsCells : Try.prog.cellsOf 43 = 1 := by kernel_rfl
theorem typesSize : ∃ m, Try.prog.types.size = m + 2 := ⟨Try.prog.types.size - 2, by
  have : 2 ≤ Try.prog.types.size := of_decide_eq_true (by kernel_rfl)
  omega⟩

theorem placeKey (k f : Int) (hk : (Lit.int .i64 k).wf = true) (hf : (Lit.int .u32 f).wf = true) : ∃ kl, keyOf Try.prog 218 (.agg #[.int .i64 k, .int .u32 f]) = some kl := by
  obtain ⟨m, hm⟩ := typesSize
  have hfo : (Value.agg #[.int .i64 k, .int .u32 f]).formed Try.prog 218 = true := by simp [Value.formed, Try.underlying218, placeCells]
  have hls : Try.prog.keyLits (Try.prog.types.size + 1) 218 [.int .i64 k, .int .u32 f] = some [.int .i64 k, .int .u32 f] := by
    rw [hm]
    simp [Program.keyLits, Try.underlying218, Try.underlying3, Try.underlying43, placeCells, intCells, goodsCells, hk, hf]
  refine ⟨.string (keyBytes [.int .i64 k, .int .u32 f]), ?_⟩
  unfold keyOf
  rw [Try.underlying218]
  simp only [placeType, hfo, Bool.and_self, if_true, Value.cells]
  rw [hls]
  rfl
end Go.Proofs.Ytcigobiolbojhaa.Vb
