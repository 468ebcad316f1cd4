/- Law 17's own: three, works. -/
import Derived.Test.YtcigobiolbojhaaEach1
namespace Go.Proofs.Ytcigobiolbojhaa.Vb
open Go.RowKit

def bs3 : List (List Off) := [[⟨1, 6⟩, ⟨3, 9⟩], [⟨2, 5⟩], [⟨3, 10⟩]]

theorem Sl.blk {w : World} {g n cap sz : Nat} {t : TypeId} {cs : Array Value} (h : Blk w g t cs) (h1 : n ≤ cap) (h2 : cap ≤ maxLen) (h3 : cs.size = n * sz) : Sl w (fun _ => True) (.slice (some ⟨g, 0, none⟩) n cap) n sz cs.toList :=
  ⟨by simpa using h3, some ⟨g, 0, none⟩, cap, rfl, h1, h2, fun _ => ⟨g, 0, rfl, trivial, h.lt, fun j u hj => by
    rw [show 0 + j = j from by omega]
    exact (h.cell j).trans (by simpa using hj)⟩⟩

theorem three_buys {w : World} {g g1 g2 g3 : Nat} {t u : TypeId} (h1 : Blk w g1 t #[.int .u32 1, .int .i64 6, .int .u32 3, .int .i64 9]) (h2 : Blk w g2 t #[.int .u32 2, .int .i64 5]) (h3 : Blk w g3 t #[.int .u32 3, .int .i64 10])
    (h : Blk w g u #[.slice (some ⟨g1, 0, none⟩) 2 2, .slice (some ⟨g2, 0, none⟩) 1 1, .slice (some ⟨g3, 0, none⟩) 1 1]) : Buys w (fun _ => True) (.slice (some ⟨g, 0, none⟩) 3 3) bs3 := by
  refine ⟨_, Sl.blk (sz := 1) h (by omega) (by unfold maxLen; omega) rfl, fun k l hk => ?_⟩
  rcases k with _ | _ | _ | k
  · obtain rfl : [⟨1, 6⟩, ⟨3, 9⟩] = l := by simpa [bs3] using hk
    exact ⟨_, rfl, Sl.blk (sz := 2) h1 (by omega) (by unfold maxLen; omega) rfl, fun o ho => by simp at ho; rcases ho with rfl | rfl <;> simp [Off.wf]⟩
  · obtain rfl : [⟨2, 5⟩] = l := by simpa [bs3] using hk
    exact ⟨_, rfl, Sl.blk (sz := 2) h2 (by omega) (by unfold maxLen; omega) rfl, fun o ho => by simp at ho; subst ho; simp [Off.wf]⟩
  · obtain rfl : [⟨3, 10⟩] = l := by simpa [bs3] using hk
    exact ⟨_, rfl, Sl.blk (sz := 2) h3 (by omega) (by unfold maxLen; omega) rfl, fun o ho => by simp at ho; subst ho; simp [Off.wf]⟩
  · simp [bs3] at hk

theorem Blk.new' {w : World} {g : Nat} (t : TypeId) (cs : Array Value) (hg : w.heap.size = g) : Blk (w.alloc (.cells cs t)) g t cs := by subst hg; exact Blk.new w t cs

set_option maxHeartbeats 800000 in
theorem three_any (w : World) :
    Calls Try.prog 76 #[] w fun e w' => ∃ A cap, e = .returned (.agg #[.int .i64 2, .slice A 3 cap]) ∧ Buys w' (fun _ => True) (.slice A 3 cap) bs3 ∧ Below w.heap.size w w' := by
  go_enter Try.func76, Try.ntmps76
  go_wp2
  refine bodyPost_ret (v := .agg #[.int .i64 2, .slice (some ⟨w.heap.size + 1 + 1 + 1 + 1, 0, none⟩) 3 3]) (by simp [results, Try.results76, go_sem]) rfl ⟨_, _, rfl, three_buys (((Blk.new' _ _ (by simp)).alloc _).alloc _ |>.alloc _) (((Blk.new' _ _ (by simp)).alloc _).alloc _) ((Blk.new' _ _ (by simp)).alloc _) (Blk.new' _ _ (by simp)), ?_⟩
  exact (((((Below.refl _ _).alloc (Nat.le_refl _) _).alloc (by simp) _).alloc (by simp; omega) _).alloc (by simp; omega) _).alloc (by simp; omega) _

theorem bs3_inst : instE 2 bs3 = 0 := by decide
theorem bs3_W : W bs3 (allOf 2) = 11 := by decide
theorem bs3_pays : paysC 2 bs3 = [5, 4, 0] := by decide
theorem bs3_wo : woW 2 bs3 0 = 10 := by decide
theorem bs3_with : withE 2 bs3 0 [] = 0 := by decide
end Go.Proofs.Ytcigobiolbojhaa.Vb
