/- Account: scripts that come in, opened. -/
import Derived.Test.YtibhmgeckghoeaaOpenA
import Derived.Test.YtibhmgeckghoeaaAccY
namespace Go.Proofs.Ytibhmgeckghoeaa.Ac
open Go.RowKit Go.WideShapes Go.ChangeShapes Go.ChangeAt Go.Joins Go.Deep
open Go.Proofs.Ytibhmgeckghoeaa.Vb

theorem list5 {r : List Int} (h : r.length = 5) : ∃ a b c d e, r = [a, b, c, d, e] := by
  match r, h with
  | [a, b, c, d, e], _ => exact ⟨a, b, c, d, e, rfl⟩
theorem open_steps' {H : Type} {enc : TypeId × Value → H} {w : World} {base : Nat} {held : Bool} {fuel : Nat} {v : Value} {x : DataW H × List MemPlace}
    (h : DataW.trod enc Try.prog w base (fun _ => true) held fuel 35 [v] = some x) : ∃ l : List St, Steps w (fun _ => True) v l := by
  obtain ⟨len, F, hs, hF⟩ := open_recs (n := 5) Try.underlying35 Try.underlying45 rfl (by decide)
    (fun i f hf => by
      match i, hf with
      | 0, hf => obtain rfl := Option.some.inj hf; exact ⟨by kernel_rfl, rfl, by kernel_rfl⟩
      | 1, hf => obtain rfl := Option.some.inj hf; exact ⟨by kernel_rfl, rfl, by kernel_rfl⟩
      | 2, hf => obtain rfl := Option.some.inj hf; exact ⟨by kernel_rfl, rfl, by kernel_rfl⟩
      | 3, hf => obtain rfl := Option.some.inj hf; exact ⟨by kernel_rfl, rfl, by kernel_rfl⟩
      | 4, hf => obtain rfl := Option.some.inj hf; exact ⟨by kernel_rfl, rfl, by kernel_rfl⟩
      | i + 5, hf => simp at hf) (by kernel_rfl) h
  refine ⟨(List.range len).map fun i => ⟨(F i).getD 0 0, (F i).getD 1 0, (F i).getD 2 0, (F i).getD 3 0, (F i).getD 4 0⟩, ⟨?_, fun p hp => ?_⟩⟩
  · have e : scells ((List.range len).map fun i => (⟨(F i).getD 0 0, (F i).getD 1 0, (F i).getD 2 0, (F i).getD 3 0, (F i).getD 4 0⟩ : St)) = (List.range len).flatMap fun i => (F i).map (Value.int .i64) := by
      unfold scells
      rw [List.flatMap_map]
      refine flat_eq fun i hi => ?_
      obtain ⟨a, b, c, d, e, hab⟩ := list5 (hF i (List.mem_range.1 hi)).1
      rw [hab]
      rfl
    rw [e, List.length_map, List.length_range]
    exact hs
  · obtain ⟨i, hi, rfl⟩ := List.mem_map.1 hp
    obtain ⟨h1, h2⟩ := hF i (List.mem_range.1 hi)
    obtain ⟨a, b, c, d, e, hab⟩ := list5 h1
    rw [hab] at h2
    unfold St.wf
    simp only [hab]
    exact ⟨h2 d (by simp), h2 e (by simp)⟩
set_option maxRecDepth 100000 in
theorem open_steps {H : Type} {enc : TypeId × Value → H} {w : World} {base : Nat} {held : Bool} {r : Reach} {b0 : Nat} {v : Value} {d : DataW H} {p : List MemPlace}
    (hv : Value.okWide Try.prog w r b0 35 v) (h : DataW.Trod enc Try.prog w base (fun _ => true) held 35 v d p) : ∃ l : List St, Steps w (fun _ => True) v l := by
  obtain ⟨A0, n0, c0, rfl⟩ := okWide_slice Try.underlying35 hv
  obtain ⟨fuel, h⟩ := h
  exact open_steps' h
end Go.Proofs.Ytibhmgeckghoeaa.Ac
