/- Account: what comes in, opened. -/
import Derived.Test.YtibhmgeckghoeaaLawA
import Derived.Test.YtibhmgeckghoeaaAccM
namespace Go.Proofs.Ytibhmgeckghoeaa.Ac
open Go.RowKit Go.WideShapes Go.ChangeShapes Go.ChangeAt Go.Joins Go.Deep
open Go.Proofs.Ytibhmgeckghoeaa.Vb

theorem list2 {r : List Int} (h : r.length = 2) : ∃ a b, r = [a, b] := by
  match r, h with
  | [a, b], _ => exact ⟨a, b, rfl⟩
theorem open_held' {H : Type} {enc : TypeId × Value → H} {w : World} {base : Nat} {held : Bool} {fuel : Nat} {v : Value} {x : DataW H × List MemPlace}
    (h : DataW.trod enc Try.prog w base (fun _ => true) held fuel 22 [v] = some x) : ∃ l : HM, Helds w (fun _ => True) v l := by
  obtain ⟨len, F, hs, hF⟩ := open_recs (n := 2) Try.underlying22 Try.underlying29 rfl (by decide)
    (fun i f hf => by
      match i, hf with
      | 0, hf => obtain rfl := Option.some.inj hf; exact ⟨by kernel_rfl, rfl, by kernel_rfl⟩
      | 1, hf => obtain rfl := Option.some.inj hf; exact ⟨by kernel_rfl, rfl, by kernel_rfl⟩
      | i + 2, hf => simp at hf) (by kernel_rfl) h
  refine ⟨(List.range len).map fun i => ((F i).getD 0 0, (F i).getD 1 0), ⟨?_, fun p hp => ?_⟩⟩
  · have e : hcells ((List.range len).map fun i => ((F i).getD 0 0, (F i).getD 1 0)) = (List.range len).flatMap fun i => (F i).map (Value.int .i64) := by
      unfold hcells
      rw [List.flatMap_map]
      refine flat_eq fun i hi => ?_
      obtain ⟨a, b, hab⟩ := list2 (hF i (List.mem_range.1 hi)).1
      rw [hab]
      rfl
    rw [e, List.length_map, List.length_range]
    exact hs
  · obtain ⟨i, hi, rfl⟩ := List.mem_map.1 hp
    obtain ⟨h1, h2⟩ := hF i (List.mem_range.1 hi)
    obtain ⟨a, b, hab⟩ := list2 h1
    rw [hab] at h2
    simp only [hab]
    exact ⟨h2 a (by simp), h2 b (by simp)⟩
set_option maxRecDepth 100000 in
theorem open_held {H : Type} {enc : TypeId × Value → H} {w : World} {base : Nat} {held : Bool} {r : Reach} {b0 : Nat} {v : Value} {d : DataW H} {p : List MemPlace}
    (hv : Value.okWide Try.prog w r b0 22 v) (h : DataW.Trod enc Try.prog w base (fun _ => true) held 22 v d p) : ∃ l : HM, Helds w (fun _ => True) v l := by
  obtain ⟨A0, n0, c0, rfl⟩ := okWide_slice Try.underlying22 hv
  obtain ⟨fuel, h⟩ := h
  exact open_held' h
end Go.Proofs.Ytibhmgeckghoeaa.Ac
