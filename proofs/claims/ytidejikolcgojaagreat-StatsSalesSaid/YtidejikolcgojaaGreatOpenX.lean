/- Stats: sales that come in, opened. -/
import Derived.Test.YtidejikolcgojaaGreatLawA
import Derived.Test.YtidejikolcgojaaGreatSaA
namespace Go.Proofs.YtidejikolcgojaaGreat.St
open Go.RowKit Go.WideShapes Go.ChangeShapes Go.ChangeAt Go.Joins Go.Deep
open Go.Proofs.YtidejikolcgojaaGreat.Vb

theorem bd_i64x {n : Int} (h : (Lit.int .i64 n).wf = true) : -9223372036854775808 ≤ n ∧ n ≤ 9223372036854775807 := by
  simp [Lit.wf, IntKind.min, IntKind.max, IntKind.signed, IntKind.bits] at h
  omega
/-- a slice of records of whole numbers of these kinds that came in -/
theorem open_recsK {H : Type} {enc : TypeId × Value → H} {P : Program} {w : World} {base : Nat} {held : Bool} {t e : TypeId} {fs : Array Field} {n : Nat} (kd : Nat → IntKind) (ht : P.underlying t = some (.slice e)) (he : P.underlying e = some (.struct fs)) (hn : fs.size = n) (h0 : 0 < n)
    (hfs : ∀ (i : Nat) (f : Field), fs[i]? = some f → P.underlying f.type = some (.int (kd i)) ∧ f.offset = i ∧ P.cellsOf f.type = 1) (hC : P.cellsOf e = n) {fuel : Nat} {v : Value} {x : DataW H × List MemPlace}
    (h : DataW.trod enc P w base (fun _ => true) held fuel t [v] = some x) :
    ∃ (len : Nat) (F : Nat → Nat → Int), Sl w (fun _ => True) v len n ((List.range len).flatMap fun i => (List.range n).map fun j => Value.int (kd j) (F i j)) ∧ ∀ i j, i < len → j < n → (Lit.int (kd j) (F i j)).wf = true := by
  rcases open_slice ht h with ⟨hcs, _⟩ | ⟨a, len, cap, m, n', D, Pl, hcs, _, hl, hm, hmm, _, hi⟩
  · obtain rfl : v = .slice none 0 0 := by simpa using hcs
    exact ⟨0, fun _ _ => 0, ⟨by simp, none, 0, rfl, Nat.le_refl _, Nat.zero_le _, fun h => absurd h (by simp)⟩, fun i j hi => absurd hi (by omega)⟩
  · obtain rfl : v = .slice (some a) len cap := by simpa using hcs
    simp only [if_true] at hmm
    have hmm' := hmm.symm
    subst hmm'
    have each : ∀ i, i < len → ∃ r : Nat → Int, ∀ j, j < n → (Lit.int (kd j) (r j)).wf = true ∧ w.cell? (a.add (i * n + j)) = some (.int (kd j) (r j)) := by
      intro i hlt
      obtain ⟨cs', hc, ht'⟩ := hi i (by omega)
      rw [hC] at hc
      obtain ⟨xs, n'', _, _, hcl2, hxl, hg⟩ := DataW.trod_struct he ht'
      obtain ⟨_, hcl, hat⟩ := World.cells?_some hc
      have cell : ∀ j, j < n → ∃ z : Int, cs'[j]? = some (.int (kd j) z) ∧ (Lit.int (kd j) z).wf = true := by
        intro j hj
        obtain ⟨f, hf⟩ : ∃ f, fs[j]? = some f := ⟨_, Array.getElem?_eq_getElem (by omega)⟩
        obtain ⟨f1, f2, f3⟩ := hfs j f hf
        have g := hg j f hf
        rw [f2, f3] at g
        obtain ⟨y, hy⟩ : ∃ y, xs[j]? = some y := ⟨_, List.getElem?_eq_getElem (by omega)⟩
        rw [hy] at g
        obtain ⟨z, ez, _, wz⟩ := DataW.trod_int f1 g
        refine ⟨z, ?_, wz⟩
        have hd : (cs'.drop j).take 1 = [cs'[j]'(by omega)] := by
          rw [List.drop_eq_getElem_cons (by omega)]
          rfl
        rw [hd] at ez
        rw [List.getElem?_eq_getElem (by omega)]
        injection ez with ez
        rw [ez]
      haveI : Inhabited Int := ⟨0⟩
      obtain ⟨G, hG⟩ := choose_lt cell
      refine ⟨G, fun j hj => ⟨(hG j hj).2, ?_⟩⟩
      have := hat j hj
      rw [(hG j hj).1] at this
      simpa [add_add] using this
    haveI : Inhabited (Nat → Int) := ⟨fun _ => 0⟩
    obtain ⟨F, hF⟩ := choose_lt each
    have hlen : ∀ i ∈ List.range len, ((List.range n).map fun j => Value.int (kd j) (F i j)).length = n := fun i hi => by rw [List.length_map, List.length_range]
    refine ⟨len, F, ⟨by rw [flat_len hlen, List.length_range], some a, cap, rfl, by simpa using hl, hm, fun h0' => ?_⟩, fun i j hi hj => (hF i hi j hj).1⟩
    have hz0 := (hF 0 h0' 0 h0).2
    obtain ⟨b, off, rfl⟩ := addr_of_cell (w := w) (a := a) (by simpa using hz0)
    refine ⟨b, off, rfl, trivial, World.block_lt_of_cell? w ⟨b, off, none⟩ (u := .int (kd 0) (F 0 0)) (by simpa [Addr.add] using hz0), fun j u hu => ?_⟩
    have hj : j < len * n := by
      have := (List.getElem?_eq_some_iff.1 hu).1
      rw [flat_len hlen, List.length_range] at this
      exact this
    have hq1 : j / n < len := Nat.div_lt_of_lt_mul (by rw [Nat.mul_comm]; exact hj)
    have hq2 : j % n < n := Nat.mod_lt _ h0
    have hq3 : j / n * n + j % n = j := by rw [Nat.mul_comm]; exact Nat.div_add_mod j n
    have := flat_at (f := fun i => (List.range n).map fun j => Value.int (kd j) (F i j)) (l := List.range len) (i := j / n) (j := j % n) (a := j / n) (u := .int (kd (j % n)) (F (j / n) (j % n))) hlen (by rw [List.getElem?_range hq1]) hq2 (by rw [List.getElem?_map, List.getElem?_range hq2]; rfl)
    rw [hq3, hu] at this
    injection this with this
    subst this
    rw [← add_lit', ← hq3]
    have h2 := (hF (j / n) hq1 (j % n) hq2).2
    rw [hq3] at h2 ⊢
    exact h2
def kdS (j : Nat) : IntKind := if j = 4 then .u32 else .i64
set_option maxRecDepth 100000 in
theorem open_sales {H : Type} {enc : TypeId × Value → H} {w : World} {base : Nat} {held : Bool} {r : Reach} {b0 : Nat} {v : Value} {d : DataW H} {p : List MemPlace}
    (hv : Value.okWide Tryz.prog w r b0 53 v) (h : DataW.Trod enc Tryz.prog w base (fun _ => true) held 53 v d p) : ∃ l : List Sale, Sals w (fun _ => True) v l := by
  obtain ⟨A0, n0, c0, rfl⟩ := okWide_slice Tryz.underlying53 hv
  obtain ⟨fuel, h⟩ := h
  obtain ⟨len, F, hs, hF⟩ := open_recsK (n := 7) kdS Tryz.underlying53 Tryz.underlying66 rfl (by decide)
    (fun i f hf => by
      match i, hf with
      | 0, hf => obtain rfl := Option.some.inj hf; exact ⟨by kernel_rfl, rfl, by kernel_rfl⟩
      | 1, hf => obtain rfl := Option.some.inj hf; exact ⟨by kernel_rfl, rfl, by kernel_rfl⟩
      | 2, hf => obtain rfl := Option.some.inj hf; exact ⟨by kernel_rfl, rfl, by kernel_rfl⟩
      | 3, hf => obtain rfl := Option.some.inj hf; exact ⟨by kernel_rfl, rfl, by kernel_rfl⟩
      | 4, hf => obtain rfl := Option.some.inj hf; exact ⟨by kernel_rfl, rfl, by kernel_rfl⟩
      | 5, hf => obtain rfl := Option.some.inj hf; exact ⟨by kernel_rfl, rfl, by kernel_rfl⟩
      | 6, hf => obtain rfl := Option.some.inj hf; exact ⟨by kernel_rfl, rfl, by kernel_rfl⟩
      | i + 7, hf => simp at hf) (by kernel_rfl) h
  have e : scells ((List.range len).map fun i => (⟨F i 0, F i 1, F i 2, F i 3, F i 4, F i 5, F i 6⟩ : Sale)) = (List.range len).flatMap fun i => (List.range 7).map fun j => Value.int (kdS j) (F i j) := by
    unfold scells
    rw [List.flatMap_map]
    rfl
  refine ⟨(List.range len).map fun i => ⟨F i 0, F i 1, F i 2, F i 3, F i 4, F i 5, F i 6⟩, ⟨?_, fun s hs => ?_⟩⟩
  · rw [e, List.length_map, List.length_range]
    exact hs
  · obtain ⟨i, hi, rfl⟩ := List.mem_map.1 hs
    have hi := List.mem_range.1 hi
    exact ⟨bd_i64x (hF i 1 hi (by decide)), bd_i64x (hF i 2 hi (by decide)), bd_i64x (hF i 3 hi (by decide)), bd_i64x (hF i 6 hi (by decide))⟩
end Go.Proofs.YtidejikolcgojaaGreat.St
