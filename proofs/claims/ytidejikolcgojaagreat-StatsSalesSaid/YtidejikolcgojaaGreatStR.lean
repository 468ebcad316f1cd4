/- Stats: rows without NaN; the ends. -/
import Derived.Test.YtidejikolcgojaaGreatStQ
namespace Go.Proofs.YtidejikolcgojaaGreat.St
open Go.RowKit Go.Shelf Go.Sort
open Go.Proofs.YtidejikolcgojaaGreat.Vb Go.Proofs.YtidejikolcgojaaGreat.Ac
attribute [local go_sem] run_fadd run_fsub run_fmul run_fdiv run_store_float

abbrev encF : Nat → Value := Value.float .f64
theorem nan_at (w : World) : PredAt Tryz.prog 47 #[] encF isN w := fun W x _ => by
  refine (isNaN_any x W).mono ?_
  rintro e w' ⟨rfl, rfl⟩
  exact ⟨rfl, 0, rfl⟩
theorem nan_over (blk off size : Nat) (w : World) : PredOver Tryz.prog 47 #[] encF isN blk off size w := fun n os dk x _ => by
  refine (isNaN_any x _).mono ?_
  rintro e w' ⟨rfl, rfl⟩
  exact ⟨rfl, 0, rfl⟩
theorem nan_enters : ∀ args w, (callFunc 47 args).run Tryz.prog w = .ok (.enter 47 args) w := enters_of Tryz.func47 (by kernel_rfl) rfl
theorem contains_any {l : List Nat} {v : Value} {R : Nat → Prop} {w : World} (h : Fls w R v l) :
    Calls Tryz.prog 60 #[v, .func (.func 47) #[] #[]] w fun e w' => e = .returned (.bool (l.any isN)) ∧ ∃ q, w' = w.drewN q := by
  obtain ⟨⟨_, A, cap, rfl, hnc, hcap, hc⟩, hlt⟩ := h
  unfold maxLen at hcap
  by_cases he : l = []
  · subst he
    refine Calls.mono (AnyE.slices_ContainsFunc_empty (P := Tryz.prog) (ρ := st_conF_ren) st_conF A cap _ w) ?_
    rintro e w' ⟨rfl, rfl⟩
    exact ⟨rfl, 0, rfl⟩
  · obtain ⟨b, off, rfl, _, _, hcc⟩ := hc (List.length_pos_iff.2 he)
    have := AnyE.slices_ContainsFunc (P := Tryz.prog) (ρ := st_conF_ren) st_conF encF isN 47 #[] nan_enters b off l.length cap l w (nan_at w) (Nat.le_refl _) (by omega) (fun j hj => by
      refine hcc j _ ?_
      unfold flts
      rw [List.getElem?_map, List.getElem?_eq_getElem hj, getElem!_pos l j hj]
      rfl)
    rw [List.take_length] at this
    exact this

/-- a row's numbers, NaN apart -/
def okL (l : List Nat) : List Nat := l.filter fun x => !isN x
theorem okL_lt {l : List Nat} (h : ∀ x ∈ l, x < bits64) : ∀ x ∈ okL l, x < bits64 := fun x hx => h x (List.mem_filter.1 hx).1
theorem okL_length (l : List Nat) : (okL l).length ≤ l.length := List.length_filter_le _ _
theorem putF_chg {w : World} {blk off n : Nat} {d : Array Nat} : Chg (· = blk) w (putRow encF (Sort.ahead w n) blk off d) := by
  refine ⟨rfl, rfl, rfl, by rw [size_putRow]; exact Nat.le_refl _, fun k hk hne => ?_⟩
  show (w.heap.modify blk _)[k]? = _
  rw [Array.getElem?_modify, if_neg (fun e => hne e.symm)]
theorem deleteF_none {n c : Nat} {p : Option Addr} {fv : Value} {w : World} (hn : n = 0) : Calls Tryz.prog 64 #[.slice p n c, fv] w fun e w' => e = .returned (.slice p n c) ∧ w' = w := by
  subst hn
  have hi := fun W => AnyE.slices_IndexFunc_empty (P := Tryz.prog) (ρ := st_conF_ren) { st_conF with } p c fv W
  go_enter Tryz.func64, Tryz.ntmps64
  go_wp2_with fail
  refine (show Calls Tryz.prog 84 #[.slice p 0 c, fv] _ _ from hi _).mono ?_
  rintro e w' ⟨rfl, hw⟩
  rw [hw]
  clear hw
  go_wp2_with fail
  go_ret
  exact ⟨rfl, rfl⟩
theorem deleteF_any {w : World} {base g cap : Nat} {l : List Nat} (hown : OwnL w base (.slice (some ⟨g, 0, none⟩) l.length cap) l) (hle : l.length ≤ 1000) (hne : l ≠ []) :
    Calls Tryz.prog 64 #[.slice (some ⟨g, 0, none⟩) l.length cap, .func (.func 47) #[] #[]] w fun e w' =>
      e = .returned (.slice (some ⟨g, 0, none⟩) (okL l).length cap) ∧ Fls w' (· = g) (.slice (some ⟨g, 0, none⟩) (okL l).length cap) (okL l) ∧ Chg (· = g) w w' := by
  obtain ⟨ho, hlt⟩ := hown
  have hlen : 0 < l.length := List.length_pos_iff.2 hne
  obtain ⟨⟨_, A', c', hv, h1, h2, h3⟩, _⟩ := OwnL.fls ⟨ho, hlt⟩
  injection hv with hA _ hc
  subst hA hc
  obtain ⟨b, off, hb, _, hbl, _⟩ := h3 hlen
  injection hb with hb
  injection hb with hb _
  subst hb
  have hH : Holds encF w g 0 l.toArray := fun j hj => by
    have hj' : j < l.length := by simpa using hj
    refine ⟨?_, by rw [show 0 + j = j by omega]; exact own_frozenF ho j⟩
    rw [getElem!_pos _ j (by simpa using hj'), show 0 + j = j by omega, ho.cellAt j (by omega)]
    unfold flts
    rw [List.getElem?_map, List.getElem?_eq_getElem hj']
    rfl
  have hcon := AnyE.slices_DeleteFunc (P := Tryz.prog) (ρ := st_delF_ren) st_delF encF (fun _ => rfl) isN 47 #[] nan_enters 0 Tryz.zeroValue27 g 0 cap l.toArray w (nan_at w) (nan_over _ _ _ w) hH (by simp; omega) (by simpa using h1)
  have e1 : l.toArray.size = l.length := by simp
  rw [e1] at hcon
  have e2 : (l.toArray.toList.filter fun x => !isN x) = okL l := by simp [okL]
  rw [e2] at hcon
  refine Calls.mono hcon ?_
  rintro e w' ⟨rfl, q, rfl⟩
  refine ⟨rfl, ?_, putF_chg⟩
  have hol := okL_length l
  have hsz : (okL l ++ List.replicate (l.length - (okL l).length) 0).toArray.size = l.toArray.size := by simp; omega
  have hh := holds_putRow encF (Sort.ahead w q) g 0 l.toArray (okL l ++ List.replicate (l.length - (okL l).length) 0).toArray hH hsz
  refine ⟨⟨by rw [flts_length]; simp, some ⟨g, 0, none⟩, cap, rfl, by omega, h2, fun _ => ⟨g, 0, rfl, rfl, by rw [size_putRow]; exact hbl, fun j u hj => ?_⟩⟩, okL_lt hlt⟩
  have hj2 : j < (okL l).length := by simpa [flts] using (List.getElem?_eq_some_iff.1 hj).1
  have hj3 : j < (okL l ++ List.replicate (l.length - (okL l).length) 0).toArray.size := by rw [hsz]; simp; omega
  rw [(hh j hj3).1, getElem!_pos _ j hj3]
  unfold flts at hj
  rw [List.getElem?_map, List.getElem?_eq_getElem hj2] at hj
  rw [← hj]
  simp [hj2]
end Go.Proofs.YtidejikolcgojaaGreat.St
