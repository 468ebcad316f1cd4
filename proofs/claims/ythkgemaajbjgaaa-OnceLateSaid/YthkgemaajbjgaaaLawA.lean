/- A law's statement out of its walk: what stands below is read as it was; slices of records of whole numbers, opened. -/
import Derived.Test.YthkgemaajbjgaaaBase
import Derived.ChangeStays
import Derived.ReadAgain
import Derived.ChangeSame
import Derived.OpenShut
import Derived.Lib.SmallJoins
import Derived.Deep.Slices
import Derived.ProofKit
import Derived.JoinedOf
namespace Go.Proofs.Ythkgemaajbjgaaa.Vb
open Go.RowKit Go.WideShapes Go.ChangeShapes Go.ChangeAt Go.Joins Go.Deep

section
variable {H : Type} {enc : TypeId × Value → H} {P : Program} {w w' : World} {T : TypeId → Prop}
theorem sameAt_of {p : MemPlace} (hb : Below w.heap.size w w') (hp : p.block < w.heap.size) : w.sameAt w' p := by
  cases p with
  | cell b off => exact hb.cell (p := ⟨b, off, none⟩) hp
  | map b => exact hb.block b hp
theorem trodAll_stays (K : Kids P T) (hz : ∀ t e, T t → P.underlying t = some (.slice e) → 0 < P.cellsOf e) {base : Nat} {sp' : Nat → Bool} (hb : Below w.heap.size w w') :
    ∀ {ts : List TypeId} {vs : List Value} {ds : List (DataW H)} {ps : List MemPlace}, (∀ t ∈ ts, T t) → DataW.TrodAll enc P w base (fun _ => true) true ts vs ds ps → (∀ p ∈ ps, p.block < w.heap.size) → (∀ p ∈ ps, sp' p.block = true) →
      DataW.TrodAll enc P w' base sp' true ts vs ds ps
  | [], [], [], _, _, h, _, _ => h
  | _ :: _, _ :: _, _ :: _, _, hT, ⟨p, q, ⟨fuel, h1⟩, h2, e⟩, hl, hs => by
    subst e
    exact ⟨p, q, ⟨fuel, DataW.trod_stays K (fun h1 h2 => hz _ _ h1 h2) (fun h => by cases h) (hT _ (List.mem_cons.2 (Or.inl rfl))) h1 (fun x hx => sameAt_of hb (hl x (List.mem_append_left _ hx))) (fun x hx => hs x (List.mem_append_left _ hx))⟩,
      trodAll_stays K hz hb (fun t ht => hT t (List.mem_cons.2 (Or.inr ht))) h2 (fun x hx => hl x (List.mem_append_right _ hx)) (fun x hx => hs x (List.mem_append_right _ hx)), rfl⟩

/-- the law's last step: true is told, and all that stood stands -/
theorem post_law {f : Func} {s : ChangeSpec} {apart fresh handsOn again : Bool} {W W' : World} {args : Array Value} {ds gs : List (DataW H)} {before : List MemPlace} {tb : TypeId}
    (K : Kids P T) (hz : ∀ t e, T t → P.underlying t = some (.slice e) → 0 < P.cellsOf e) (hT : ∀ t ∈ f.params.toList, T t) (hvs : s.vars = []) (hbool : P.underlying tb = some .bool) (hrt : f.resultTypes = #[tb])
    (hW : DataW.Whole enc P f.params.toList s.vars apart W args.toList ds gs before)
    (hfn : s.fn H (ds ++ gs) = { results := [.lit (.bool true)], args := ds }) (hb : Below W.heap.size W W') : s.post enc P f apart fresh handsOn again W args (.bool true) W' := by
  have hlt : ∀ p ∈ before, p.block < W.heap.size := fun p hp => hW.lt p hp
  have hold : ∀ p ∈ before, (fun b => decide (b < W.heap.size)) p.block = true := fun p hp => by simpa using hlt p hp
  have hW0 := hW
  obtain ⟨p, q, hA, hV, hps, hz0, hn0⟩ := hW0
  rw [hvs] at hV
  obtain ⟨rfl, rfl⟩ := trodVars_none hV
  simp only [List.append_nil] at hps
  subst hps
  have hres : ∀ (b : Nat) (sp : Nat → Bool) (hd : Bool), DataW.TrodAll enc P W' b sp hd f.resultTypes.toList ((Value.bool true).resultList f.resultTypes.size) (s.fn H (ds ++ [])).results [] := fun b sp hd => by
    rw [hfn, hrt]
    exact trodAll_cons_mk (shut_bool hbool true) trodAll_mk0
  have hargs : ∀ sp : Nat → Bool, (∀ p ∈ before, sp p.block = true) → DataW.TrodAll enc P W' 0 sp true f.params.toList args.toList (s.fn H (ds ++ [])).args before := fun sp hsp => by
    rw [hfn]
    exact trodAll_stays K hz hb hT hA hlt hsp
  have hvars : ∀ sp : Nat → Bool, DataW.TrodVars enc P W' sp s.vars (s.fn H (ds ++ [])).vars [] := fun sp => by
    rw [hfn, hvs]
    rfl
  refine ⟨ds, [], before, [], before, [], hW, hres _ _ _, hargs _ hold, hvars _, World.keptBut_mono (fun p hp => ⟨hp, ?_⟩) (hb.frame (· ∈ before)), fun _ => ?_⟩
  · simpa using hp
  · refine ⟨ok_one hrt rfl (okWide_bool_mk hbool _), _, _, ([] ++ before) ++ [], ⟨[] ++ before, [], trodAll_append (hargs _ (fun _ _ => rfl)) (hres _ _ _), hvars _, rfl, ?_, ?_⟩, ?_⟩
    · intro b off hp
      have hin : MemPlace.cell b off ∈ before := by simpa using hp
      rw [hb.frozen (hlt _ hin)]
      exact hz0 b off hin
    · intro ha
      simpa using hn0 ha
    · intro p hp _
      simpa using hp
end

section
variable {H : Type} {enc : TypeId × Value → H} {P : Program} {w : World} {base : Nat} {held : Bool}
theorem bd_i64 {n : Int} (h : (Lit.int .i64 n).wf = true) : -9223372036854775808 ≤ n ∧ n ≤ 9223372036854775807 := by
  simpa [Lit.wf, IntKind.min, IntKind.max, IntKind.signed, IntKind.bits] using h
theorem bd_u32 {n : Int} (h : (Lit.int .u32 n).wf = true) : 0 ≤ n ∧ n ≤ 4294967295 := by
  simpa [Lit.wf, IntKind.min, IntKind.max, IntKind.signed, IntKind.bits] using h
theorem addr_of_cell {a : Addr} {v : Value} (h : w.cell? (a.add 0) = some v) : ∃ b off, a = ⟨b, off, none⟩ := by
  obtain ⟨b, off, spot⟩ := a
  have hspot : spot = none := by simpa [Addr.add] using World.cell?_spot h
  exact ⟨b, off, by rw [hspot]⟩
theorem add_lit' (b off k : Nat) : (⟨b, off, none⟩ : Addr).add k = ⟨b, off + k, none⟩ := Addr.add_lit b off k

theorem flat_eq {α : Type} {f g : α → List Value} : ∀ {l : List α}, (∀ a ∈ l, f a = g a) → l.flatMap f = l.flatMap g
  | [], _ => rfl
  | x :: r, h => by
    rw [List.flatMap_cons, List.flatMap_cons, h x (by simp), flat_eq fun a ha => h a (by simp [ha])]
theorem flat_len {α : Type} {f : α → List Value} {n : Nat} : ∀ {l : List α}, (∀ a ∈ l, (f a).length = n) → (l.flatMap f).length = l.length * n
  | [], _ => by simp
  | x :: r, h => by
    have := flat_len (f := f) (n := n) (l := r) fun a ha => h a (by simp [ha])
    have h1 := h x (by simp)
    rw [List.flatMap_cons, List.length_append, this, h1, List.length_cons, Nat.add_mul]
    omega
theorem flat_at {α : Type} {f : α → List Value} {n : Nat} : ∀ {l : List α} {i j : Nat} {a : α} {u : Value}, (∀ a ∈ l, (f a).length = n) → l[i]? = some a → j < n → (f a)[j]? = some u → (l.flatMap f)[i * n + j]? = some u
  | [], i, j, a, u, _, h, _, _ => by simp at h
  | x :: r, 0, j, a, u, hl, h, hj, hu => by
    simp at h
    subst h
    rw [List.flatMap_cons, Nat.zero_mul, Nat.zero_add, List.getElem?_append_left (by rw [hl x (by simp)]; exact hj)]
    exact hu
  | x :: r, i + 1, j, a, u, hl, h, hj, hu => by
    have h1 := hl x (by simp)
    have ih := flat_at (l := r) (i := i) (j := j) (a := a) (u := u) (fun a ha => hl a (by simp [ha])) (by simpa using h) hj hu
    rw [List.flatMap_cons, List.getElem?_append_right (by rw [h1, Nat.add_mul]; omega), h1, show (i + 1) * n + j - n = i * n + j from by rw [Nat.add_mul]; omega]
    exact ih

/-- a slice of records of whole numbers that came in -/
theorem open_recs {t e : TypeId} {fs : Array Field} {n : Nat} (ht : P.underlying t = some (.slice e)) (he : P.underlying e = some (.struct fs)) (hn : fs.size = n) (h0 : 0 < n)
    (hfs : ∀ (i : Nat) (f : Field), fs[i]? = some f → P.underlying f.type = some (.int .i64) ∧ f.offset = i ∧ P.cellsOf f.type = 1) (hC : P.cellsOf e = n) {fuel : Nat} {v : Value} {x : DataW H × List MemPlace}
    (h : DataW.trod enc P w base (fun _ => true) held fuel t [v] = some x) :
    ∃ (len : Nat) (F : Nat → List Int), Sl w (fun _ => True) v len n ((List.range len).flatMap fun i => (F i).map (Value.int .i64)) ∧ ∀ i, i < len → (F i).length = n ∧ ∀ z ∈ F i, -9223372036854775808 ≤ z ∧ z ≤ 9223372036854775807 := by
  rcases open_slice ht h with ⟨hcs, _⟩ | ⟨a, len, cap, m, n', D, Pl, hcs, _, hl, hm, hmm, _, hi⟩
  · obtain rfl : v = .slice none 0 0 := by simpa using hcs
    exact ⟨0, fun _ => [], ⟨by simp, none, 0, rfl, Nat.le_refl _, Nat.zero_le _, fun h => absurd h (by simp)⟩, fun i hi => absurd hi (by omega)⟩
  · obtain rfl : v = .slice (some a) len cap := by simpa using hcs
    simp only [if_true] at hmm
    have hmm' := hmm.symm
    subst hmm'
    have each : ∀ i, i < len → ∃ r : List Int, r.length = n ∧ (∀ z ∈ r, -9223372036854775808 ≤ z ∧ z ≤ 9223372036854775807) ∧ ∀ j z, r[j]? = some z → w.cell? (a.add (i * n + j)) = some (.int .i64 z) := by
      intro i hlt
      obtain ⟨cs', hc, ht'⟩ := hi i (by omega)
      rw [hC] at hc
      obtain ⟨xs, n'', _, _, hcl2, hxl, hg⟩ := DataW.trod_struct he ht'
      obtain ⟨_, hcl, hat⟩ := World.cells?_some hc
      have cell : ∀ j, j < n → ∃ z : Int, cs'[j]? = some (.int .i64 z) ∧ -9223372036854775808 ≤ z ∧ z ≤ 9223372036854775807 := by
        intro j hj
        obtain ⟨f, hf⟩ : ∃ f, fs[j]? = some f := ⟨_, Array.getElem?_eq_getElem (by omega)⟩
        obtain ⟨f1, f2, f3⟩ := hfs j f hf
        have g := hg j f hf
        rw [f2, f3] at g
        obtain ⟨y, hy⟩ : ∃ y, xs[j]? = some y := ⟨_, List.getElem?_eq_getElem (by omega)⟩
        rw [hy] at g
        obtain ⟨z, ez, _, wz⟩ := DataW.trod_int f1 g
        refine ⟨z, ?_, bd_i64 wz⟩
        have hd : (cs'.drop j).take 1 = [cs'[j]'(by omega)] := by
          rw [List.drop_eq_getElem_cons (by omega)]
          rfl
        rw [hd] at ez
        rw [List.getElem?_eq_getElem (by omega)]
        injection ez with ez
        rw [ez]
      obtain ⟨G, hG⟩ := choose_lt cell
      refine ⟨(List.range n).map G, by simp, fun z hz => ?_, fun j z hj => ?_⟩
      · obtain ⟨j, hj, rfl⟩ := List.mem_map.1 hz
        exact (hG j (List.mem_range.1 hj)).2
      · have hjn : j < n := by simpa using (List.getElem?_eq_some_iff.1 hj).1
        rw [List.getElem?_map, List.getElem?_range hjn] at hj
        simp at hj
        subst hj
        have := hat j hjn
        rw [(hG j hjn).1] at this
        simpa [add_add] using this
    obtain ⟨F, hF⟩ := choose_lt each
    have hlen : ∀ i ∈ List.range len, ((F i).map (Value.int .i64)).length = n := fun i hi => by rw [List.length_map]; exact (hF i (List.mem_range.1 hi)).1
    refine ⟨len, F, ⟨by rw [flat_len hlen, List.length_range], some a, cap, rfl, by simpa using hl, hm, fun h0' => ?_⟩, fun i hi => ⟨(hF i hi).1, (hF i hi).2.1⟩⟩
    have cellOf : ∀ i j, i < len → j < n → ∃ z, (F i)[j]? = some z ∧ w.cell? (a.add (i * n + j)) = some (.int .i64 z) := fun i j hi hj => by
      obtain ⟨z, hz⟩ : ∃ z, (F i)[j]? = some z := ⟨_, List.getElem?_eq_getElem (by rw [(hF i hi).1]; exact hj)⟩
      exact ⟨z, hz, (hF i hi).2.2 j z hz⟩
    obtain ⟨z0, _, hz0⟩ := cellOf 0 0 h0' h0
    obtain ⟨b, off, rfl⟩ := addr_of_cell (w := w) (a := a) (by simpa using hz0)
    refine ⟨b, off, rfl, trivial, World.block_lt_of_cell? w ⟨b, off, none⟩ (u := .int .i64 z0) (by simpa [Addr.add] using hz0), fun j u hu => ?_⟩
    have hj : j < len * n := by
      have := (List.getElem?_eq_some_iff.1 hu).1
      rw [flat_len hlen, List.length_range] at this
      exact this
    have hq1 : j / n < len := Nat.div_lt_of_lt_mul (by rw [Nat.mul_comm]; exact hj)
    have hq2 : j % n < n := Nat.mod_lt _ h0
    have hq3 : j / n * n + j % n = j := by rw [Nat.mul_comm]; exact Nat.div_add_mod j n
    obtain ⟨z, hz1, hz2⟩ := cellOf (j / n) (j % n) hq1 hq2
    have := flat_at (f := fun i => (F i).map (Value.int .i64)) (l := List.range len) (i := j / n) (j := j % n) (a := j / n) (u := .int .i64 z) hlen (by rw [List.getElem?_range hq1]) hq2 (by rw [List.getElem?_map, hz1]; rfl)
    rw [hq3, hu] at this
    injection this with this
    subst this
    rw [← add_lit', ← hq3]
    exact hz2
/-- ints of one record each, as a list of records -/
theorem recs_all {n len : Nat} {F : Nat → List Int} (h : ∀ i, i < len → (F i).length = n ∧ ∀ z ∈ F i, -9223372036854775808 ≤ z ∧ z ≤ 9223372036854775807) {i : Nat} (hi : i < len) {j : Nat} (hj : j < n) : ∃ z, (F i)[j]? = some z ∧ -9223372036854775808 ≤ z ∧ z ≤ 9223372036854775807 := by
  obtain ⟨h1, h2⟩ := h i hi
  have hz : (F i)[j]? = some ((F i)[j]'(by omega)) := List.getElem?_eq_getElem (by omega)
  exact ⟨_, hz, h2 _ (List.getElem_mem _)⟩
end

theorem own : ownKnob Try.prog.godebug = none := by kernel_rfl
theorem kids : Kids Try.prog (· < Try.prog.types.size) := kids_rows (by kernel_rfl) (by kernel_rfl)
theorem full : ∀ t e, t < Try.prog.types.size → Try.prog.underlying t = some (.slice e) → 0 < Try.prog.cellsOf e := slices_full_of Try.prog (by kernel_rfl)
end Go.Proofs.Ythkgemaajbjgaaa.Vb
