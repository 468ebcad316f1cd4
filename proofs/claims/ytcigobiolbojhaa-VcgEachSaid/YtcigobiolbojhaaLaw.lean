/- A law's statement out of its walk: what stands below is read as it was; an instance, opened. -/
import Derived.Test.YtcigobiolbojhaaBase
import Derived.Test.YtcigobiolbojhaaGoods
import Derived.Test.YtcigobiolbojhaaInst
import Derived.ChangeStays
import Derived.ReadAgain
import Derived.ChangeSame
import Derived.OpenShut
import Derived.Lib.SmallJoins
import Derived.Deep.Slices
import Derived.ProofKit
import Derived.JoinedOf
namespace Go.Proofs.Ytcigobiolbojhaa.Vb
open Go.RowKit Go.WideShapes Go.ChangeShapes Go.ChangeAt Go.Joins Go.Deep

section
variable {H : Type} {enc : TypeId × Value → H} {P : Program} {w w' : World} {T : TypeId → Prop}
theorem sameAt_of {p : MemPlace} (hb : Below w.heap.size w w') (hp : p.block < w.heap.size) : w.sameAt w' p := by
  cases p with
  | cell b off => exact hb.cell (p := ⟨b, off, none⟩) hp
  | map b => exact hb.block b hp
theorem trodAll_stays (K : Kids P T) (hz : ∀ t e, T t → P.underlying t = some (.slice e) → 0 < P.cellsOf e) {base : Nat} {sp' : Nat → Bool} (hb : Below w.heap.size w w') :
    ∀ {ts : List TypeId} {vs : List Value} {ds : List (DataW H)} {ps : List MemPlace}, (∀ t ∈ ts, T t) → DataW.TrodAll enc P w base (fun _ => true) true ts vs ds ps → (∀ p ∈ ps, p.block < w.heap.size) → (∀ p ∈ ps, sp' p.block = true) →
      DataW.TrodAll enc P w' base sp' true ts vs ds ps
  | [], [], [], _, _, h, _, _ => h
  | _ :: _, _ :: _, _ :: _, _, hT, ⟨p, q, ⟨fuel, h1⟩, h2, e⟩, hl, hs => by
    subst e
    exact ⟨p, q, ⟨fuel, DataW.trod_stays K (fun h1 h2 => hz _ _ h1 h2) (fun h => by cases h) (hT _ (List.mem_cons.2 (Or.inl rfl))) h1 (fun x hx => sameAt_of hb (hl x (List.mem_append_left _ hx))) (fun x hx => hs x (List.mem_append_left _ hx))⟩,
      trodAll_stays K hz hb (fun t ht => hT t (List.mem_cons.2 (Or.inr ht))) h2 (fun x hx => hl x (List.mem_append_right _ hx)) (fun x hx => hs x (List.mem_append_right _ hx)), rfl⟩

/-- the law's last step: true is told, and all that stood stands -/
theorem post_law {f : Func} {s : ChangeSpec} {apart fresh handsOn again : Bool} {W W' : World} {args : Array Value} {ds gs : List (DataW H)} {before : List MemPlace} {tb : TypeId}
    (K : Kids P T) (hz : ∀ t e, T t → P.underlying t = some (.slice e) → 0 < P.cellsOf e) (hT : ∀ t ∈ f.params.toList, T t) (hvs : s.vars = []) (hbool : P.underlying tb = some .bool) (hrt : f.resultTypes = #[tb])
    (hW : DataW.Whole enc P f.params.toList s.vars apart W args.toList ds gs before)
    (hfn : s.fn H (ds ++ gs) = { results := [.lit (.bool true)], args := ds }) (hb : Below W.heap.size W W') : s.post enc P f apart fresh handsOn again W args (.bool true) W' := by
  have hlt : ∀ p ∈ before, p.block < W.heap.size := fun p hp => hW.lt p hp
  have hold : ∀ p ∈ before, (fun b => decide (b < W.heap.size)) p.block = true := fun p hp => by simpa using hlt p hp
  have hW0 := hW
  obtain ⟨p, q, hA, hV, hps, hz0, hn0⟩ := hW0
  rw [hvs] at hV
  obtain ⟨rfl, rfl⟩ := trodVars_none hV
  simp only [List.append_nil] at hps
  subst hps
  have hres : ∀ (b : Nat) (sp : Nat → Bool) (hd : Bool), DataW.TrodAll enc P W' b sp hd f.resultTypes.toList ((Value.bool true).resultList f.resultTypes.size) (s.fn H (ds ++ [])).results [] := fun b sp hd => by
    rw [hfn, hrt]
    exact trodAll_cons_mk (shut_bool hbool true) trodAll_mk0
  have hargs : ∀ sp : Nat → Bool, (∀ p ∈ before, sp p.block = true) → DataW.TrodAll enc P W' 0 sp true f.params.toList args.toList (s.fn H (ds ++ [])).args before := fun sp hsp => by
    rw [hfn]
    exact trodAll_stays K hz hb hT hA hlt hsp
  have hvars : ∀ sp : Nat → Bool, DataW.TrodVars enc P W' sp s.vars (s.fn H (ds ++ [])).vars [] := fun sp => by
    rw [hfn, hvs]
    rfl
  refine ⟨ds, [], before, [], before, [], hW, hres _ _ _, hargs _ hold, hvars _, World.keptBut_mono (fun p hp => ⟨hp, ?_⟩) (hb.frame (· ∈ before)), fun _ => ?_⟩
  · simpa using hp
  · refine ⟨ok_one hrt rfl (okWide_bool_mk hbool _), _, _, ([] ++ before) ++ [], ⟨[] ++ before, [], trodAll_append (hargs _ (fun _ _ => rfl)) (hres _ _ _), hvars _, rfl, ?_, ?_⟩, ?_⟩
    · intro b off hp
      have hin : MemPlace.cell b off ∈ before := by simpa using hp
      rw [hb.frozen (hlt _ hin)]
      exact hz0 b off hin
    · intro ha
      simpa using hn0 ha
    · intro p hp _
      simpa using hp
end

section
variable {H : Type} {enc : TypeId × Value → H} {P : Program} {w : World} {base : Nat} {held : Bool}
theorem bd_i64 {n : Int} (h : (Lit.int .i64 n).wf = true) : -9223372036854775808 ≤ n ∧ n ≤ 9223372036854775807 := by
  simpa [Lit.wf, IntKind.min, IntKind.max, IntKind.signed, IntKind.bits] using h
theorem bd_u32 {n : Int} (h : (Lit.int .u32 n).wf = true) : 0 ≤ n ∧ n ≤ 4294967295 := by
  simpa [Lit.wf, IntKind.min, IntKind.max, IntKind.signed, IntKind.bits] using h
theorem addr_of_cell {a : Addr} {v : Value} (h : w.cell? (a.add 0) = some v) : ∃ b off, a = ⟨b, off, none⟩ := by
  obtain ⟨b, off, spot⟩ := a
  have hspot : spot = none := by simpa [Addr.add] using World.cell?_spot h
  exact ⟨b, off, by rw [hspot]⟩
theorem add_lit' (b off k : Nat) : (⟨b, off, none⟩ : Addr).add k = ⟨b, off + k, none⟩ := Addr.add_lit b off k

/-- offers that came in -/
theorem open_offs {t e : TypeId} {f0 f1 : Field} (ht : P.underlying t = some (.slice e)) (he : P.underlying e = some (.struct #[f0, f1])) (h0 : P.underlying f0.type = some (.int .u32)) (h1 : P.underlying f1.type = some (.int .i64))
    (o0 : f0.offset = 0) (o1 : f1.offset = 1) (s0 : P.cellsOf f0.type = 1) (s1 : P.cellsOf f1.type = 1) (hC : P.cellsOf e = 2) {fuel : Nat} {v : Value} {x : DataW H × List MemPlace}
    (h : DataW.trod enc P w base (fun _ => true) held fuel t [v] = some x) : ∃ l, Offs w (fun _ => True) v l := by
  rcases open_slice ht h with ⟨hcs, _⟩ | ⟨a, len, cap, m, n, D, Pl, hcs, _, hl, hm, hmm, _, hi⟩
  · obtain rfl : v = .slice none 0 0 := by simpa using hcs
    exact ⟨[], ⟨rfl, none, 0, rfl, Nat.le_refl _, Nat.zero_le _, fun h => absurd h (by simp)⟩, fun o ho => by cases ho⟩
  · obtain rfl : v = .slice (some a) len cap := by simpa using hcs
    simp only [if_true] at hmm
    have hmm' := hmm.symm
    subst hmm'
    have each : ∀ i, i < len → ∃ o : Off, o.wf ∧ w.cell? (a.add (i * 2)) = some (.int .u32 o.g) ∧ w.cell? (a.add (i * 2 + 1)) = some (.int .i64 o.c) := by
      intro i hlt
      obtain ⟨cs', hc, ht'⟩ := hi i (by omega)
      rw [hC] at hc
      obtain ⟨xs, n', _, _, _, _, hg⟩ := DataW.trod_struct he ht'
      obtain ⟨_, hcl, hat⟩ := World.cells?_some hc
      have g0 := hg 0 f0 rfl
      have g1 := hg 1 f1 rfl
      rw [o0, s0] at g0
      rw [o1, s1] at g1
      match cs', hcl with
      | [c0, c1], _ =>
        obtain ⟨y0, hy0⟩ : ∃ y, xs[0]? = some y := by
          cases hx : xs[0]? with
          | some y => exact ⟨y, rfl⟩
          | none => have : xs.length = 2 := by assumption
                    rw [List.getElem?_eq_none_iff] at hx; omega
        obtain ⟨y1, hy1⟩ : ∃ y, xs[1]? = some y := by
          cases hx : xs[1]? with
          | some y => exact ⟨y, rfl⟩
          | none => have : xs.length = 2 := by assumption
                    rw [List.getElem?_eq_none_iff] at hx; omega
        rw [hy0] at g0
        rw [hy1] at g1
        simp at g0 g1
        obtain ⟨m0, e0, _, w0⟩ := DataW.trod_int h0 g0
        obtain ⟨m1, e1, _, w1⟩ := DataW.trod_int h1 g1
        simp at e0 e1
        subst e0 e1
        obtain ⟨b0, b1⟩ := bd_u32 w0
        obtain ⟨g, rfl⟩ := Int.eq_ofNat_of_zero_le b0
        refine ⟨⟨g, m1⟩, ⟨by show g < 4294967296; omega, (bd_i64 w1).1, (bd_i64 w1).2⟩, ?_, ?_⟩
        · have := hat 0 (by omega)
          simpa [add_add] using this
        · have := hat 1 (by omega)
          simpa [add_add] using this
    haveI : Inhabited Off := ⟨⟨0, 0⟩⟩
    obtain ⟨F, hF⟩ := choose_lt each
    refine ⟨(List.range len).map F, ⟨by rw [Off.all_length], some a, cap, by simp, by simpa using hl, hm, fun h0' => ?_⟩, fun o ho => ?_⟩
    · have h0'' : 0 < len := by simpa using h0'
      obtain ⟨b, off, rfl⟩ := addr_of_cell (w := w) (a := a) (by simpa using (hF 0 h0'').2.1)
      refine ⟨b, off, rfl, trivial, World.block_lt_of_cell? w ⟨b, off, none⟩ (u := .int .u32 (F 0).g) (by simpa [Addr.add] using (hF 0 h0'').2.1), fun j u hu => ?_⟩
      have hlen : (Off.all ((List.range len).map F)).length = len * 2 := by rw [Off.all_length]; simp
      have hj : j < len * 2 := by rw [← hlen]; exact (List.getElem?_eq_some_iff.1 hu).1
      have hk : ((List.range len).map F)[j / 2]? = some (F (j / 2)) := by
        rw [List.getElem?_map, List.getElem?_range (by omega)]
        rfl
      have hq := hF (j / 2) (by omega)
      rcases (show j = j / 2 * 2 ∨ j = j / 2 * 2 + 1 by omega) with h2 | h2
      · have := Off.all_fst _ _ _ hk
        rw [← h2, hu] at this
        injection this with this
        subst this
        rw [← add_lit', h2, show j / 2 * 2 / 2 = j / 2 by omega]
        exact hq.2.1
      · have := Off.all_snd _ _ _ hk
        rw [← h2, hu] at this
        injection this with this
        subst this
        rw [← add_lit', h2, show (j / 2 * 2 + 1) / 2 = j / 2 by omega]
        exact hq.2.2
    · obtain ⟨i, hi', rfl⟩ := List.mem_map.1 ho
      exact (hF i (List.mem_range.1 hi')).1

/-- lists of offers that came in -/
theorem open_buys {t t' e : TypeId} {f0 f1 : Field} (ht' : P.underlying t' = some (.slice t)) (c1 : P.cellsOf t = 1) (ht : P.underlying t = some (.slice e)) (he : P.underlying e = some (.struct #[f0, f1])) (h0 : P.underlying f0.type = some (.int .u32)) (h1 : P.underlying f1.type = some (.int .i64))
    (o0 : f0.offset = 0) (o1 : f1.offset = 1) (s0 : P.cellsOf f0.type = 1) (s1 : P.cellsOf f1.type = 1) (hC : P.cellsOf e = 2) {fuel : Nat} {v : Value} {x : DataW H × List MemPlace}
    (h : DataW.trod enc P w base (fun _ => true) held fuel t' [v] = some x) : ∃ bs, Buys w (fun _ => True) v bs := by
  rcases open_slice1 ht' c1 h with ⟨hcs, _⟩ | ⟨a, len, cap, m, n, V, D, Pl, hcs, _, hl, hm, hmm, _, hi⟩
  · obtain rfl : v = .slice none 0 0 := by simpa using hcs
    exact ⟨[], [], ⟨rfl, none, 0, rfl, Nat.le_refl _, Nat.zero_le _, fun h => absurd h (by simp)⟩, fun k l hk => by simp at hk⟩
  · obtain rfl : v = .slice (some a) len cap := by simpa using hcs
    simp only [if_true] at hmm
    have hmm' := hmm.symm
    subst hmm'
    have each : ∀ i, i < len → ∃ l, Offs w (fun _ => True) (V i) l := fun i hlt => open_offs ht he h0 h1 o0 o1 s0 s1 hC (hi i (by omega)).2
    obtain ⟨F, hF⟩ := choose_lt each
    refine ⟨(List.range len).map F, (List.range len).map V, ⟨by simp, some a, cap, by simp, by simpa using hl, hm, fun h0' => ?_⟩, fun k l hk => ?_⟩
    · have h0'' : 0 < len := by simpa using h0'
      obtain ⟨b, off, rfl⟩ := addr_of_cell (w := w) (a := a) (hi 0 (by omega)).1
      refine ⟨b, off, rfl, trivial, World.block_lt_of_cell? w ⟨b, off, none⟩ (u := V 0) (by simpa [Addr.add] using (hi 0 (by omega)).1), fun j u hu => ?_⟩
      have hj : j < len := by simpa using (List.getElem?_eq_some_iff.1 hu).1
      rw [List.getElem?_map, List.getElem?_range hj] at hu
      simp at hu
      subst hu
      rw [← add_lit']
      exact (hi j (by omega)).1
    · have hj : k < len := by simpa using (List.getElem?_eq_some_iff.1 hk).1
      rw [List.getElem?_map, List.getElem?_range hj] at hk
      simp at hk
      subst hk
      exact ⟨V k, by rw [List.getElem?_map, List.getElem?_range hj]; rfl, hF k hj⟩
end
end Go.Proofs.Ytcigobiolbojhaa.Vb
