/- goods.Copy. -/
import Derived.Test.YtcigobiolbojhaaTypes
namespace Go.Proofs.Ytcigobiolbojhaa.Vb
open Go.RowKit

theorem Offs.grown {w w' : World} {R : Nat → Prop} {v : Value} {l : List Off} {row : Option Nat} (h : Offs w R v l) (hg : w.grownBy w' row) (hR : ∀ b, b < w.heap.size → R b → some b ≠ row) : Offs w' R v l := ⟨h.1.grown hg hR, h.2⟩
theorem Offs.mono {w : World} {R R' : Nat → Prop} {v : Value} {l : List Off} (h : Offs w R v l) (hR : ∀ b, b < w.heap.size → R b → R' b) : Offs w R' v l := ⟨h.1.mono hR, h.2⟩
theorem Buys.grown {w w' : World} {R : Nat → Prop} {v : Value} {bs : List (List Off)} {row : Option Nat} (h : Buys w R v bs) (hg : w.grownBy w' row) (hR : ∀ b, b < w.heap.size → R b → some b ≠ row) : Buys w' R v bs := by
  obtain ⟨vs, hs, ho⟩ := h
  exact ⟨vs, hs.grown hg hR, fun k l hk => let ⟨u, hu, hl⟩ := ho k l hk; ⟨u, hu, hl.grown hg hR⟩⟩
theorem Buys.mono {w : World} {R R' : Nat → Prop} {v : Value} {bs : List (List Off)} (h : Buys w R v bs) (hR : ∀ b, b < w.heap.size → R b → R' b) : Buys w R' v bs := by
  obtain ⟨vs, hs, ho⟩ := h
  exact ⟨vs, hs.mono hR, fun k l hk => let ⟨u, hu, hl⟩ := ho k l hk; ⟨u, hu, hl.mono hR⟩⟩

/-- Small enough to be written anew. -/
def Small (bs : List (List Off)) : Prop := bs.length ≤ 64 ∧ ∀ l ∈ bs, l.length ≤ 64

/-- v is the call's own row of lists (from block lo on), each in memory beside that row. -/
def OwnBuys (w : World) (lo : Nat) (v : Value) (bs : List (List Off)) : Prop :=
  ∃ vs : List Value, w.ownsRow lo 41 1 v bs.length vs ∧ ∀ (k : Nat) (l : List Off), bs[k]? = some l → ∃ u, vs[k]? = some u ∧ Offs w (fun b => lo ≤ b ∧ v.ownBlock ≠ some b) u l

theorem OwnBuys.buys {w : World} {lo : Nat} {v : Value} {bs : List (List Off)} (h : OwnBuys w lo v bs) : Buys w (lo ≤ ·) v bs := by
  obtain ⟨vs, hs, ho⟩ := h
  refine ⟨vs, (Sl.of_own hs).mono fun b _ hb => (hs.lt b hb).1, fun k l hk => ?_⟩
  obtain ⟨u, hu, hl⟩ := ho k l hk
  exact ⟨u, hu, hl.mono fun b _ hb => hb.1⟩
theorem OwnBuys.grow {w w' : World} {lo : Nat} {v : Value} {bs : List (List Off)} (h : OwnBuys w lo v bs) (hb : Below w.heap.size w w') : OwnBuys w' lo v bs := by
  obtain ⟨vs, hs, ho⟩ := h
  exact ⟨vs, own_grow hs hb, fun k l hk => let ⟨u, hu, hl⟩ := ho k l hk; ⟨u, hu, hl.grow hb⟩⟩

theorem OwnBuys.mono {w : World} {lo lo' : Nat} {v : Value} {bs : List (List Off)} (h : OwnBuys w lo v bs) (hl : lo' ≤ lo) : OwnBuys w lo' v bs := by
  obtain ⟨vs, hs, ho⟩ := h
  exact ⟨vs, own_mono hs hl, fun k l hk => let ⟨u, hu, hl'⟩ := ho k l hk; ⟨u, hu, hl'.mono fun b _ hb => ⟨Nat.le_trans hl hb.1, hb.2⟩⟩⟩
theorem OwnBuys.far {w w' : World} {lo : Nat} {v : Value} {bs : List (List Off)} {row : Option Nat} (h : OwnBuys w lo v bs) (hg : w.grownBy w' row) (hr : ∀ k, row = some k → k < lo) : OwnBuys w' lo v bs := by
  obtain ⟨vs, hs, ho⟩ := h
  refine ⟨vs, hs.kept hg ?_, fun k l hk => let ⟨u, hu, hl⟩ := ho k l hk; ⟨u, hu, hl.grown hg fun b _ hb e => by have := hr b e.symm; omega⟩⟩
  cases hv : v.ownBlock with
  | none => exact .inl rfl
  | some g =>
    refine .inr fun e => ?_
    have h1 := (hs.lt g hv).1
    have h2 := hr g e.symm
    omega

theorem OwnBuys.alloc {w : World} {lo : Nat} {v : Value} {bs : List (List Off)} (h : OwnBuys w lo v bs) (o : Obj) : OwnBuys (w.alloc o) lo v bs := h.far (World.grownBy_alloc w o none) (fun k e => by cases e)
theorem OwnBuys.drew {w : World} {lo : Nat} {v : Value} {bs : List (List Off)} (h : OwnBuys w lo v bs) : OwnBuys w.drew lo v bs := h

/-- One list more. -/
theorem OwnBuys.snoc {w w' : World} {lo : Nat} {v : Value} {bs : List (List Off)} {vs : List Value} {l : List Off} {u : Value} {A' : Option Addr} {cap' n : Nat} (hn : bs.length = n)
    (hs : w.ownsRow lo 41 1 v n vs) (ho : ∀ (k : Nat) (l : List Off), bs[k]? = some l → ∃ u, vs[k]? = some u ∧ Offs w (fun b => lo ≤ b ∧ v.ownBlock ≠ some b) u l)
    (hl : Offs w (fun b => lo ≤ b ∧ v.ownBlock ≠ some b) u l)
    (hown : w'.ownsRow lo 41 1 (.slice A' (n + 1) cap') (n + 1) (vs ++ [u])) (hg : w.grownBy w' v.ownBlock)
    (hloc : (Value.slice A' (n + 1) cap').ownBlock = v.ownBlock ∨ (Value.slice A' (n + 1) cap').ownBlock = some w.heap.size) : OwnBuys w' lo (.slice A' (n + 1) cap') (bs ++ [l]) := by
  subst hn
  have hlen : vs.length = bs.length := by simpa using hs.1
  have step : ∀ {u : Value} {l : List Off}, Offs w (fun b => lo ≤ b ∧ v.ownBlock ≠ some b) u l → Offs w' (fun b => lo ≤ b ∧ (Value.slice A' (bs.length + 1) cap').ownBlock ≠ some b) u l := by
    intro u l h
    have h1 : Offs w (fun b => (lo ≤ b ∧ v.ownBlock ≠ some b) ∧ b < w.heap.size) u l := ⟨h.1.sized, h.2⟩
    refine (h1.grown hg fun b _ hb e => hb.1.2 e.symm).mono fun b _ hb => ⟨hb.1.1, fun e => ?_⟩
    rcases hloc with e' | e'
    · exact hb.1.2 (e'.symm.trans e)
    · rw [e'] at e
      injection e with e
      omega
  refine ⟨vs ++ [u], by simpa using hown, fun k l' hk => ?_⟩
  by_cases hkl : k < bs.length
  · rw [List.getElem?_append_left hkl] at hk
    obtain ⟨u', hu', ho'⟩ := ho k l' hk
    exact ⟨u', by rw [List.getElem?_append_left (by omega)]; exact hu', step ho'⟩
  · have : k = bs.length := by
      rcases Nat.lt_or_ge k (bs ++ [l]).length with h | h
      · simp at h; omega
      · rw [List.getElem?_eq_none h] at hk; cases hk
    subst this
    simp at hk
    subst hk
    exact ⟨u, by rw [← hlen]; simp, step hl⟩

set_option maxHeartbeats 800000 in
theorem copy_any (n : Int) (bs : List (List Off)) (v : Value) (R : Nat → Prop) (w : World) (hl : Buys w R v bs) (hsm : Small bs) :
    Calls Try.prog 77 #[.agg #[.int .i64 n, v]] w fun e w' => ∃ A' cap', e = .returned (.agg #[.int .i64 n, .slice A' bs.length cap']) ∧ OwnBuys w' w.heap.size (.slice A' bs.length cap') bs ∧ Below w.heap.size w w' := by
  obtain ⟨vs, ⟨hlen, A, cap, rfl, hncap, hcap, hcells⟩, hvs⟩ := id hl
  have hsm1 := hsm.1
  have HSM := Lib.hid hsm.2
  have HB := Lib.hid hl
  have HC := Lib.hid hcells
  have HV := Lib.hid hvs
  clear hl hcells hvs hlen hcap hsm
  go_enter Try.func77, Try.ntmps77
  go_wp2
  go_loopw [3, 10] (fun s i wr => ∃ k : Nat, k ≤ bs.length ∧ i = .int .i64 k ∧ (∃ A' cap', s = .slice A' k cap' ∧ OwnBuys wr (w.heap.size + 2) (.slice A' k cap') (bs.take k)) ∧
      Below (w.heap.size + 2) ((w.alloc (.cells #[.int .i64 n, .slice A bs.length cap] 24)).alloc (.cells #[.int .i64 0, .slice none 0 0] 24)) wr) (fun _ i _ => bs.length - (intOf i).toNat)
  case atStart =>
    refine ⟨0, Nat.zero_le _, rfl, ⟨_, _, rfl, [], ?_, fun k l hk => by simp at hk⟩, (Below.refl _ _).alloc (by simp) _⟩
    simpa using own_empty (base := w.heap.size + 2) ((w.alloc (.cells #[.int .i64 n, .slice A bs.length cap] 24)).alloc (.cells #[.int .i64 0, .slice none 0 0] 24)) (by simp) 41 1
  case round =>
    obtain ⟨k, hk, rfl, ⟨A', cap', rfl, hob⟩, hb⟩ := hrel
    have hb' : Below w.heap.size w wr := (((Below.refl _ _).alloc (Nat.le_refl _) _).alloc (by simp) _).trans (hb.mono (by omega))
    have hsz : w.heap.size + 2 ≤ wr.heap.size := by have := hb.size; simpa using this
    by_cases hlt : k < bs.length
    · obtain ⟨bb, off, rfl, _, hbb, hcs⟩ := HC.out (by omega)
      obtain ⟨l, ho⟩ : ∃ l, bs[k]? = some l := ⟨_, List.getElem?_eq_getElem hlt⟩
      obtain ⟨u, hu, hol⟩ := HV.out k l ho
      have c0 := (hb'.cell hbb).trans (hcs _ _ hu)
      have HOL := Lib.hid (hol.grow hb')
      have hll : l.length ≤ 64 := HSM.out l (List.mem_of_getElem? ho)
      obtain ⟨⟨_, A1, cap1, rfl, _⟩, _⟩ := hol
      obtain ⟨vs', hs', ho'⟩ := hob
      have hlk : (bs.take k).length = k := by simp; omega
      rw [hlk] at hs'
      have HS := Lib.hid hs'
      have HO := Lib.hid ho'
      have HK := Lib.hid ho
      have HBB := Lib.hid hb
      have HLK := Lib.hid hlk
      clear hcs hu hb' hb hs' ho' ho hlk
      go_wp2_with (first
        | (go_at_call 115; refine (clone_off (Off.all l) l.length _ R _ HOL.out.1 (Off.all_one l) (by omega)).mono ?_; rintro e w1 ⟨A2, cap2, rfl, hown2, hb2⟩; have HW2 := Lib.hid hown2; have HB2 := Lib.hid hb2; have hsz1 := hb2.size; clear hown2 hb2)
        | (at_builtin; refine wpList_app _ rfl (.tmp 14) (.tmp 17) et_offs rfl (w.heap.size + 2) (.slice A' k cap') k vs' rfl ((own_grow HS.out HB2.out).alloc _) _ _ 1 _ rfl (Sl.new w1 #[.slice A2 l.length cap2] _ 1 1 (by unfold maxLen; omega) rfl) (by simp [Value.oneCell']) (by omega) (by unfold maxLen; omega) (by simp; omega) ?_; intro A3 cap3 w3 hown3 hg3 hloc3; have HW3 := Lib.hid hown3; have HG3 := Lib.hid hg3; have HL3 := Lib.hid hloc3; clear hown3 hg3 hloc3))
      go_roundw
      case rel =>
        have hclone : Offs (w1.alloc (.cells #[.slice A2 l.length cap2] 41)) (fun b => w.heap.size + 2 ≤ b ∧ (Value.slice A' k cap').ownBlock ≠ some b) (.slice A2 l.length cap2) l := by
          refine ⟨((Sl.of_own HW2.out).alloc _).mono fun b _ hb => ⟨?_, fun e => ?_⟩, HOL.out.2⟩
          · have := (HW2.out.lt b hb).1; omega
          · have h1 := (HW2.out.lt b hb).1
            have h2 := (HS.out.lt b e).2
            omega
        have hold : ∀ (j : Nat) (l2 : List Off), (bs.take k)[j]? = some l2 → ∃ u, vs'[j]? = some u ∧ Offs (w1.alloc (.cells #[.slice A2 l.length cap2] 41)) (fun b => w.heap.size + 2 ≤ b ∧ (Value.slice A' k cap').ownBlock ≠ some b) u l2 :=
          fun j l2 hj => let ⟨u, hu, hl⟩ := HO.out j l2 hj; ⟨u, hu, (hl.grow HB2.out).alloc _⟩
        refine ⟨k + 1, by omega, by go_num, ⟨A3, cap3, rfl, ?_⟩, ?_⟩
        · rw [List.take_succ_eq_append_getElem hlt]
          have hkl : bs[k] = l := by have := HK.out; rw [List.getElem?_eq_getElem hlt] at this; injection this
          rw [hkl]
          exact OwnBuys.snoc HLK.out ((own_grow HS.out HB2.out).alloc _) hold hclone HW3.out HG3.out HL3.out
        · exact ((HBB.out.trans (HB2.out.mono (by omega))).alloc (by omega) _).grown HG3.out (by simp; omega) (fun g e => (HS.out.lt g e).1)
      case measure => simp [intOf]; omega
    · obtain rfl : k = bs.length := by omega
      rw [List.take_length] at hob
      have cz1 : wr.cell? ⟨w.heap.size, 0, none⟩ = some (.int .i64 n) := (hb.cell (p := ⟨w.heap.size, 0, none⟩) (by simp)).trans (by simp)
      have cz2 : wr.cell? ⟨w.heap.size, 1, none⟩ = some (.slice A bs.length cap) := (hb.cell (p := ⟨w.heap.size, 1, none⟩) (by simp)).trans (by simp)
      have cy1 : wr.cell? ⟨w.heap.size + 1, 0, none⟩ = some (.int .i64 0) := (hb.cell (p := ⟨w.heap.size + 1, 0, none⟩) (by simp)).trans (by simp)
      have cy2 : wr.cell? ⟨w.heap.size + 1, 1, none⟩ = some (.slice none 0 0) := (hb.cell (p := ⟨w.heap.size + 1, 1, none⟩) (by simp)).trans (by simp)
      have fz1 : ∀ i, wr.frozen? ⟨w.heap.size, i, none⟩ = false := fun i => (hb.frozen (p := ⟨w.heap.size, i, none⟩) (by simp)).trans (by simp)
      have fy1 : ∀ i, wr.frozen? ⟨w.heap.size + 1, i, none⟩ = false := fun i => (hb.frozen (p := ⟨w.heap.size + 1, i, none⟩) (by simp)).trans (by simp)
      have HOB := Lib.hid hob
      have HBB := Lib.hid hb
      have HBB' := Lib.hid hb'
      clear hob hb hb'
      go_wp2
      refine bodyPost_ret (v := .agg #[.int .i64 n, .slice A' bs.length cap']) (by simp [results, Try.results77, go_sem, cy1, cy2]) rfl ⟨A', cap', rfl, ?_, ?_⟩
      · refine (((HOB.out.far (grownBy_setCell _ ⟨w.heap.size, 1, none⟩ _) ?_).far (grownBy_setCell _ ⟨w.heap.size + 1, 0, none⟩ _) ?_).far (grownBy_setCell _ ⟨w.heap.size + 1, 1, none⟩ _) ?_).mono (by omega)
        all_goals (intro k hk; simp at hk; omega)
      · exact ((HBB'.out.setCell (p := ⟨w.heap.size, 1, none⟩) (Nat.le_refl _) _).setCell (p := ⟨w.heap.size + 1, 0, none⟩) (by simp) _).setCell (p := ⟨w.heap.size + 1, 1, none⟩) (by simp) _
end Go.Proofs.Ytcigobiolbojhaa.Vb
