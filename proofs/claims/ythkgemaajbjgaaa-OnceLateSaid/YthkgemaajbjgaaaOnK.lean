/- Once: a keeper's keys. -/
import Derived.Test.YthkgemaajbjgaaaOnJ
namespace Go.Proofs.Ythkgemaajbjgaaa.On
open Go.RowKit Go.Sort Go.Shelf
open Go.ChangeMaps (setBlock)
open Go.Proofs (encStr)
open Go.Proofs.Ythkgemaajbjgaaa.Vb Go.Proofs.Ythkgemaajbjgaaa.Ac

theorem grownBy_setBlock (w : World) (r : Nat) (o : Obj) : w.grownBy (setBlock w r o) (some r) :=
  ⟨rfl, rfl, rfl, by simp [setBlock], fun i _ hne => by
    have : r ≠ i := fun e => hne (by rw [e])
    simp [setBlock, Array.getElem?_setIfInBounds_ne this]⟩
theorem same_setBlock {w : World} {r : Nat} (h : r < w.heap.size) (o : Obj) : (setBlock w r o).heap[r]? = some o := by simp [setBlock, h]
theorem row_apart {w : World} {base r : Nat} {e : TypeId} {sz n : Nat} {v : Value} {xs : List Value} (h : w.ownsRow base e sz v n xs) (hr : r < base) : v.ownBlock = none ∨ v.ownBlock ≠ some r := .inr fun e => by have := (h.lt r e).1; omega
/-- what is known of an entry -/
def EntOk (W : World) (k : Nat) (kf : MapEntry → List UInt8) (ov : MapEntry → Bool) (e : MapEntry) : Prop :=
  e.key = encStr (kf e) ∧ ∃ (t : Nat) (o : Int), e.val = .pointer (some ⟨t, 0, none⟩) ∧ t ≠ k ∧ W.cell? ⟨t, 3, none⟩ = some (.int .u32 o) ∧ ov e = (o != 0)
set_option maxRecDepth 100000 in
set_option maxHeartbeats 3200000 in
theorem keys_any {W : World} {k m : Nat} {r : Int} {es : Array MapEntry} {clock : Nat} (kf : MapEntry → List UInt8) (ov : MapEntry → Bool) (hK : KeepAt W k m 0 r es clock) (hn : (es.toList.map (·.born)).Nodup) (hb : ∀ e ∈ es.toList, e.born < clock)
    (hE : ∀ e ∈ es.toList, EntOk W k kf ov e) (hsz : es.size ≤ 1000000) :
    Calls Try.prog 18 #[.pointer (some ⟨k, 0, none⟩)] W fun e W' => ∃ v n, e = .returned v ∧ n = (es.toList.filter ov).length ∧ W'.ownsRow W.heap.size 9 1 v n ((((es.toList.filter ov).map kf).mergeSort leB).map encStr) ∧ KeepAt W' k m 0 r es clock ∧ Chg (· = k) W W' := by
  have HK := Lib.hid hK
  have HN := Lib.hid hn
  have HB := Lib.hid hb
  have HE := Lib.hid hE
  have HSZ := Lib.hid hsz
  clear hK hn hb hE hsz
  go_enter_defers Try.func18, Try.ntmps18
  go_wp2_with fail
  refine (lock_any ⟨k, 0, none⟩ W HK.out.cells.1 (HK.out.fro 0)).mono ?_
  rintro e A ⟨rfl, hA⟩
  have hKA : KeepAt A k m 1 r es clock := by rw [hA]; exact HK.out.set0 1
  have hcA : Chg (· = k) W A := by rw [hA]; exact Chg.set W ⟨k, 0, none⟩ _
  have HS := Lib.hid (show A.heap.size = W.heap.size by rw [hA]; simp [World.setCell])
  have HEA := Lib.hid (show ∀ e ∈ es.toList, EntOk A k kf ov e from fun e he => by
    obtain ⟨h1, t, o, h2, h3, h4, h5⟩ := HE.out e he
    exact ⟨h1, t, o, h2, h3, (World.cell?_of_block (a := ⟨t, 3, none⟩) (hcA.block t (World.block_lt_of_cell? W ⟨t, 3, none⟩ h4) h3)).trans h4, h5⟩)
  have HKA := Lib.hid hKA
  have HCA := Lib.hid hcA
  have a2 := hKA.cells.2.1
  have hrange := run_range_map (P := Try.prog) A 76 9 88 m es clock Try.underlying76 hKA.map
  clear hA hKA hcA
  go_wp2_with fail
  go_loopw [3] (fun l wr => ∃ (A' : Option Addr) (cap' : Nat) (seen : Array Nat) (ms : List MapEntry), l = .slice A' ms.length cap' ∧ wr.ownsRow (A.heap.size + 1) 9 1 (.slice A' ms.length cap') ms.length ((ms.map kf).map encStr) ∧ wr.heap[A.heap.size]? = some (.mapIter (some m) clock seen clock) ∧ ms.Perm (met ov es.toList seen) ∧ Below A.heap.size A wr ∧ A.heap.size < wr.heap.size) (fun _ wr => (leftOf es (wr.iterSeen A.heap.size)).size)
  case atStart => exact ⟨none, 0, #[], [], rfl, World.ownsRow_nil _ _ _ _, heap_alloc_new A _, by simp [met_none], (Below.refl _ A).alloc (Nat.le_refl _) _, by simp⟩
  case round =>
    obtain ⟨A', cap', seen, ms, rfl, hown, hit, hperm, hbl, hlt⟩ := hrel
    have hmr : wr.heap[m]? = some (.map es clock) := (hbl.block m HKA.out.mlt).trans HKA.out.map
    have HO := Lib.hid hown
    have HI := Lib.hid hit
    have HP := Lib.hid hperm
    have HBL := Lib.hid hbl
    have HLT := Lib.hid hlt
    rcases run_next_at (P := Try.prog) wr 0 A.heap.size m clock clock seen es clock hit hmr HB.out (Nat.le_refl _) with ⟨h0, hnext⟩ | ⟨e, he, w1, hw1, hnext⟩
    · clear hown hit hperm hbl hmr hlt
      have H0 := Lib.hid h0
      clear h0
      go_wp2_with fail
      have hp := HP.out
      rw [met_all H0.out] at hp
      have hlen : ms.length = (es.toList.filter ov).length := hp.length_eq
      have hle : ms.length ≤ 1000000 := by
        have h1 := List.length_filter_le ov es.toList
        have h2 := HSZ.out
        simp only [Array.length_toList] at h1
        omega
      have hsort : (ms.map kf).mergeSort leB = ((es.toList.filter ov).map kf).mergeSort leB := mergeSort_of_perm (hp.map kf)
      have HLEN := Lib.hid hlen
      have HSORT := Lib.hid hsort
      refine (sorts_own (ss := ms.map kf) (by simp) HO.out (by simp; omega)).mono ?_
      clear hp hlen hle hsort
      rintro e B ⟨rfl, hrow, hbB⟩
      have hbAB : Below A.heap.size A B := HBL.out.trans (hbB.mono (Nat.le_succ _))
      have HRB := Lib.hid (show B.ownsRow (A.heap.size + 1) 9 1 (.slice A' ms.length cap') ms.length ((((es.toList.filter ov).map kf).mergeSort leB).map encStr) by rw [← HSORT.out]; exact hrow)
      have HKB := Lib.hid (HKA.out.grow hbAB)
      have HCB := Lib.hid (HCA.out.grow hbAB)
      clear hrow hbB hbAB
      go_wp2_with fail
      refine leaves_cons (f := 33) (args := #[.pointer (some ⟨k, 0, none⟩)]) (by simp) (by simp [go_sem]) ?_
      refine (unlock_def ⟨k, 0, none⟩ _ _ HKB.out.cells.1 (HKB.out.fro 0)).mono ?_
      rintro e u' D ⟨rfl, rfl, hD⟩
      have hkl := HK.out.lt
      have hs := HS.out
      have hfin : ∃ v n, Ending.returned (.slice A' ms.length cap') = .returned v ∧ n = (es.toList.filter ov).length ∧ D.ownsRow W.heap.size 9 1 v n ((((es.toList.filter ov).map kf).mergeSort leB).map encStr) ∧ KeepAt D k m 0 r es clock ∧ Chg (· = k) W D := by
        rw [hD]
        refine ⟨_, ms.length, rfl, HLEN.out, ?_, HKB.out.set0 0, HCB.out.trans (Chg.set _ ⟨k, 0, none⟩ _)⟩
        exact own_mono (HRB.out.kept (grownBy_setCell B ⟨k, 0, none⟩ _) (row_apart HRB.out (by show k < A.heap.size + 1; omega))) (by omega)
      simpa [Leaves, settle, results, Try.results18] using hfin
    · obtain ⟨hmem, hseen⟩ := mem_left he
      obtain ⟨hkey, t, o, hval, ht, hcell, hov⟩ := HEA.out e hmem
      rw [hkey, hval] at hnext
      have hw1b : Below wr.heap.size wr w1 := by rcases hw1 with rfl | rfl; exact Below.refl _ _; exact (Below.refl _ _).drew
      obtain ⟨w2, hw2⟩ : ∃ w2, w2 = setBlock w1 A.heap.size (.mapIter (some m) clock (seen.push e.born) clock) := ⟨_, rfl⟩
      have hg2 : w1.grownBy w2 (some A.heap.size) := by rw [hw2]; exact grownBy_setBlock _ _ _
      have hb2 : Below A.heap.size wr w2 := (hw1b.mono (Nat.le_of_lt hlt)).grown hg2 (Nat.le_trans (Nat.le_of_lt hlt) hw1b.size) (fun k e => by cases e; exact Nat.le_refl _)
      have hit2 : w2.heap[A.heap.size]? = some (.mapIter (some m) clock (seen.push e.born) clock) := by rw [hw2]; exact same_setBlock (Nat.lt_of_lt_of_le hlt hw1b.size) _
      have hbl2 := hbl.trans hb2
      have hm2 : w2.heap[m]? = some (.map es clock) := (hbl2.block m HKA.out.mlt).trans HKA.out.map
      have hent := run_entry_at (P := Try.prog) w2 A.heap.size m clock seen es clock e hit2 hm2 hmem HN.out
      rw [hkey, hval] at hent
      have hown2 := (own_grow hown hw1b).kept hg2 (row_apart hown (by omega))
      have hc2 : w2.cell? ⟨t, 3, none⟩ = some (.int .u32 o) := (World.cell?_of_block (a := ⟨t, 3, none⟩) (hbl2.block t (World.block_lt_of_cell? A ⟨t, 3, none⟩ hcell))).trans hcell
      have hlt2 : A.heap.size < w2.heap.size := Nat.lt_of_lt_of_le hlt (Nat.le_trans hw1b.size hg2.size)
      rw [← hw2] at hnext
      have HO2 := Lib.hid hown2
      have HI2 := Lib.hid hit2
      have HB2 := Lib.hid hbl2
      have HLT2 := Lib.hid hlt2
      have HC2 := Lib.hid hc2
      have HOV := Lib.hid hov
      have HMEM := Lib.hid hmem
      have HSEEN := Lib.hid hseen
      have HE1 := Lib.hid he
      have hshr := left_shrinks es seen e he
      have e1 : wr.iterSeen A.heap.size = seen := by simp [World.iterSeen, hit]
      have HSHR := Lib.hid hshr
      have E1 := Lib.hid e1
      have hpush := met_push (ov := ov) hseen HN.out hmem
      have HPUSH := Lib.hid hpush
      clear hown hit hperm hbl hmr hlt he hw1 hkey hval ht hcell hov hmem hseen hw1b hw2 hg2 hb2 hit2 hbl2 hm2 hown2 hc2 hlt2 hshr e1 hpush
      go_wp2_with fail
      refine (load_any ⟨t, 3, none⟩ o w2 HC2.out).mono ?_
      rintro e' C ⟨rfl, hC⟩
      rw [hC, ← HOV.out]
      clear hC
      cases hq : ov e with
      | false =>
        have HQ := Lib.hid hq
        clear hq
        go_wp2_with fail
        go_round
        case rel =>
          refine ⟨A', cap', seen.push e.born, ms, rfl, HO2.out, HI2.out, ?_, HB2.out, HLT2.out⟩
          have h := HPUSH.out
          rw [HQ.out] at h
          simp only [Bool.false_eq_true, if_false, List.append_nil] at h
          exact HP.out.trans h.symm
        case measure =>
          rw [E1.out, show w2.iterSeen A.heap.size = seen.push e.born by simp [World.iterSeen, HI2.out]]
          exact HSHR.out
      | true =>
        have HQ := Lib.hid hq
        clear hq
        have hle : ms.length ≤ 1000000 := by
          have h1 := List.length_filter_le (fun x : MapEntry => seen.contains x.born && ov x) es.toList
          have h2 := HSZ.out
          have h3 := HP.out.length_eq
          unfold met at h3
          simp only [Array.length_toList] at h1
          omega
        go_wp2_with (at_builtin; go_must (refine wpList_app _ rfl (.tmp 29) (.tmp 31) et_str rfl (A.heap.size + 1) (.slice A' ms.length cap') ms.length ((ms.map kf).map encStr) rfl (own_grow HO2.out ((Below.refl w2.heap.size w2).alloc (Nat.le_refl _) (.cells #[encStr (kf e)] 9))) _ _ 1 _ rfl (Sl.new w2 #[encStr (kf e)] _ 1 1 (by unfold maxLen; omega) rfl) (by simp [Value.oneCell']) (by omega) (by unfold maxLen; omega) (by have := HLT2.out; simp; omega) ?_); intro A3 c3 w3 hown3 hg3 hloc3; have HO3 := Lib.hid hown3; have HG3 := Lib.hid hg3; clear hown3 hg3 hloc3)
        have hlt2 := HLT2.out
        have hba := Below.heap_alloc w2 (.cells #[encStr (kf e)] 9) A.heap.size hlt2
        have hw3 := HG3.out.size
        have hsz1 : (w2.alloc (.cells #[encStr (kf e)] 9)).heap.size = w2.heap.size + 1 := by simp
        have hi3 : w3.heap[A.heap.size]? = some (.mapIter (some m) clock (seen.push e.born) clock) := (HG3.out.block A.heap.size (by omega) (fun q => by have := (HO2.out.lt _ q.symm).1; omega)).trans (hba.trans HI2.out)
        have hown3 : w3.ownsRow (A.heap.size + 1) 9 1 (.slice A3 (ms ++ [e]).length c3) (ms ++ [e]).length (((ms ++ [e]).map kf).map encStr) := by
          have h := HO3.out
          simpa using h
        refine ⟨⟨A3, c3, seen.push e.born, ms ++ [e], by simp, hown3, hi3, ?_, ?_, by omega⟩, ?_⟩
        · have h := HPUSH.out
          rw [HQ.out, if_pos rfl] at h
          exact (HP.out.append_right [e]).trans h.symm
        · exact (HB2.out.alloc (Nat.le_of_lt hlt2) _).grown HG3.out (by omega) (fun g q => by have := (HO2.out.lt g q).1; omega)
        · rw [E1.out, show w3.iterSeen A.heap.size = seen.push e.born by simp [World.iterSeen, hi3]]
          exact HSHR.out
end Go.Proofs.Ythkgemaajbjgaaa.On
