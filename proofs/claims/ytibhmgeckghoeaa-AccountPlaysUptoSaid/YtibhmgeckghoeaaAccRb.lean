/- Account: the document's set. -/
import Derived.Test.YtibhmgeckghoeaaAccRa
namespace Go.Proofs.Ytibhmgeckghoeaa.Ac
open Go.RowKit Go.Shelf Go.Maps
open Go.Proofs.Ytibhmgeckghoeaa.Vb
attribute [local go_sem] Oper.semAt_some

/-- what set's loop makes of a list, from some place on -/
def setL (x v : Int) : Bool → HM → HM
  | d, [] => if d then [] else [(x, v)]
  | d, p :: r => if p.1 = x then setL x v d r else if d = false ∧ x < p.1 then (x, v) :: p :: setL x v true r else p :: setL x v d r
theorem setL_hit {x v : Int} {d : Bool} {p : Int × Int} {r : HM} (h : p.1 = x) : setL x v d (p :: r) = setL x v d r := by
  show (if p.1 = x then _ else if d = false ∧ x < p.1 then _ else _) = _
  rw [if_pos h]
theorem setL_put {x v : Int} {p : Int × Int} {r : HM} (h : ¬ p.1 = x) (h2 : x < p.1) : setL x v false (p :: r) = (x, v) :: p :: setL x v true r := by
  show (if p.1 = x then _ else if false = false ∧ x < p.1 then _ else _) = _
  rw [if_neg h, if_pos ⟨rfl, h2⟩]
theorem setL_pass {x v : Int} {d : Bool} {p : Int × Int} {r : HM} (h : ¬ p.1 = x) (h2 : ¬ (d = false ∧ x < p.1)) : setL x v d (p :: r) = p :: setL x v d r := by
  show (if p.1 = x then _ else if d = false ∧ x < p.1 then _ else _) = _
  rw [if_neg h, if_neg h2]
theorem setL_done (x v : Int) : ∀ r : HM, setL x v true r = delM r x
  | [] => rfl
  | p :: r => by
    have ih := setL_done x v r
    by_cases h : p.1 = x
    · simp [setL, h, ih, delM]
    · simp [setL, h, ih, delM]
theorem setL_ins {x v : Int} : ∀ {r : HM}, Rising r → setL x v false r = insM (x, v) (delM r x)
  | [], _ => rfl
  | p :: r, hr => by
    obtain ⟨h1, h2⟩ := List.pairwise_cons.1 hr
    have ih := setL_ins (x := x) (v := v) h2
    by_cases h : p.1 = x
    · have e : delM (p :: r) x = delM r x := by simp [delM, h]
      rw [e]
      rw [setL_hit h]
      exact ih
    · have e : delM (p :: r) x = p :: delM r x := by simp [delM, h]
      rw [e]
      by_cases hlt : x < p.1
      · have hd : delM r x = r := del_none fun q hq => by have := h1 q hq; omega
        rw [setL_put h hlt, setL_done, hd]
        simp only [insM, if_pos hlt]
      · rw [setL_pass h (fun hh => hlt hh.2), ih]
        simp only [insM, if_neg hlt]
theorem setL_all {x v : Int} {M : HM} (hr : Rising M) : setL x v (decide (v = 0)) M = setM M x v := by
  by_cases h : v = 0
  · rw [show decide (v = 0) = true from by simpa using h, setL_done]
    subst h
    rw [setM_zero]
  · rw [show decide (v = 0) = false from by simpa using h, setL_ins hr, setM_put _ _ h]
    rfl
theorem setL_len (x v : Int) : ∀ (d : Bool) (r : HM), (setL x v d r).length ≤ r.length + 1
  | d, [] => by unfold setL; split <;> simp
  | d, p :: r => by
    unfold setL
    split
    · have := setL_len x v d r; simp; omega
    · split
      · rw [setL_done]
        have : (delM r x).length ≤ r.length := List.length_filter_le _ _
        simp; omega
      · have := setL_len x v d r; simp; omega

set_option maxRecDepth 100000 in
set_option maxHeartbeats 8000000 in
theorem refSet_live {g : Nat} {a : Acc} {w : World} (h : RefAt w g a) (ho : a.Ok) (x v : Int) :
    Calls Try.prog 66 #[.pointer (some ⟨g, 0, none⟩), .int .i64 x, .int .i64 v] w fun e w' => e = .returned (.tuple #[]) ∧ RefAt w' g (a.set x v) ∧ Chg (· = g) w w' := by
  have hln := ho.h.len
  have HALL := Lib.hid (setL_all (x := x) (v := v) ho.rise)
  have HLEN := Lib.hid (setL_len x v (decide (v = 0)) a.M)
  have HSET := Lib.hid (show (a.set x v).M = setM a.M x v from rfl)
  have HR := Lib.hid h
  obtain ⟨sl, h1, h2⟩ := h
  obtain ⟨A, c, rfl⟩ := h2.form
  have HL := Lib.hid h2
  have HG := Lib.hid h1
  have lg := h1.lt
  have k2 : w.cell? ⟨g, 2, none⟩ = some (.slice A a.M.length c) := h1.cell 2
  obtain ⟨M, hM⟩ : ∃ M, M = a.M := ⟨_, rfl⟩
  rw [← hM] at HALL HLEN HL HG hln k2 HSET
  clear h1 h2 ho hM
  obtain ⟨d0, hd0⟩ : ∃ d, d = decide (v = 0) := ⟨_, rfl⟩
  rw [← hd0] at HALL HLEN
  have hd1 : (v == 0) = d0 := by rw [hd0]; by_cases h : v = 0 <;> simp [h]
  clear hd0
  go_enter Try.func66, Try.ntmps66
  go_wp2_with fail
  go_loopw [6, 7, 8] (fun o d i wr => ∃ (k : Nat) (dd : Bool) (out : HM) (A' : Option Addr) (c' : Nat), k ≤ M.length ∧ i = .int .i64 k ∧ d = .bool dd ∧ o = .slice A' out.length c' ∧
    wr.ownsRow w.heap.size 29 2 (.slice A' out.length c') out.length (hcells out) ∧ out ++ setL x v dd (M.drop k) = setL x v d0 M ∧ Below w.heap.size w wr) (fun _ _ i _ => M.length - (intOf i).toNat)
  case atStart => exact ⟨0, d0, [], none, 0, Nat.zero_le _, rfl, rfl, rfl, World.ownsRow_nil _ _ _ _, rfl, Below.refl _ _⟩
  case round =>
    obtain ⟨k, dd, out, A', c', hk, rfl, rfl, rfl, how, heq, hb⟩ := hrel
    have hol : out.length ≤ M.length + 1 := by
      have h1 := congrArg List.length heq
      rw [List.length_append] at h1
      have := HLEN.out
      omega
    have k2r : wr.cell? ⟨g, 2, none⟩ = some (.slice A M.length c) := (hb.cell (p := ⟨g, 2, none⟩) lg).trans k2
    have HOW := Lib.hid how
    have HEQ := Lib.hid heq
    have HB := Lib.hid hb
    have hsz := hb.size
    clear how heq hb hd1
    by_cases hlt : k < M.length
    · obtain ⟨p, hp⟩ : ∃ p, M[k]? = some p := ⟨_, List.getElem?_eq_getElem hlt⟩
      obtain ⟨bq, off, rfl, ht, q0, q1⟩ := HL.out.at_ hp
      have hbq := ht.lt
      have hdrop := drop_at hp
      have c0 : wr.cell? ⟨bq, off + k * 2, none⟩ = some (.int .i64 p.1) := (HB.out.cell (p := ⟨bq, off + k * 2, none⟩) hbq).trans q0
      have c1 : wr.cell? ⟨bq, off + k * 2 + 1, none⟩ = some (.int .i64 p.2) := (HB.out.cell (p := ⟨bq, off + k * 2 + 1, none⟩) hbq).trans q1
      obtain ⟨pl, pc⟩ := p
      simp only at c0 c1
      have e1 : (0 : Int) ≤ (k : Int) := by omega
      have e2 : (k : Int) < (M.length : Int) := by omega
      have HDR := Lib.hid hdrop
      clear hdrop hp q0 q1 ht
      by_cases hq : pl = x
      · have hd : (pl == x) = true := by simpa using hq
        have HEQ2 := Lib.hid (show out ++ setL x v dd (M.drop (k + 1)) = setL x v d0 M from by
          rw [← HEQ.out, HDR.out, setL_hit hq])
        clear hq
        go_wp2_with fail
        go_roundw
        case rel => exact ⟨k + 1, dd, out, A', c', by omega, by go_num, rfl, rfl, HOW.out, HEQ2.out, HB.out⟩
        case measure => simp [intOf]; omega
      · have hd : (pl == x) = false := by simpa using hq
        by_cases hins : dd = false ∧ x < pl
        · obtain ⟨hdd, hxl⟩ := hins
          subst hdd
          have hgt : decide (x < pl) = true := by simpa using hxl
          have HEQ2 := Lib.hid (show (out ++ [(x, v)] ++ [(pl, pc)]) ++ setL x v true (M.drop (k + 1)) = setL x v d0 M from by
            rw [← HEQ.out, HDR.out, setL_put hq hxl]; simp)
          clear hq hxl
          go_wp2_with (first
            | (at_builtin; refine wpList_app _ rfl (.tmp 44) (.tmp 48) et_held rfl w.heap.size (.slice A' out.length c') out.length (hcells out) rfl (own_grow HOW.out ((Below.refl wr.heap.size wr).alloc (Nat.le_refl _) (.cells #[.int .i64 x, .int .i64 v] 29))) (fun _ => True) (.slice (some ⟨wr.heap.size, 0, none⟩) 1 1) 1 [.int .i64 x, .int .i64 v] rfl (slBlk (sz := 2) (cs := #[.int .i64 x, .int .i64 v]) (Blk.new wr 29 _) (Nat.le_refl 1) (by unfold maxLen; omega) rfl) (by simp [Value.oneCell']) (by omega) (by unfold maxLen; omega) (by simp; omega) ?_; intro A2 c2 w3 hown hg hloc; have hb3 := (HB.out.alloc hsz (.cells #[.int .i64 x, .int .i64 v] 29)).grown hg (by simp; omega) (fun g' e => (HOW.out.lt g' e).1); have k3 : w3.cell? ⟨g, 2, none⟩ = some (.slice (some ⟨bq, off, none⟩) M.length c) := (hb3.cell (p := ⟨g, 2, none⟩) lg).trans k2; have c03 : w3.cell? ⟨bq, off + k * 2, none⟩ = some (.int .i64 pl) := (hb3.cell (p := ⟨bq, off + k * 2, none⟩) hbq).trans ((HB.out.cell (p := ⟨bq, off + k * 2, none⟩) hbq).symm.trans c0); have c13 : w3.cell? ⟨bq, off + k * 2 + 1, none⟩ = some (.int .i64 pc) := (hb3.cell (p := ⟨bq, off + k * 2 + 1, none⟩) hbq).trans ((HB.out.cell (p := ⟨bq, off + k * 2 + 1, none⟩) hbq).symm.trans c1); have hs3 := hb3.size; rw [show hcells out ++ [.int .i64 x, .int .i64 v] = hcells (out ++ [(x, v)]) from by rw [hcells_append]; rfl] at hown; have HN3 := Lib.hid hown; have HB3 := Lib.hid hb3; clear hown hg hloc hb3)
            | (at_builtin; refine wpList_app _ rfl (.tmp 50) (.tmp 58) et_held rfl w.heap.size (.slice A2 (out.length + 1) c2) (out.length + 1) (hcells (out ++ [(x, v)])) rfl (own_grow HN3.out ((Below.refl w3.heap.size w3).alloc (Nat.le_refl _) (.cells #[.int .i64 pl, .int .i64 pc] 29))) (fun _ => True) (.slice (some ⟨w3.heap.size, 0, none⟩) 1 1) 1 [.int .i64 pl, .int .i64 pc] rfl (slBlk (sz := 2) (cs := #[.int .i64 pl, .int .i64 pc]) (Blk.new w3 29 _) (Nat.le_refl 1) (by unfold maxLen; omega) rfl) (by simp [Value.oneCell']) (by omega) (by unfold maxLen; omega) (by simp; omega) ?_; intro A4 c4 w5 hown hg hloc; have hb5 := (HB3.out.alloc hs3 (.cells #[.int .i64 pl, .int .i64 pc] 29)).grown hg (by simp; omega) (fun g' e => (HN3.out.lt g' e).1); rw [show hcells (out ++ [(x, v)]) ++ [.int .i64 pl, .int .i64 pc] = hcells (out ++ [(x, v)] ++ [(pl, pc)]) from by rw [hcells_append (out ++ [(x, v)])]; rfl] at hown; have HN5 := Lib.hid hown; have HB5 := Lib.hid hb5; clear hown hg hloc hb5))
          go_roundw
          case rel => exact ⟨k + 1, true, out ++ [(x, v)] ++ [(pl, pc)], A4, c4, by omega, by go_num, rfl, by rw [List.length_append, List.length_append]; rfl, by rw [List.length_append, List.length_append]; exact HN5.out, HEQ2.out, HB5.out⟩
          case measure => simp [intOf]; omega
        · cases dd with
          | true =>
            have HEQ2 := Lib.hid (show (out ++ [(pl, pc)]) ++ setL x v true (M.drop (k + 1)) = setL x v d0 M from by
              rw [← HEQ.out, HDR.out, setL_pass hq hins]; simp)
            clear hq hins
            go_wp2_with (at_builtin; refine wpList_app _ rfl (.tmp 50) (.tmp 58) et_held rfl w.heap.size (.slice A' out.length c') out.length (hcells out) rfl (own_grow HOW.out ((Below.refl wr.heap.size wr).alloc (Nat.le_refl _) (.cells #[.int .i64 pl, .int .i64 pc] 29))) (fun _ => True) (.slice (some ⟨wr.heap.size, 0, none⟩) 1 1) 1 [.int .i64 pl, .int .i64 pc] rfl (slBlk (sz := 2) (cs := #[.int .i64 pl, .int .i64 pc]) (Blk.new wr 29 _) (Nat.le_refl 1) (by unfold maxLen; omega) rfl) (by simp [Value.oneCell']) (by omega) (by unfold maxLen; omega) (by simp; omega) ?_; intro A2 c2 w3 hown hg hloc; have hb3 := (HB.out.alloc hsz (.cells #[.int .i64 pl, .int .i64 pc] 29)).grown hg (by simp; omega) (fun g' e => (HOW.out.lt g' e).1); rw [show hcells out ++ [.int .i64 pl, .int .i64 pc] = hcells (out ++ [(pl, pc)]) from by rw [hcells_append]; rfl] at hown; have HN3 := Lib.hid hown; have HB3 := Lib.hid hb3; clear hown hg hloc hb3)
            go_roundw
            case rel => exact ⟨k + 1, true, out ++ [(pl, pc)], A2, c2, by omega, by go_num, rfl, by rw [List.length_append]; rfl, by rw [List.length_append]; exact HN3.out, HEQ2.out, HB3.out⟩
            case measure => simp [intOf]; omega
          | false =>
            have HEQ2 := Lib.hid (show (out ++ [(pl, pc)]) ++ setL x v false (M.drop (k + 1)) = setL x v d0 M from by
              rw [← HEQ.out, HDR.out, setL_pass hq hins]; simp)
            have hgt : decide (x < pl) = false := by simpa using fun h => hins ⟨rfl, h⟩
            clear hq hins
            go_wp2_with (at_builtin; refine wpList_app _ rfl (.tmp 50) (.tmp 58) et_held rfl w.heap.size (.slice A' out.length c') out.length (hcells out) rfl (own_grow HOW.out ((Below.refl wr.heap.size wr).alloc (Nat.le_refl _) (.cells #[.int .i64 pl, .int .i64 pc] 29))) (fun _ => True) (.slice (some ⟨wr.heap.size, 0, none⟩) 1 1) 1 [.int .i64 pl, .int .i64 pc] rfl (slBlk (sz := 2) (cs := #[.int .i64 pl, .int .i64 pc]) (Blk.new wr 29 _) (Nat.le_refl 1) (by unfold maxLen; omega) rfl) (by simp [Value.oneCell']) (by omega) (by unfold maxLen; omega) (by simp; omega) ?_; intro A2 c2 w3 hown hg hloc; have hb3 := (HB.out.alloc hsz (.cells #[.int .i64 pl, .int .i64 pc] 29)).grown hg (by simp; omega) (fun g' e => (HOW.out.lt g' e).1); rw [show hcells out ++ [.int .i64 pl, .int .i64 pc] = hcells (out ++ [(pl, pc)]) from by rw [hcells_append]; rfl] at hown; have HN3 := Lib.hid hown; have HB3 := Lib.hid hb3; clear hown hg hloc hb3)
            go_roundw
            case rel => exact ⟨k + 1, false, out ++ [(pl, pc)], A2, c2, by omega, by go_num, rfl, by rw [List.length_append]; rfl, by rw [List.length_append]; exact HN3.out, HEQ2.out, HB3.out⟩
            case measure => simp [intOf]; omega
    · obtain rfl : k = M.length := by omega
      rw [List.drop_length] at HEQ
      have hgr := HG.out.grow HB.out
      cases dd with
      | true =>
        have f2 : wr.frozen? ⟨g, 2, none⟩ = false := hgr.frozen 2
        have HGR := Lib.hid hgr
        have HO := Lib.hid (show out = setM M x v from by rw [← HALL.out, ← HEQ.out]; simp [setL])
        clear hgr
        go_wp2_with fail
        go_end0
        have hs := HGR.out.set_ 2 (.slice A' out.length c')
        have hrow := own_far' HOW.out (grownBy_setCell wr ⟨g, 2, none⟩ (.slice A' out.length c')) (fun g' e he => by have := (HOW.out.lt g' e).1; injection he with he; simp at he; omega)
        refine ⟨rfl, ⟨_, hs, ?_⟩, (Chg.of _ HB.out).step (Chg.set wr ⟨g, 2, none⟩ _) fun _ _ e => e⟩
        rw [HSET.out, ← HO.out]
        exact HeldsT.of_own hrow
      | false =>
        have HO := Lib.hid (show out ++ [(x, v)] = setM M x v from by rw [← HALL.out, ← HEQ.out]; simp [setL])
        clear hgr
        go_wp2_with (at_builtin; refine wpList_app _ rfl (.tmp 62) (.tmp 66) et_held rfl w.heap.size (.slice A' out.length c') out.length (hcells out) rfl (own_grow HOW.out ((Below.refl wr.heap.size wr).alloc (Nat.le_refl _) (.cells #[.int .i64 x, .int .i64 v] 29))) (fun _ => True) (.slice (some ⟨wr.heap.size, 0, none⟩) 1 1) 1 [.int .i64 x, .int .i64 v] rfl (slBlk (sz := 2) (cs := #[.int .i64 x, .int .i64 v]) (Blk.new wr 29 _) (Nat.le_refl 1) (by unfold maxLen; omega) rfl) (by simp [Value.oneCell']) (by omega) (by unfold maxLen; omega) (by simp; omega) ?_; intro A2 c2 w3 hown hg hloc; have hb3 := (HB.out.alloc hsz (.cells #[.int .i64 x, .int .i64 v] 29)).grown hg (by simp; omega) (fun g' e => (HOW.out.lt g' e).1); rw [show hcells out ++ [.int .i64 x, .int .i64 v] = hcells (out ++ [(x, v)]) from by rw [hcells_append]; rfl] at hown; have HN3 := Lib.hid hown; have HB3 := Lib.hid hb3; have hg3 := HG.out.grow (hb3.mono (B' := w.heap.size) (Nat.le_refl _)); have k3 : w3.cell? ⟨g, 2, none⟩ = some (.slice A M.length c) := hg3.cell 2; have f3 : w3.frozen? ⟨g, 2, none⟩ = false := hg3.frozen 2; have HG3 := Lib.hid hg3; clear hg3; clear hown hg hloc hb3)
        go_end0
        have hs := HG3.out.set_ 2 (.slice A2 (out.length + 1) c2)
        have hrow := own_far' HN3.out (grownBy_setCell w3 ⟨g, 2, none⟩ (.slice A2 (out.length + 1) c2)) (fun g' e he => by have := (HN3.out.lt g' e).1; injection he with he; simp at he; omega)
        refine ⟨rfl, ⟨_, hs, ?_⟩, (Chg.of _ HB3.out).step (Chg.set w3 ⟨g, 2, none⟩ _) fun _ _ e => e⟩
        rw [HSET.out, ← HO.out]
        exact HeldsT.of_own (by rw [List.length_append]; exact hrow)
end Go.Proofs.Ytibhmgeckghoeaa.Ac
