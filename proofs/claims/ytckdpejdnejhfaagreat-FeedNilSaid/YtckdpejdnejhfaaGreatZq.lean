/- Joined by program: HtA HtB HtC HtD HrK HrL HrP. -/
import Derived.Test.YtckdpejdnejhfaaGreatZp
import Derived.Test.YtckdpejdnejhfaaGreatZn
import Derived.Handy
import Derived.Test.YtckdpejdnejhfaaGreatZa
import Derived.Test.YtckdpejdnejhfaaGreatZh
import Derived.Deep.MidRow
import Derived.BigQuiet
import Derived.Test.YtckdpejdnejhfaaGreatZm
/- House: the house plainly: what lots close, one behind the other. -/
set_option linter.all false
namespace Go.Proofs.YtckdpejdnejhfaaGreat.Ho
open Go.RowKit
open Go.Proofs.YtckdpejdnejhfaaGreat.Vb Go.Proofs.YtckdpejdnejhfaaGreat.Ac

/-- a lot closes: f says how it stands behind its sale, and what it is sold for -/
def closeOne (f : LotS → LotS × List SaleR) (H : House) (d : Du) : House :=
  match H.lots[d.2.toNat]? with
  | none => H
  | some l => closeH { H with lots := H.lots.set d.2.toNat (f l).1 } d.2.toNat (f l).1 (f l).2
def closeAll (f : LotS → LotS × List SaleR) (H : House) (ds : List Du) : House := ds.foldl (closeOne f) H
def timeH (f : LotS → LotS × List SaleR) (H : House) (t : Int) (ds : List Du) : House := closeAll f { H with now := t, due := laterD H.due t } ds
theorem closeAll_snoc (f : LotS → LotS × List SaleR) (H : House) (ds : List Du) (d : Du) : closeAll f H (ds ++ [d]) = closeOne f (closeAll f H ds) d := by simp [closeAll]
section
variable {f : LotS → LotS × List SaleR}
theorem closeOne_len (H : House) (d : Du) : (closeOne f H d).lots.length = H.lots.length ∧ (closeOne f H d).accs.length = H.accs.length ∧ (closeOne f H d).book = H.book ∧ (closeOne f H d).now = H.now ∧ (closeOne f H d).names = H.names ∧ (closeOne f H d).due = H.due := by
  unfold closeOne
  split
  · exact ⟨rfl, rfl, rfl, rfl, rfl, rfl⟩
  · refine ⟨by simp [closeH], ?_, rfl, rfl, rfl, rfl⟩
    simp only [closeH]
    rw [payAll_len, relAll_len]
theorem closeAll_len (ds : List Du) : ∀ H : House, (closeAll f H ds).lots.length = H.lots.length ∧ (closeAll f H ds).accs.length = H.accs.length ∧ (closeAll f H ds).book = H.book ∧ (closeAll f H ds).now = H.now ∧ (closeAll f H ds).names = H.names ∧ (closeAll f H ds).due = H.due := by
  induction ds with
  | nil => exact fun H => ⟨rfl, rfl, rfl, rfl, rfl, rfl⟩
  | cons d ds ih =>
    intro H
    obtain ⟨h1, h2, h3, h4, h5, h6⟩ := ih (closeOne f H d)
    obtain ⟨k1, k2, k3, k4, k5, k6⟩ := closeOne_len (f := f) H d
    exact ⟨h1.trans k1, h2.trans k2, h3.trans k3, h4.trans k4, h5.trans k5, h6.trans k6⟩
/-- another lot's closing leaves a lot -/
theorem closeOne_lot {H : House} {d : Du} {n : Nat} (hn : n ≠ d.2.toNat) : (closeOne f H d).lots[n]? = H.lots[n]? := by
  unfold closeOne
  split
  · rfl
  · simp only [closeH]
    rw [List.getElem?_set_ne (fun e => hn e.symm), List.getElem?_set_ne (fun e => hn e.symm)]
theorem closeAll_lot {n : Nat} : ∀ {ds : List Du} {H : House}, (∀ d ∈ ds, d.2.toNat ≠ n) → (closeAll f H ds).lots[n]? = H.lots[n]?
  | [], H, _ => rfl
  | d :: ds, H, h => (closeAll_lot (ds := ds) (H := closeOne f H d) fun x hx => h x (List.mem_cons_of_mem _ hx)).trans (closeOne_lot fun e => h d List.mem_cons_self e.symm)
theorem closeOne_ok {H : House} (h : AccsOk H.accs) (hl : H.lots.length ≤ 4096) (d : Du) : AccsOk (closeOne f H d).accs := by
  unfold closeOne
  split
  · exact h
  · rename_i l hl2
    have := (List.getElem?_eq_some_iff.1 hl2).1
    exact payAll_ok _ _ (relAll_ok (by omega) _ _ h)
theorem closeAll_ok : ∀ {ds : List Du} {H : House}, AccsOk H.accs → H.lots.length ≤ 4096 → AccsOk (closeAll f H ds).accs
  | [], _, h, _ => h
  | d :: ds, H, h, hl => closeAll_ok (ds := ds) (closeOne_ok h hl d) (by rw [(closeOne_len H d).1]; exact hl)
theorem closeOne_sales {H : House} {d : Du} (hs : ∀ l, H.lots[d.2.toNat]? = some l → (f l).2.length ≤ 64) : (closeOne f H d).sales.length ≤ H.sales.length + 64 := by
  unfold closeOne
  split
  · omega
  · rename_i l hl
    have := hs l hl
    simp [closeH]
    omega
end
def saleOf (w p : Int) : SaleR := ⟨0, 0, w, p, 0, 0, 0⟩
/-- what a kind's sell does -/
def SellQ (W : World) (T : Nat → Part) (j b : Nat) (l' : LotS) (sales : List SaleR) (e : Ending) (W' : World) : Prop :=
  ∃ A c, e = .returned (.slice A sales.length c) ∧ Sl W' (fun b => W.heap.size ≤ b) (.slice A sales.length c) sales.length 7 (sales.flatMap SaleR.cells) ∧ LotAt W' T j b l' ∧ Chg (· = b) W W'
/-- the kinds' sell, by the kind's number -/
def sellF (k : Int) : FuncId := if k = 1 then 217 else if k = 2 then 235 else if k = 3 then 247 else if k = 4 then 259 else 274
theorem kind_iface {k : Int} (h : 1 ≤ k ∧ k ≤ 5) : ∃ t, kindV k = .iface t (.agg #[]) := by
  have h5 : k = 1 ∨ k = 2 ∨ k = 3 ∨ k = 4 ∨ k = 5 := by omega
  rcases h5 with rfl | rfl | rfl | rfl | rfl
  · exact ⟨245, by simp [kindV]⟩
  · exact ⟨246, by simp [kindV]⟩
  · exact ⟨247, by simp [kindV]⟩
  · exact ⟨248, by simp [kindV]⟩
  · exact ⟨249, by simp [kindV]⟩
/-- what a time wants of a lot that is due: its kind sells it as f says -/
structure SellsAs (f : LotS → LotS × List SaleR) (N : Nat) (l : LotS) : Prop where
  kind : 1 ≤ l.put.kind ∧ l.put.kind ≤ 5
  stands : ∀ s ∈ l.stands, 0 ≤ s.bidder ∧ s.bidder < N
  few : l.stands.length ≤ 4096
  keep : (f l).1.stands = l.stands ∧ (f l).1.put = l.put
  sales : ∀ s ∈ (f l).2, 0 ≤ s.bidder ∧ s.bidder < N
  most : (f l).2.length ≤ 64
  run : ∀ W T j b, LotAt W T j b l → (∀ x, W.heap.size ≤ x → T x = .no) → Calls Tryz.prog (sellF l.put.kind) #[.agg #[], .pointer (some ⟨b, 0, none⟩)] W (SellQ W T j b (f l).1 (f l).2)
theorem HouseIn.mono {W : World} {T : Nat → Part} {h K K' : Nat} {H : House} (hH : HouseIn W T h K H) (hK : K ≤ K') : HouseIn W T h K' H := by
  obtain ⟨pn, pc, va, vl, vb, vs, h1⟩ := hH
  exact ⟨pn, pc, va, vl, vb, vs, h1.top, h1.blk, h1.names, h1.accs.mono hK, h1.lots, h1.cal, h1.book, h1.sales, h1.out⟩
/-- the calendar turned -/
theorem house_cal {W U : World} {T : Nat → Part} {h pn pc K : Nat} {va vl vb vs : Value} {H : House} {t : Int} {D : Int → Option Int} (H0 : HouseAt W T h pn pc va vl vb vs K H) (hcal : CalAt U (fun b => T b = .cal) pc t D) (hc : Chg (fun b => T b = .cal) W U) :
    HouseAt U T h pn pc va vl vb vs K { H with now := t, due := D } := by
  have hn : ∀ b P, T b = P → P ≠ .cal → ¬ T b = .cal := fun b P e1 e2 e3 => e2 (e1.symm.trans e3)
  refine ⟨H0.top, H0.blk.chg hc (hn h _ H0.top (by simp)), H0.names.step hc (fun b e => hn b _ e (by simp)) (fun _ _ => rfl), H0.accs.step hc (fun b e => ?_) (fun _ _ => rfl), H0.lots.step hc (fun b e => ?_) (fun _ _ => rfl), hcal, H0.book.step hc (fun b e => ?_) (fun _ _ => rfl), H0.sales.step hc (fun b e => hn b _ e (by simp)) (fun _ _ => rfl), fun b hb => H0.out b (Nat.le_trans hc.size hb)⟩
  · rcases e with e | ⟨i, e⟩ <;> exact hn b _ e (by simp)
  · rcases e with e | ⟨i, e⟩ | e <;> exact hn b _ e (by simp)
  · rcases e with e | e <;> exact hn b _ e (by simp)
end Go.Proofs.YtckdpejdnejhfaaGreat.Ho

/- House: time. (Printed by tools/gen_htb.py.) -/
namespace Go.Proofs.YtckdpejdnejhfaaGreat.Ho
open Go.RowKit
open Go.Proofs.YtckdpejdnejhfaaGreat.Vb Go.Proofs.YtckdpejdnejhfaaGreat.Ac

theorem exec_sell {ev : Operand → Value} {o : Oper} (ho : o.op = .call { callee := .invoke (.tmp 55) "gavel/house.sell", args := #[.tmp 53], argTypes := #[138] }) {k : Int} (hk : 1 ≤ k ∧ k ≤ 5) (hr : ev (.tmp 55) = kindV k) {v : Value} (hv : ev (.tmp 53) = v) (w : World) :
    (execOp ev o).run Tryz.prog w = .ok (.enter (sellF k) #[.agg #[], v]) w := by
  have h5 : k = 1 ∨ k = 2 ∨ k = 3 ∨ k = 4 ∨ k = 5 := by omega
  have hx : (execOp ev o).run Tryz.prog w = (callMethod (kindV k) "gavel/house.sell" #[v]).run Tryz.prog w := by
    simp [execOp, ho, resolve, invoke, hr, hv, go_sem]
  rw [hx]
  clear hx ho hr
  have e1 : (callMethod (kindV 1) "gavel/house.sell" #[v]).run Tryz.prog w = .ok (.enter (sellF 1) #[.agg #[], v]) w := by kernel_rfl
  have e2 : (callMethod (kindV 2) "gavel/house.sell" #[v]).run Tryz.prog w = .ok (.enter (sellF 2) #[.agg #[], v]) w := by kernel_rfl
  have e3 : (callMethod (kindV 3) "gavel/house.sell" #[v]).run Tryz.prog w = .ok (.enter (sellF 3) #[.agg #[], v]) w := by kernel_rfl
  have e4 : (callMethod (kindV 4) "gavel/house.sell" #[v]).run Tryz.prog w = .ok (.enter (sellF 4) #[.agg #[], v]) w := by kernel_rfl
  have e5 : (callMethod (kindV 5) "gavel/house.sell" #[v]).run Tryz.prog w = .ok (.enter (sellF 5) #[.agg #[], v]) w := by kernel_rfl
  rcases h5 with rfl | rfl | rfl | rfl | rfl
  · exact e1
  · exact e2
  · exact e3
  · exact e4
  · exact e5
theorem step_sell {ops : Array Oper} {K : Act → World → Prop} {E0 : Prop} {a : Act} {Q : Exit → Act → World → Prop} {w : World} {o : Oper} (hgd : o.guard = none) (ho : o.op = .call { callee := .invoke (.tmp 55) "gavel/house.sell", args := #[.tmp 53], argTypes := #[138] }) {k : Int} (hk : 1 ≤ k ∧ k ≤ 5) (hr : a.eval (.tmp 55) = kindV k) {v : Value} (hv : a.eval (.tmp 53) = v)
    (h : Calls Tryz.prog (sellF k) #[.agg #[], v] w fun e w' => ∃ r, e = .returned r ∧ K (a.put o.dst r) w') :
    if Region.wanted o (yielded ops a.tmps) = true then Oper.wp Tryz.prog o a w K Q else E0 := by
  have hw : Region.wanted o (yielded ops a.tmps) = true := by simp [Region.wanted, hgd]
  rw [if_pos hw]
  unfold Oper.wp
  rw [exec_sell ho hk hr hv w, Oper.upon_enter]
  refine h.mono ?_
  rintro e w' ⟨r, rfl, hK⟩
  exact hK
/-- while a lot is sold: nothing but the lot turns, and its kind stays -/
def SellS (W : World) (b : Nat) (kv : Value) (w : World) : Prop := Chg (· = b) W w ∧ w.cell? ⟨b, 11, none⟩ = some kv
def TimeP (f : LotS → LotS × List SaleR) (W : World) (T : Nat → Part) (h K : Nat) (H : House) (t : Int) (e : Ending) (W' : World) : Prop :=
  ∃ ds T', e = .returned (.tuple #[.int .i64 ds.length, .int .i64 0]) ∧ DueL H.due t ds ∧ HouseIn W' T' h (K + 4096 * ds.length) (timeH f H t ds) ∧ Moves W T W' T'
theorem dueOf_some {ls : List LotS} {n x : Int} (h : dueOf ls n = some x) : 0 ≤ n ∧ ∃ l, ls[n.toNat]? = some l ∧ l.closed = false ∧ l.closes = x := by
  unfold dueOf at h
  split at h
  · cases h
  · split at h
    · split at h
      · cases h
      · rename_i l hl hc
        injection h with h
        exact ⟨by omega, l, hl, by simpa using hc, h⟩
    · cases h
set_option maxRecDepth 100000 in
set_option maxHeartbeats 8000000 in
theorem htime_ok {f : LotS → LotS × List SaleR} {W : World} {T : Nat → Part} {h pn pc K : Nat} {va vl vb vs : Value} {H : House} (hH : HouseAt W T h pn pc va vl vb vs K H) (o : OrderR) (vo : Value) (ht : coinB o.tick = true) (hnow : H.now ≤ o.tick)
    (hdue : H.due = dueOf H.lots) (hok : AccsOk H.accs) (hll : H.lots.length ≤ 4096) (hsl : H.sales.length + 64 * H.lots.length ≤ 1000000) (hK : K + 4096 * 4097 < maxLen)
    (hf : ∀ l ∈ H.lots, l.closed = false → l.closes ≤ o.tick → SellsAs f H.accs.length l) :
    Calls Tryz.prog 99 #[.pointer (some ⟨h, 0, none⟩), o.agg vo] W (TimeP f W T h K H o.tick) := by
  obtain ⟨W1, hW1⟩ : ∃ W1, W1 = W.alloc (.cells (o.cells vo).toArray 61) := ⟨_, rfl⟩
  have hb1 : Below W.heap.size W W1 := by rw [hW1]; exact (Below.refl _ _).alloc (Nat.le_refl _) _
  have hx : Blk W1 W.heap.size 61 (o.cells vo).toArray := by rw [hW1]; exact Blk.new _ _ _
  have hH1 := hH.grow hb1
  have HB1 := Lib.hid hb1
  obtain ⟨okind, oname, ocoins, obidder, olot, ⟨kind, opens, closes, start, step, extend, last, floor, fall, count, rule⟩, ooff, otick⟩ := o
  simp only at ht hnow hf ⊢
  simp only [OrderR.agg, OrderR.cells, LotR.cells, List.cons_append, List.nil_append] at hW1 hx ⊢
  have x7 : W1.cell? ⟨W.heap.size, 17, none⟩ = some (.int .i64 otick) := hx.cell 17
  have xl := hx.lt
  have c3 := hH1.cells.2.2.2.1
  have hl := hH1.blk.lt
  have HUP := Lib.hid (tupto_ok (W := W1.drew) (hH1.cal.grow (Below.refl _ _).drew) ht hnow)
  have HH1 := Lib.hid hH1
  have HDUE := Lib.hid hdue
  have HOK := Lib.hid hok
  have HLL := Lib.hid hll
  have HSL := Lib.hid hsl
  have HKM := Lib.hid hK
  have HF := Lib.hid hf
  clear hH hb1 hx hH1 ht hnow hdue hok hll hsl hK hf
  go_enter Tryz.func99, Tryz.ntmps99
  go_wp2_with fail
  rw [← hW1]
  clear hW1
  refine wp_region_F (Below W1.heap.size W1) [7, 8, 9, 10, 11, 12] (by kernel_rfl) ((Below.refl _ _).drew) (fun hS => ?_)
  refine tpD [1, 2, 3, 4, 7, 8, 9, 10, 11, 12] 0 hS ?_
  refine tpD [2, 3, 4, 7, 8, 9, 10, 11, 12] 1 hS ?_
  refine tpD [3, 4, 7, 8, 9, 10, 11, 12] 2 hS ?_
  refine tpD [4, 7, 8, 9, 10, 11, 12] 3 hS ?_
  have qq := Lib.hid fun (w' : World) (hSw : (Below W1.heap.size W1) w') => And.intro ((hSw.cell (p := ⟨W.heap.size, 17, none⟩) xl).trans x7) <| (hSw.cell (p := ⟨h, 3, none⟩) hl).trans c3
  refine tlD [7, 8, 9, 10, 11, 12] 4 hS qq ?_
  refine tpD [6, 7, 8, 9, 10, 11, 12] 5 hS ?_
  refine tlD [7, 8, 9, 10, 11, 12] 6 hS qq ?_
  refine stf 7 fun K hK => ?_
  go_simp
  refine HUP.out.mono ?_
  rintro e W5 ⟨v, outs, rfl, hrow, hdl, hcal, hc⟩
  have hc : Chg (fun b => T b = .cal) W1 W5 := ((Chg.refl _ W1).grow (Below.refl _ _).drew).trans hc
  have HH5 := Lib.hid (house_cal HH1.out hcal hc)
  have HM5 := Lib.hid (show Moves W T W5 T from ⟨(Chg.of _ HB1.out).trans (hc.mono fun b _ e => ⟨by rw [e]; simp, by rw [e]; simp⟩), fun _ _ => rfl⟩)
  have HRW5 := Lib.hid hrow
  have HDL := Lib.hid hdl
  obtain ⟨A, c, hv⟩ := hrow.form
  subst hv
  have HNO := Lib.hid (show ∀ b, W1.heap.size ≤ b → T b = .no from HH1.out.out)
  clear hrow hdl hcal hc
  refine hK.out _ _ ?_
  clear hK K
  try simp only [Act.put, pb, pz, ps]
  refine tpW 8 ?_
  refine tpW 9 ?_
  refine tpW 10 ?_
  refine tpW 11 ?_
  refine tpW 12 ?_
  refine wpAnyF_done (by kernel_rfl) ?_ _
  clear hS x7 c3 xl hl
  obtain ⟨n, hn⟩ : ∃ z, z = outs.length := ⟨_, rfl⟩
  rw [← hn] at HRW5 ⊢
  have HN := Lib.hid hn
  clear hn
  have HNL := Lib.hid (show n ≤ 4096 from by
    have h1 := HDL.out
    have h2 := nodup_le (outs.map (·.2)) ((List.range H.lots.length).map Int.ofNat) h1.nodup (fun x hx => by
      obtain ⟨d, hd, rfl⟩ := List.mem_map.1 hx
      have h3 := ((h1.mem d).1 hd).1
      rw [HDUE.out] at h3
      obtain ⟨h4, l, h5, _⟩ := dueOf_some h3
      have := (List.getElem?_eq_some_iff.1 h5).1
      exact List.mem_map.2 ⟨d.2.toNat, by simpa using this, by simp; omega⟩)
    have := HLL.out
    have := HN.out
    simp at h2
    omega)
  have HNS := Lib.hid (show H.sales.length + 64 * n ≤ 1000000 from by
    have h1 := HDL.out
    have h2 := nodup_le (outs.map (·.2)) ((List.range H.lots.length).map Int.ofNat) h1.nodup (fun x hx => by
      obtain ⟨d, hd, rfl⟩ := List.mem_map.1 hx
      have h3 := ((h1.mem d).1 hd).1
      rw [HDUE.out] at h3
      obtain ⟨h4, l, h5, _⟩ := dueOf_some h3
      have := (List.getElem?_eq_some_iff.1 h5).1
      exact List.mem_map.2 ⟨d.2.toNat, by simpa using this, by simp; omega⟩)
    have := HSL.out
    have := HN.out
    simp at h2
    omega)
  have e4 : (0 : Int) ≤ (n : Int) := by omega
  go_wp2_with fail
  go_loopw [26] (fun i wr => ∃ (k : Nat) (Tk : Nat → Part), k ≤ n ∧ i = .int .i64 k ∧ HouseIn wr Tk h (K + 4096 * k) (timeH f H otick (outs.take k)) ∧ Moves W T wr Tk ∧ Moves W5 T wr Tk ∧ (timeH f H otick (outs.take k)).sales.length ≤ H.sales.length + 64 * k) (fun i _ => n - (intOf i).toNat)
  case atStart => exact ⟨0, T, Nat.zero_le _, rfl, ⟨pn, pc, va, vl, vb, vs, HH5.out⟩, HM5.out, HouseAt.moves (Below.refl _ _), Nat.le_refl _⟩
  case round =>
    obtain ⟨k, Tk, hk, rfl, hA, hM, hM5, hsl⟩ := hrel
    by_cases hlt : k < n
    · obtain ⟨d, hd⟩ : ∃ d, outs[k]? = some d := ⟨_, List.getElem?_eq_getElem (by rw [← HN.out]; exact hlt)⟩
      have hdm := (HDL.out.mem d).1 (List.mem_of_getElem? hd)
      have hdu := hdm.1
      rw [HDUE.out] at hdu
      obtain ⟨hd0, l, hlj, hcl, hcx⟩ := dueOf_some hdu
      obtain ⟨j, hj⟩ : ∃ j : Nat, d.2 = j := ⟨d.2.toNat, by omega⟩
      rw [hj, Int.toNat_natCast] at hlj
      have hjl := (List.getElem?_eq_some_iff.1 hlj).1
      have hSA := HF.out l (List.mem_of_getElem? hlj) hcl (by rw [hcx]; exact hdm.2)
      obtain ⟨Hk, hHk⟩ : ∃ z, z = timeH f H otick (outs.take k) := ⟨_, rfl⟩
      have hnx : timeH f H otick (outs.take (k + 1)) = closeOne f Hk d := by rw [take_succ' hd, hHk]; exact closeAll_snoc _ _ _ _
      have hkl : Hk.lots[j]? = some l := by
        rw [hHk, ← hlj]
        unfold timeH
        refine closeAll_lot fun x hx e => ?_
        obtain ⟨i, hi, hxi⟩ := List.getElem_of_mem hx
        have hi2 : i < k := by simp at hi; omega
        have hxo : outs[i]? = some x := by rw [← hxi]; simp
        have hx2 := ((HDL.out.mem x).1 (List.mem_of_getElem? hxo)).1
        rw [HDUE.out] at hx2
        have hx3 := (dueOf_some hx2).1
        have := HDL.out.nodup
        rw [List.nodup_iff_pairwise_ne, List.pairwise_iff_getElem] at this
        have hkl2 := (List.getElem?_eq_some_iff.1 hd)
        have hil2 := (List.getElem?_eq_some_iff.1 hxo)
        refine this i k (by simpa using hil2.1) (by simpa using hkl2.1) hi2 ?_
        simp only [List.getElem_map, hil2.2, hkl2.2]
        omega
      have hcn : closeOne f Hk d = closeH { Hk with lots := Hk.lots.set j (f l).1 } j (f l).1 (f l).2 := by
        unfold closeOne
        rw [hj, Int.toNat_natCast, hkl]
      have hlen := closeAll_len (f := f) (outs.take k) { H with now := otick, due := laterD H.due otick }
      have hacl : Hk.accs.length = H.accs.length := by rw [hHk]; exact hlen.2.1
      have hltl : Hk.lots.length = H.lots.length := by rw [hHk]; exact hlen.1
      have hokk : AccsOk Hk.accs := by rw [hHk]; exact closeAll_ok HOK.out HLL.out
      rw [← hHk] at hA hsl
      obtain ⟨d1, d2⟩ := d
      simp only at hj
      subst hj
      obtain ⟨rq, rcap, rv, _, rq1, _⟩ := HRW5.out.ex (by omega)
      injection rv with rv1 rv2 rv3
      subst rv1 rv3
      clear rv2
      have hrk := RowAt.chg HRW5.out hM5.chg (fun b hb hr => fun ho => ho.2 (HNO.out b (Nat.le_trans (by simp) hr)))
      have r0 : wr.cell? ⟨rq, k * 2, none⟩ = some (.int .i64 d1) := (hrk.own.cellAt (k * 2) (by have := hrk.len; omega)).trans (duAll_at hd).1
      have r1 : wr.cell? ⟨rq, k * 2 + 1, none⟩ = some (.int .i64 j) := (hrk.own.cellAt (k * 2 + 1) (by have := hrk.len; omega)).trans (duAll_at hd).2
      have e5 : (0 : Int) ≤ (k : Int) := by omega
      have e6 : (k : Int) < (n : Int) := by omega
      obtain ⟨pnk, pck, vak, vlk, vbk, vsk, hA⟩ := hA
      obtain ⟨w1, hw1⟩ : ∃ w1, w1 = wr.alloc (.cells #[.int .i64 d1, .int .i64 j] 161) := ⟨_, rfl⟩
      have hbw : Below wr.heap.size wr w1 := by rw [hw1]; exact (Below.refl _ _).alloc (Nat.le_refl _) _
      have hxw : Blk w1 wr.heap.size 161 #[.int .i64 d1, .int .i64 j] := by rw [hw1]; exact Blk.new _ _ _
      have hno : Tk wr.heap.size = .no := hA.out _ (Nat.le_refl _)
      have hA1 := hA.grow hbw
      obtain ⟨bl, hro, hls⟩ := hA1.lots
      obtain ⟨q, cap, hvl, hqt, hq, _⟩ := hro.ex (by omega)
      subst hvl
      have q0 : w1.cell? ⟨q, j, none⟩ = some (.pointer (some ⟨bl j, 0, none⟩)) := (hro.own.cellAt j (by omega)).trans (ptrs_at (by omega))
      have hlt2 := hls j l hkl
      obtain ⟨lv, htb, hblk, _⟩ := id hlt2
      have l11 : w1.cell? ⟨bl j, 11, none⟩ = some (kindV l.put.kind) := hblk.cell 11
      have lb := hblk.lt
      have x1 : w1.cell? ⟨wr.heap.size, 1, none⟩ = some (.int .i64 j) := hxw.cell 1
      have xl1 := hxw.lt
      have c2 := hA1.cells.2.2.1
      have lh := hA1.cells.2.2.2.2.2.2
      obtain ⟨nl, hnl⟩ : ∃ z, z = Hk.lots.length := ⟨_, rfl⟩
      rw [← hnl] at c2
      have e7 : (0 : Int) ≤ (j : Int) := by omega
      have e8 : (j : Int) < (nl : Int) := by omega
      have nx : ¬ wr.heap.size = bl j := fun e => by rw [← e, hno] at htb; cases htb
      have nh : ¬ h = bl j := fun e => by have := hA1.top; rw [e, htb] at this; cases this
      have nq : ¬ q = bl j := fun e => by rw [e, htb] at hqt; cases hqt
      obtain ⟨kv, hkv⟩ : ∃ z, z = kindV l.put.kind := ⟨_, rfl⟩
      rw [← hkv] at l11
      have HKV := Lib.hid hkv
      obtain ⟨kt, hkt⟩ := kind_iface hSA.kind
      rw [← hkv] at hkt
      subst hkt
      have HSA := Lib.hid hSA
      have HA1 := Lib.hid hA1
      have HRO := Lib.hid hro
      have HLS := Lib.hid hls
      have HLT := Lib.hid hlt2
      have HMW := Lib.hid hM
      have HM5W := Lib.hid hM5
      have HBW := Lib.hid hbw
      have HNX := Lib.hid hnx
      have HCN := Lib.hid hcn
      have HKL := Lib.hid hkl
      have HAC := Lib.hid hacl
      have HLT2 := Lib.hid hltl
      have HOKK := Lib.hid hokk
      have HSK := Lib.hid hsl
      have HHK := Lib.hid hHk
      have HTB := Lib.hid htb
      have HJL := Lib.hid hjl
      clear hA hA1 hro hls hlt2 hM hM5 hbw hnx hcn hkl hacl hltl hokk hsl hHk hxw hno hSA hd hdm hdu hd0 hlj hcl hcx hlen hrk hkv hqt hblk hnl htb hjl
      have hS11 := Lib.hid l11
      go_wp2_with fail
      rw [← hw1]
      clear hw1 r0 r1 rq1
      refine wp_region_F (SellS w1 (bl j) (.iface kt (.agg #[]))) [27] (by kernel_rfl) (show SellS w1 (bl j) (.iface kt (.agg #[])) w1.drew from ⟨(Chg.refl _ w1).grow (Below.refl _ _).drew, hS11.out⟩) (fun hS => ?_)
      refine tp 0 hS ?_
      refine tpD [2, 27] 1 hS ?_
      have qq := Lib.hid fun (w' : World) (hSw : (SellS w1 (bl j) (.iface kt (.agg #[]))) w') => And.intro ((hSw.1.cell (p := ⟨wr.heap.size, 1, none⟩) xl1 nx).trans x1) <| And.intro ((hSw.1.cell (p := ⟨h, 2, none⟩) lh nh).trans c2) <| And.intro ((hSw.1.cell (p := ⟨q, j, none⟩) hq nq).trans q0) <| hSw.2
      refine tl 2 hS qq ?_
      refine tpD [4, 5, 6, 7, 10, 11, 12, 13, 14, 24, 25, 26, 27] 3 hS ?_
      refine tpD [5, 6, 7, 10, 11, 12, 13, 14, 24, 25, 26, 27] 4 hS ?_
      refine tpD [6, 7, 10, 11, 12, 13, 14, 24, 25, 26, 27] 5 hS ?_
      refine tpD [7, 10, 11, 12, 13, 14, 24, 25, 26, 27] 6 hS ?_
      refine tlD [10, 11, 12, 13, 14, 24, 25, 26, 27] 7 hS qq ?_
      refine tpD [9, 10, 11, 12, 13, 14, 24, 25, 26, 27] 8 hS ?_
      refine tlD [10, 11, 12, 13, 14, 24, 25, 26, 27] 9 hS qq ?_
      refine tpD [11, 12, 13, 14, 24, 25, 26, 27] 10 hS ?_
      refine tlD [12, 13, 14, 24, 25, 26, 27] 11 hS qq ?_
      refine tpD [13, 14, 24, 25, 26, 27] 12 hS ?_
      refine tpD [14, 24, 25, 26, 27] 13 hS ?_
      refine tlD [24, 25, 26, 27] 14 hS qq ?_
      refine tpD [16, 17, 18, 19, 22, 23, 26, 27] 15 hS ?_
      refine tpD [17, 18, 19, 22, 23, 26, 27] 16 hS ?_
      refine tpD [18, 19, 22, 23, 26, 27] 17 hS ?_
      refine tpD [19, 22, 23, 26, 27] 18 hS ?_
      refine tlD [22, 23, 26, 27] 19 hS qq ?_
      refine tpD [21, 22, 23, 26, 27] 20 hS ?_
      refine tlD [22, 23, 26, 27] 21 hS qq ?_
      refine tpD [23, 26, 27] 22 hS ?_
      refine tlD [26, 27] 23 hS qq ?_
      refine tpD [25, 26, 27] 24 hS ?_
      refine tpD [26, 27] 25 hS ?_
      refine stp 26 fun K hK => ?_
      refine step_sell (k := l.put.kind) rfl rfl HSA.out.kind HKV.out rfl ?_
      refine (HSA.out.run w1.drew Tk j (bl j) (HLT.out.step (Chg.of (fun _ => False) (Below.refl _ _).drew) (fun _ _ => id) fun _ _ => rfl) (fun x hx => HA1.out.out x hx)).mono ?_
      rintro e w2 ⟨A2, c2x, rfl, hs2, hl2, hcg2⟩
      refine ⟨_, rfl, ?_⟩
      have hcg2 : Chg (· = bl j) w1 w2 := ((Chg.refl _ w1).grow (Below.refl _ _).drew).trans hcg2
      have HS2 := Lib.hid hs2
      have HL2 := Lib.hid hl2
      have HC2 := Lib.hid hcg2
      clear hs2 hl2 hcg2
      refine hK.out _ _ ?_ (fun hS => ?_)
      · exact ⟨HC2.out, by obtain ⟨_, _, hb2, _⟩ := HL2.out; refine (hb2.cell 11).trans ?_; show some (kindV (f l).1.put.kind) = _; rw [HSA.out.keep.2, ← HKV.out]⟩
      clear hK K
      try simp only [Act.put, pb, pz, ps]
      refine stf 27 fun K hK => ?_
      have hA2 := house_lot HA1.out HRO.out HLS.out (j := j) (by have := HJL.out; have := HLT2.out; omega) (l := (f l).1) HL2.out (HC2.out.mono fun b _ e => e ▸ HTB.out) (fun _ _ => rfl) (fun b hb => HA1.out.out b (Nat.le_trans HC2.out.size hb))
      have hAC := HAC.out
      have hcl2 := hclose_any hA2 (j := j) (l := (f l).1) (by
          show (Hk.lots.set j (f l).1)[j]? = some (f l).1
          rw [List.getElem?_set_self]
          have := HJL.out; have := HLT2.out; omega) (by rw [HSA.out.keep.1]; intro s hs; have := HSA.out.stands s hs; rw [← hAC] at this; exact this) (sales := (f l).2) HS2.out (fun b hb => HA1.out.out b (by simpa using hb)) (by intro s hs; have := HSA.out.sales s hs; rw [← hAC] at this; exact this) HOKK.out (by rw [HSA.out.keep.1]; have := HSA.out.few; have := HKM.out; have := HNL.out; omega) (by
          have h1 := HSK.out; have h2 := HNS.out; have h3 := HSA.out.most
          show Hk.sales.length + (f l).2.length ≤ 1000000
          omega) (by have := HJL.out; have := HLL.out; omega)
      have HCL2 := Lib.hid hcl2
      clear hA2 hAC hcl2
      obtain ⟨ns, hns⟩ : ∃ z, z = (f l).2.length := ⟨_, rfl⟩
      rw [← hns] at HCL2
      have HNN := Lib.hid hns
      rw [← hns]
      clear hns
      go_simp
      refine HCL2.out.mono ?_
      rintro e w3 ⟨rfl, T3, hH3, hM3⟩
      have HH3 := Lib.hid hH3
      have HM3 := Lib.hid hM3
      clear hH3 hM3
      refine hK.out _ _ ?_
      clear hK K
      try simp only [Act.put, pb, pz, ps]
      refine wpAnyF_done (by kernel_rfl) ?_ _
      clear hS x1 xl1 c2 lh q0 hq l11 lb nx nh nq
      have hwr : IntKind.i64.wrap ((k : Int) + 1) = (k : Int) + 1 := IntWalk.i64_in _ (by have := HNL.out; omega)
      go_wp2_with fail
      go_roundw
      case rel =>
        have hm2 : Moves wr Tk w3 T3 := (HouseAt.moves HBW.out).trans (Moves.trans ⟨HC2.out.mono fun b _ e => ⟨by rw [e, HTB.out]; simp, by rw [e, HTB.out]; simp⟩, fun _ _ => rfl⟩ HM3.out)
        refine ⟨k + 1, T3, by omega, by go_num, ?_, HMW.out.trans hm2, HM5W.out.trans hm2, ?_⟩
        · rw [HNX.out, HCN.out]
          exact HH3.out.mono (by rw [HSA.out.keep.1]; have := HSA.out.few; omega)
        · rw [HNX.out]
          have h1 := closeOne_sales (f := f) (H := Hk) (d := (d1, (j : Int))) (fun x hx => by
            rw [Int.toNat_natCast, HKL.out] at hx
            injection hx with e
            rw [← e]
            exact HSA.out.most)
          have := HSK.out
          omega
      case measure => simp [intOf]; omega
    · obtain rfl : k = n := by omega
      have hall : outs.take k = outs := List.take_of_length_le (by have := HN.out; omega)
      rw [hall] at hA
      have HA := Lib.hid hA
      have HMM := Lib.hid hM
      clear hA hM hM5 hsl hall hlt hk e4
      go_wp2_with fail
      go_ret2
      exact ⟨outs, Tk, by rw [HN.out]; rfl, HDL.out, by rw [← HN.out]; exact HA.out, HMM.out⟩
end Go.Proofs.YtckdpejdnejhfaaGreat.Ho

/- House: the price of a falling lot; the kinds' price. -/
namespace Go.Proofs.YtckdpejdnejhfaaGreat.Ho
open Go.RowKit
open Go.Proofs.YtckdpejdnejhfaaGreat.Vb Go.Proofs.YtckdpejdnejhfaaGreat.Ac

/-- when a falling lot is at its floor; its price at a tick -/
def fallEnd (l : LotR) : Int := l.opens + (l.start - l.floor + l.fall - 1) / l.fall
def fallP (l : LotR) (t : Int) : Int := if l.fall = 0 ∨ t < fallEnd l then l.start - l.fall * (t - l.opens) else l.floor
def fallPrice (l : LotR) (t : Int) : Int := if l.opens ≤ t ∧ t < l.closes then fallP l t else 0
structure FallB (l : LotR) : Prop where
  opens : coin l.opens
  closes : coin l.closes
  start : coin l.start
  floor : 0 ≤ l.floor ∧ l.floor ≤ l.start
  fall : coin l.fall
end Go.Proofs.YtckdpejdnejhfaaGreat.Ho

/- House: the kinds' price; Lot. -/
namespace Go.Proofs.YtckdpejdnejhfaaGreat.Ho
open Go.RowKit
open Go.Proofs.YtckdpejdnejhfaaGreat.Vb Go.Proofs.YtckdpejdnejhfaaGreat.Ac

end Go.Proofs.YtckdpejdnejhfaaGreat.Ho

/- House: bring. -/
namespace Go.Proofs.YtckdpejdnejhfaaGreat.Ho
open Go.RowKit
open Go.Proofs.YtckdpejdnejhfaaGreat.Vb Go.Proofs.YtckdpejdnejhfaaGreat.Ac

/-- what Bring refuses -/
def broughtE (H : House) (b c : Int) : Int := if b < 0 ∨ (H.accs.length : Int) ≤ b then 4 else match H.accs[b.toNat]? with | some a => a.bringE c | none => 4
def broughtH (H : House) (b c : Int) : House := match H.accs[b.toNat]? with | some a => { H with accs := H.accs.set b.toNat (a.bring c) } | none => H
def broughtV (H : House) (b c : Int) : Int := match H.accs[b.toNat]? with | some a => a.bud + c | none => 0
set_option maxRecDepth 100000 in
set_option maxHeartbeats 4000000 in
theorem hbring_ok {W : World} {T : Nat → Part} {h pn pc K : Nat} {va vl vb vs : Value} {H : House} (hH : HouseAt W T h pn pc va vl vb vs K H) (hok : ∀ a ∈ H.accs, a.Ok) (o : OrderR) (vo : Value) (he : broughtE H o.bidder o.coins = 0) :
    Calls Tryz.prog 95 #[.pointer (some ⟨h, 0, none⟩), o.agg vo] W fun e W' => e = .returned (.tuple #[.int .i64 (broughtV H o.bidder o.coins), .int .i64 0]) ∧ ∃ T', HouseIn W' T' h K (broughtH H o.bidder o.coins) ∧ Moves W T W' T' := by
  obtain ⟨W1, hW1⟩ : ∃ W1, W1 = W.alloc (.cells (o.cells vo).toArray 61) := ⟨_, rfl⟩
  have hb1 : Below W.heap.size W W1 := by rw [hW1]; exact (Below.refl _ _).alloc (Nat.le_refl _) _
  have hx : Blk W1 W.heap.size 61 (o.cells vo).toArray := by rw [hW1]; exact Blk.new _ _ _
  have hH1 := hH.grow hb1
  have HB1 := Lib.hid hb1
  obtain ⟨ba, ma, hrow, has⟩ := hH1.accs
  have c1 := hH1.cells.2.1
  obtain ⟨okind, oname, ocoins, obidder, olot, ⟨kind, opens, closes, start, step, extend, last, floor, fall, count, rule⟩, ooff, otick⟩ := o
  simp only at he
  simp only [OrderR.agg, OrderR.cells, LotR.cells, List.cons_append, List.nil_append] at hW1 hx ⊢
  have x2 : W1.cell? ⟨W.heap.size, 2, none⟩ = some (.int .i64 ocoins) := hx.cell 2
  have x3 : W1.cell? ⟨W.heap.size, 3, none⟩ = some (.int .i64 obidder) := hx.cell 3
  unfold broughtE at he
  by_cases hr : obidder < 0 ∨ (H.accs.length : Int) ≤ obidder
  · rw [if_pos hr] at he; cases he
  · rw [if_neg hr] at he
    obtain ⟨i, hi⟩ : ∃ i : Nat, obidder = i := ⟨obidder.toNat, by omega⟩
    subst hi
    have hil : i < H.accs.length := by omega
    obtain ⟨a, ha⟩ : ∃ a, H.accs[i]? = some a := ⟨_, List.getElem?_eq_getElem hil⟩
    rw [Int.toNat_natCast, ha] at he
    simp only at he
    have hv : broughtV H i ocoins = a.bud + ocoins := by unfold broughtV; rw [Int.toNat_natCast, ha]
    have hw : broughtH H i ocoins = { H with accs := H.accs.set i (a.bring ocoins) } := by unfold broughtH; rw [Int.toNat_natCast, ha]
    have HOF := Lib.hid (hof_ok c1 hrow hil)
    have HBR := Lib.hid (bring_live (has i a ha).1 (hok a (List.mem_of_getElem? ha)).bud (v := ocoins))
    have HE := Lib.hid he
    have HH1 := Lib.hid hH1
    have HRO := Lib.hid hrow
    have HAS := Lib.hid has
    have HIL := Lib.hid hil
    have HA := Lib.hid ha
    have HV := Lib.hid hv
    have HW := Lib.hid hw
    clear hH hb1 hx hH1 hrow has hr c1 he hok ha hil hv hw
    go_enter Tryz.func95, Tryz.ntmps95
    go_wp2_with fail
    rw [← hW1]
    clear hW1
    refine HOF.out.mono ?_
    rintro e W2 ⟨rfl, rfl⟩
    go_wp2_with fail
    refine HBR.out.mono ?_
    rintro e W3 (⟨h1, _⟩ | ⟨h1, rfl, hA3, hc3⟩)
    · exact absurd HE.out h1
    · have HA3 := Lib.hid hA3
      have HC3 := Lib.hid hc3
      clear hA3 hc3 h1
      go_wp2_with fail
      refine (budget_any (f := .live (a.bring ocoins)) ⟨_, _, _, rfl, HA3.out⟩).mono ?_
      rintro e W4 ⟨rfl, rfl⟩
      go_wp2_with fail
      go_ret2
      refine ⟨by rw [HV.out]; rfl, T, ?_, ?_⟩
      · rw [HW.out]
        have hT := (HAS.out i a HA.out).2
        have hc : Chg (fun b => T b = .acc i) W2 W4 := HC3.out.mono fun b _ e => e ▸ hT.1
        exact ⟨pn, pc, va, vl, vb, vs, house_accs HH1.out (accs_upd HRO.out HAS.out HIL.out (Nat.le_refl _) HA3.out hc) (hc.mono fun b _ e => ⟨i, e⟩)⟩
      · have hT := (HAS.out i a HA.out).2
        exact ⟨(Chg.of _ HB1.out).step HC3.out fun b _ e => by rw [e]; exact ⟨by rw [hT.1]; simp, by rw [hT.1]; simp⟩, fun _ _ => rfl⟩
end Go.Proofs.YtckdpejdnejhfaaGreat.Ho

/- House: Bidder. -/
namespace Go.Proofs.YtckdpejdnejhfaaGreat.Ho
open Go.RowKit
open Go.Proofs.YtckdpejdnejhfaaGreat.Vb Go.Proofs.YtckdpejdnejhfaaGreat.Ac

abbrev bidderV (s : ByteArray) (b hl sp : Int) : Value := .agg #[.string s, .int .i64 b, .int .i64 hl, .int .i64 sp]
set_option maxRecDepth 100000 in
set_option maxHeartbeats 4000000 in
theorem hbidder_err {W : World} {T : Nat → Part} {h K : Nat} {H : House} (hH : HouseIn W T h K H) {x : Int} (hx : x < 0 ∨ (H.accs.length : Int) ≤ x) :
    Calls Tryz.prog 38 #[.pointer (some ⟨h, 0, none⟩), .int .i64 x] W fun e W' => e = .returned (.tuple #[bidderV { data := #[] } 0 0 0, .int .i64 4]) ∧ Below W.heap.size W W' := by
  obtain ⟨W1, hW1⟩ : ∃ W1, W1 = W.alloc (.cells #[.string { data := #[] }, .int .i64 0, .int .i64 0, .int .i64 0] 112) := ⟨_, rfl⟩
  have hb1 : Below W.heap.size W W1 := by rw [hW1]; exact (Below.refl _ _).alloc (Nat.le_refl _) _
  have hx1 : Blk W1 W.heap.size 112 #[.string { data := #[] }, .int .i64 0, .int .i64 0, .int .i64 0] := by rw [hW1]; exact Blk.new _ _ _
  have HH1 := Lib.hid (hH.grow hb1)
  have HX1 := Lib.hid hx1
  have HB1 := Lib.hid hb1
  obtain ⟨pn, pc, va, vl, vb, vs, hA⟩ := hH.grow hb1
  obtain ⟨A, c, hva⟩ := hA.accs.form
  have c1 := hA.cells.2.1
  rw [hva] at c1
  have HOF := Lib.hid (hof_err c1 hx)
  have y0 := hx1.cell 0
  have y1 := hx1.cell 1
  have y2 := hx1.cell 2
  have y3 := hx1.cell 3
  have yf := hx1.frozen
  simp only [List.getElem?_toArray, List.getElem?_cons_zero, List.getElem?_cons_succ] at y0 y1 y2 y3
  clear hH hx hA hva c1 hb1 hx1
  go_enter Tryz.func38, Tryz.ntmps38
  go_wp2_with fail
  rw [← hW1]
  clear hW1
  refine (hnone_any HH1.out).mono ?_
  rintro e W2 ⟨rfl, rfl⟩
  go_wp2_with fail
  refine HOF.out.mono ?_
  rintro e W3 ⟨rfl, rfl⟩
  go_wp2_with fail
  have hfin := (((HX1.out.set_ 0 (.string { data := #[] })).set_ 1 (.int .i64 0)).set_ 2 (.int .i64 0)).set_ 3 (.int .i64 0)
  have q0 := hfin.cell 0
  have q1 := hfin.cell 1
  have q2 := hfin.cell 2
  have q3 := hfin.cell 3
  simp at q0 q1 q2 q3
  refine bodyPost_ret (v := .tuple #[bidderV { data := #[] } 0 0 0, .int .i64 4]) (by simp [results, Tryz.results38, go_sem, q0, q1, q2, q3]) rfl ⟨rfl, ?_⟩
  exact (((HB1.out.setCell (p := ⟨W.heap.size, 0, none⟩) (Nat.le_refl _) _).setCell (p := ⟨W.heap.size, 1, none⟩) (Nat.le_refl _) _).setCell (p := ⟨W.heap.size, 2, none⟩) (Nat.le_refl _) _).setCell (p := ⟨W.heap.size, 3, none⟩) (Nat.le_refl _) _
end Go.Proofs.YtckdpejdnejhfaaGreat.Ho

/- House: at: the lot of that number, for a bidder, while it runs. -/
namespace Go.Proofs.YtckdpejdnejhfaaGreat.Ho
open Go.RowKit
open Go.Proofs.YtckdpejdnejhfaaGreat.Vb Go.Proofs.YtckdpejdnejhfaaGreat.Ac

end Go.Proofs.YtckdpejdnejhfaaGreat.Ho
