import Derived.Test.YthoaidfpgijbfaaGreatZm
import Derived.Test.YthoaidfpgijbfaaGreatZk
import Derived.Handy
import Derived.Test.YthoaidfpgijbfaaGreatZa
import Derived.Test.YthoaidfpgijbfaaGreatZe
import Derived.Deep.MidRow
import Derived.BigQuiet
import Derived.Test.YthoaidfpgijbfaaGreatZj
namespace Go.Proofs.YthoaidfpgijbfaaGreat.Ho
open Go.RowKit
open Go.Proofs.YthoaidfpgijbfaaGreat.Vb Go.Proofs.YthoaidfpgijbfaaGreat.Ac
def closeOne (f : LotS → LotS × List SaleR) (H : House) (d : Du) : House :=
  match H.lots[d.2.toNat]? with
  | none => H
  | some l => closeH { H with lots := H.lots.set d.2.toNat (f l).1 } d.2.toNat (f l).1 (f l).2
def closeAll (f : LotS → LotS × List SaleR) (H : House) (ds : List Du) : House := ds.foldl (closeOne f) H
def timeH (f : LotS → LotS × List SaleR) (H : House) (t : Int) (ds : List Du) : House := closeAll f { H with now := t, due := laterD H.due t } ds
theorem closeAll_snoc (f : LotS → LotS × List SaleR) (H : House) (ds : List Du) (d : Du) : closeAll f H (ds ++ [d]) = closeOne f (closeAll f H ds) d := by simp [closeAll]
section
variable {f : LotS → LotS × List SaleR}
theorem closeOne_len (H : House) (d : Du) : (closeOne f H d).lots.length = H.lots.length ∧ (closeOne f H d).accs.length = H.accs.length ∧ (closeOne f H d).book = H.book ∧ (closeOne f H d).now = H.now ∧ (closeOne f H d).names = H.names ∧ (closeOne f H d).due = H.due := by
  unfold closeOne
  split
  · exact ⟨rfl, rfl, rfl, rfl, rfl, rfl⟩
  · refine ⟨by simp [closeH], ?_, rfl, rfl, rfl, rfl⟩
    simp only [closeH]
    rw [payAll_len, relAll_len]
theorem closeAll_len (ds : List Du) : ∀ H : House, (closeAll f H ds).lots.length = H.lots.length ∧ (closeAll f H ds).accs.length = H.accs.length ∧ (closeAll f H ds).book = H.book ∧ (closeAll f H ds).now = H.now ∧ (closeAll f H ds).names = H.names ∧ (closeAll f H ds).due = H.due := by
  induction ds with
  | nil => exact fun H => ⟨rfl, rfl, rfl, rfl, rfl, rfl⟩
  | cons d ds ih =>
    intro H
    obtain ⟨h1, h2, h3, h4, h5, h6⟩ := ih (closeOne f H d)
    obtain ⟨k1, k2, k3, k4, k5, k6⟩ := closeOne_len (f := f) H d
    exact ⟨h1.trans k1, h2.trans k2, h3.trans k3, h4.trans k4, h5.trans k5, h6.trans k6⟩
theorem closeOne_lot {H : House} {d : Du} {n : Nat} (hn : n ≠ d.2.toNat) : (closeOne f H d).lots[n]? = H.lots[n]? := by
  unfold closeOne
  split
  · rfl
  · simp only [closeH]
    rw [List.getElem?_set_ne (fun e => hn e.symm), List.getElem?_set_ne (fun e => hn e.symm)]
theorem closeAll_lot {n : Nat} : ∀ {ds : List Du} {H : House}, (∀ d ∈ ds, d.2.toNat ≠ n) → (closeAll f H ds).lots[n]? = H.lots[n]?
  | [], H, _ => rfl
  | d :: ds, H, h => (closeAll_lot (ds := ds) (H := closeOne f H d) fun x hx => h x (List.mem_cons_of_mem _ hx)).trans (closeOne_lot fun e => h d List.mem_cons_self e.symm)
theorem closeOne_ok {H : House} (h : AccsOk H.accs) (hl : H.lots.length ≤ 4096) (d : Du) : AccsOk (closeOne f H d).accs := by
  unfold closeOne
  split
  · exact h
  · rename_i l hl2
    have := (List.getElem?_eq_some_iff.1 hl2).1
    exact payAll_ok _ _ (relAll_ok (by omega) _ _ h)
theorem closeAll_ok : ∀ {ds : List Du} {H : House}, AccsOk H.accs → H.lots.length ≤ 4096 → AccsOk (closeAll f H ds).accs
  | [], _, h, _ => h
  | d :: ds, H, h, hl => closeAll_ok (ds := ds) (closeOne_ok h hl d) (by rw [(closeOne_len H d).1]; exact hl)
theorem closeOne_sales {H : House} {d : Du} (hs : ∀ l, H.lots[d.2.toNat]? = some l → (f l).2.length ≤ 64) : (closeOne f H d).sales.length ≤ H.sales.length + 64 := by
  unfold closeOne
  split
  · omega
  · rename_i l hl
    have := hs l hl
    simp [closeH]
    omega
end
def saleOf (w p : Int) : SaleR := ⟨0, 0, w, p, 0, 0, 0⟩
def SellQ (W : World) (T : Nat → Part) (j b : Nat) (l' : LotS) (sales : List SaleR) (e : Ending) (W' : World) : Prop :=
  ∃ A c, e = .returned (.slice A sales.length c) ∧ Sl W' (fun b => W.heap.size ≤ b) (.slice A sales.length c) sales.length 7 (sales.flatMap SaleR.cells) ∧ LotAt W' T j b l' ∧ Chg (· = b) W W'
def sellF (k : Int) : FuncId := if k = 1 then 251 else if k = 2 then 269 else if k = 3 then 281 else if k = 4 then 293 else 308
theorem kind_iface {k : Int} (h : 1 ≤ k ∧ k ≤ 5) : ∃ t, kindV k = .iface t (.agg #[]) := by
  have h5 : k = 1 ∨ k = 2 ∨ k = 3 ∨ k = 4 ∨ k = 5 := by omega
  rcases h5 with rfl | rfl | rfl | rfl | rfl
  · exact ⟨185, by simp [kindV]⟩
  · exact ⟨186, by simp [kindV]⟩
  · exact ⟨187, by simp [kindV]⟩
  · exact ⟨188, by simp [kindV]⟩
  · exact ⟨189, by simp [kindV]⟩
structure SellsAs (f : LotS → LotS × List SaleR) (N : Nat) (l : LotS) : Prop where
  kind : 1 ≤ l.put.kind ∧ l.put.kind ≤ 5
  stands : ∀ s ∈ l.stands, 0 ≤ s.bidder ∧ s.bidder < N
  few : l.stands.length ≤ 4096
  keep : (f l).1.stands = l.stands ∧ (f l).1.put = l.put
  sales : ∀ s ∈ (f l).2, 0 ≤ s.bidder ∧ s.bidder < N
  most : (f l).2.length ≤ 64
  run : ∀ W T j b, LotAt W T j b l → (∀ x, W.heap.size ≤ x → T x = .no) → Calls Tryz.prog (sellF l.put.kind) #[.agg #[], .pointer (some ⟨b, 0, none⟩)] W (SellQ W T j b (f l).1 (f l).2)
theorem HouseIn.mono {W : World} {T : Nat → Part} {h K K' : Nat} {H : House} (hH : HouseIn W T h K H) (hK : K ≤ K') : HouseIn W T h K' H := by
  obtain ⟨pn, pc, va, vl, vb, vs, h1⟩ := hH
  exact ⟨pn, pc, va, vl, vb, vs, h1.top, h1.blk, h1.names, h1.accs.mono hK, h1.lots, h1.cal, h1.book, h1.sales, h1.out⟩
theorem house_cal {W U : World} {T : Nat → Part} {h pn pc K : Nat} {va vl vb vs : Value} {H : House} {t : Int} {D : Int → Option Int} (H0 : HouseAt W T h pn pc va vl vb vs K H) (hcal : CalAt U (fun b => T b = .cal) pc t D) (hc : Chg (fun b => T b = .cal) W U) :
    HouseAt U T h pn pc va vl vb vs K { H with now := t, due := D } := by
  have hn : ∀ b P, T b = P → P ≠ .cal → ¬ T b = .cal := fun b P e1 e2 e3 => e2 (e1.symm.trans e3)
  refine ⟨H0.top, H0.blk.chg hc (hn h _ H0.top (by simp)), H0.names.step hc (fun b e => hn b _ e (by simp)) (fun _ _ => rfl), H0.accs.step hc (fun b e => ?_) (fun _ _ => rfl), H0.lots.step hc (fun b e => ?_) (fun _ _ => rfl), hcal, H0.book.step hc (fun b e => ?_) (fun _ _ => rfl), H0.sales.step hc (fun b e => hn b _ e (by simp)) (fun _ _ => rfl), fun b hb => H0.out b (Nat.le_trans hc.size hb)⟩
  · rcases e with e | ⟨i, e⟩ <;> exact hn b _ e (by simp)
  · rcases e with e | ⟨i, e⟩ | e <;> exact hn b _ e (by simp)
  · rcases e with e | e <;> exact hn b _ e (by simp)
end Go.Proofs.YthoaidfpgijbfaaGreat.Ho
namespace Go.Proofs.YthoaidfpgijbfaaGreat.Ho
open Go.RowKit
open Go.Proofs.YthoaidfpgijbfaaGreat.Vb Go.Proofs.YthoaidfpgijbfaaGreat.Ac
def priceF (k : Int) : FuncId := if k = 1 then 250 else if k = 2 then 268 else if k = 3 then 280 else if k = 4 then 292 else 307
theorem exec_sell {ev : Operand → Value} {o : Oper} (ho : o.op = .call { callee := .invoke (.tmp 55) "gavel/house.sell", args := #[.tmp 53], argTypes := #[135] }) {k : Int} (hk : 1 ≤ k ∧ k ≤ 5) (hr : ev (.tmp 55) = kindV k) {v : Value} (hv : ev (.tmp 53) = v) (w : World) :
    (execOp ev o).run Tryz.prog w = .ok (.enter (sellF k) #[.agg #[], v]) w := by
  have h5 : k = 1 ∨ k = 2 ∨ k = 3 ∨ k = 4 ∨ k = 5 := by omega
  have hx : (execOp ev o).run Tryz.prog w = (callMethod (kindV k) "gavel/house.sell" #[v]).run Tryz.prog w := by
    simp [execOp, ho, resolve, invoke, hr, hv, go_sem]
  rw [hx]
  clear hx ho hr
  have e1 : (callMethod (kindV 1) "gavel/house.sell" #[v]).run Tryz.prog w = .ok (.enter (sellF 1) #[.agg #[], v]) w := by kernel_rfl
  have e2 : (callMethod (kindV 2) "gavel/house.sell" #[v]).run Tryz.prog w = .ok (.enter (sellF 2) #[.agg #[], v]) w := by kernel_rfl
  have e3 : (callMethod (kindV 3) "gavel/house.sell" #[v]).run Tryz.prog w = .ok (.enter (sellF 3) #[.agg #[], v]) w := by kernel_rfl
  have e4 : (callMethod (kindV 4) "gavel/house.sell" #[v]).run Tryz.prog w = .ok (.enter (sellF 4) #[.agg #[], v]) w := by kernel_rfl
  have e5 : (callMethod (kindV 5) "gavel/house.sell" #[v]).run Tryz.prog w = .ok (.enter (sellF 5) #[.agg #[], v]) w := by kernel_rfl
  rcases h5 with rfl | rfl | rfl | rfl | rfl
  · exact e1
  · exact e2
  · exact e3
  · exact e4
  · exact e5
theorem step_sell {ops : Array Oper} {K : Act → World → Prop} {E0 : Prop} {a : Act} {Q : Exit → Act → World → Prop} {w : World} {o : Oper} (hgd : o.guard = none) (ho : o.op = .call { callee := .invoke (.tmp 55) "gavel/house.sell", args := #[.tmp 53], argTypes := #[135] }) {k : Int} (hk : 1 ≤ k ∧ k ≤ 5) (hr : a.eval (.tmp 55) = kindV k) {v : Value} (hv : a.eval (.tmp 53) = v)
    (h : Calls Tryz.prog (sellF k) #[.agg #[], v] w fun e w' => ∃ r, e = .returned r ∧ K (a.put o.dst r) w') :
    if Region.wanted o (yielded ops a.tmps) = true then Oper.wp Tryz.prog o a w K Q else E0 := by
  have hw : Region.wanted o (yielded ops a.tmps) = true := by simp [Region.wanted, hgd]
  rw [if_pos hw]
  unfold Oper.wp
  rw [exec_sell ho hk hr hv w, Oper.upon_enter]
  refine h.mono ?_
  rintro e w' ⟨r, rfl, hK⟩
  exact hK
theorem exec_price {ev : Operand → Value} {o : Oper} (ho : o.op = .call { callee := .invoke (.tmp 49) "gavel/house.price", args := #[.tmp 41, .tmp 47], argTypes := #[135, 2] }) {k : Int} (hk : 1 ≤ k ∧ k ≤ 5) (hr : ev (.tmp 49) = kindV k) {v u : Value} (hv : ev (.tmp 41) = v) (hu : ev (.tmp 47) = u) (w : World) :
    (execOp ev o).run Tryz.prog w = .ok (.enter (priceF k) #[.agg #[], v, u]) w := by
  have h5 : k = 1 ∨ k = 2 ∨ k = 3 ∨ k = 4 ∨ k = 5 := by omega
  have hx : (execOp ev o).run Tryz.prog w = (callMethod (kindV k) "gavel/house.price" #[v, u]).run Tryz.prog w := by
    simp [execOp, ho, resolve, invoke, hr, hv, hu, go_sem]
  rw [hx]
  clear hx ho hr
  have e1 : (callMethod (kindV 1) "gavel/house.price" #[v, u]).run Tryz.prog w = .ok (.enter (priceF 1) #[.agg #[], v, u]) w := by kernel_rfl
  have e2 : (callMethod (kindV 2) "gavel/house.price" #[v, u]).run Tryz.prog w = .ok (.enter (priceF 2) #[.agg #[], v, u]) w := by kernel_rfl
  have e3 : (callMethod (kindV 3) "gavel/house.price" #[v, u]).run Tryz.prog w = .ok (.enter (priceF 3) #[.agg #[], v, u]) w := by kernel_rfl
  have e4 : (callMethod (kindV 4) "gavel/house.price" #[v, u]).run Tryz.prog w = .ok (.enter (priceF 4) #[.agg #[], v, u]) w := by kernel_rfl
  have e5 : (callMethod (kindV 5) "gavel/house.price" #[v, u]).run Tryz.prog w = .ok (.enter (priceF 5) #[.agg #[], v, u]) w := by kernel_rfl
  rcases h5 with rfl | rfl | rfl | rfl | rfl
  · exact e1
  · exact e2
  · exact e3
  · exact e4
  · exact e5
theorem step_price {ops : Array Oper} {K : Act → World → Prop} {E0 : Prop} {a : Act} {Q : Exit → Act → World → Prop} {w : World} {o : Oper} (hgd : o.guard = none) (ho : o.op = .call { callee := .invoke (.tmp 49) "gavel/house.price", args := #[.tmp 41, .tmp 47], argTypes := #[135, 2] }) {k : Int} (hk : 1 ≤ k ∧ k ≤ 5) (hr : a.eval (.tmp 49) = kindV k) {v u : Value} (hv : a.eval (.tmp 41) = v) (hu : a.eval (.tmp 47) = u)
    (h : Calls Tryz.prog (priceF k) #[.agg #[], v, u] w fun e w' => ∃ r, e = .returned r ∧ K (a.put o.dst r) w') :
    if Region.wanted o (yielded ops a.tmps) = true then Oper.wp Tryz.prog o a w K Q else E0 := by
  have hw : Region.wanted o (yielded ops a.tmps) = true := by simp [Region.wanted, hgd]
  rw [if_pos hw]
  unfold Oper.wp
  rw [exec_price ho hk hr hv hu w, Oper.upon_enter]
  refine h.mono ?_
  rintro e w' ⟨r, rfl, hK⟩
  exact hK
set_option maxRecDepth 100000 in
set_option maxHeartbeats 8000000 in
theorem htime_err {W : World} {T : Nat → Part} {h pn pc K : Nat} {va vl vb vs : Value} {H : House} (hH : HouseAt W T h pn pc va vl vb vs K H) (o : OrderR) (vo : Value) (he : coinB o.tick = false ∨ o.tick < H.now) :
    Calls Tryz.prog 37 #[.pointer (some ⟨h, 0, none⟩), o.agg vo] W fun e W' => e = .returned (.tuple #[.int .i64 0, .int .i64 (if coinB o.tick = true then 6 else 2)]) ∧ Below W.heap.size W W' := by
  obtain ⟨W1, hW1⟩ : ∃ W1, W1 = W.alloc (.cells (o.cells vo).toArray 36) := ⟨_, rfl⟩
  have hb1 : Below W.heap.size W W1 := by rw [hW1]; exact (Below.refl _ _).alloc (Nat.le_refl _) _
  have hx : Blk W1 W.heap.size 36 (o.cells vo).toArray := by rw [hW1]; exact Blk.new _ _ _
  have hH1 := hH.grow hb1
  have HB1 := Lib.hid hb1
  obtain ⟨okind, oname, ocoins, obidder, olot, ⟨kind, opens, closes, start, step, extend, last, floor, fall, count, rule⟩, ooff, otick⟩ := o
  simp only at he ⊢
  simp only [OrderR.agg, OrderR.cells, LotR.cells, List.cons_append, List.nil_append] at hW1 hx ⊢
  have x7 : W1.cell? ⟨W.heap.size, 17, none⟩ = some (.int .i64 otick) := hx.cell 17
  have xl := hx.lt
  have c3 := hH1.cells.2.2.2.1
  have hl := hH1.blk.lt
  have HUP := Lib.hid (tupto_err (W := W1.drew) (hH1.cal.grow (Below.refl _ _).drew) he)
  obtain ⟨er, her⟩ : ∃ z, z = (if coinB otick = true then (6 : Int) else 2) := ⟨_, rfl⟩
  have hne : er ≠ 0 := by rw [her]; split <;> decide
  rw [← her] at HUP ⊢
  clear hH hb1 hx hH1 he her
  go_enter Tryz.func37, Tryz.ntmps37
  go_wp2_with fail
  rw [← hW1]
  clear hW1
  refine wp_region_F (Below W1.heap.size W1) [] (by kernel_rfl) ((Below.refl _ _).drew) (fun hS => ?_)
  refine wpAnyF_take (i := 0) (oi := ⟨some 11, .move (.tmp 0), 23, "house.go:199", #[], none⟩) (v := ?_) rfl (by kernel_rfl) (by kernel_rfl) (by kernel_rfl) (by kernel_rfl) (fun _ _ _ h => h) (Or.inl ⟨by rfl, ?_⟩) hS ?_
  rotate_left
  · intro w' _; go_simp; try with_reducible rfl
  try simp only [Act.put, pb, pz, ps]
  refine wpAnyF_take (i := 1) (oi := ⟨some 12, .nilCheck (.tmp 11), 0, "house.go:199", #[⟨0, .data⟩], none⟩) (v := ?_) rfl (by kernel_rfl) (by kernel_rfl) (by kernel_rfl) (by kernel_rfl) (fun _ _ _ h => h) (Or.inl ⟨by rfl, ?_⟩) hS ?_
  rotate_left
  · intro w' _; go_simp; try with_reducible rfl
  try simp only [Act.put, pb, pz, ps]
  refine wpAnyF_take (i := 2) (oi := ⟨some 13, .fieldAddr 92 (.tmp 12) 0, 0, "house.go:199", #[⟨1, .data⟩], none⟩) (v := ?_) rfl (by kernel_rfl) (by kernel_rfl) (by kernel_rfl) (by kernel_rfl) (fun _ _ _ h => h) (Or.inl ⟨by rfl, ?_⟩) hS ?_
  rotate_left
  · intro w' _; go_simp; try with_reducible rfl
  try simp only [Act.put, pb, pz, ps]
  refine wpAnyF_take (i := 3) (oi := ⟨some 14, .fieldAddr 90 (.tmp 13) 3, 0, "house.go:199", #[⟨2, .data⟩], none⟩) (v := ?_) rfl (by kernel_rfl) (by kernel_rfl) (by kernel_rfl) (by kernel_rfl) (fun _ _ _ h => h) (Or.inl ⟨by rfl, ?_⟩) hS ?_
  rotate_left
  · intro w' _; go_simp; try with_reducible rfl
  try simp only [Act.put, pb, pz, ps]
  refine wpAnyF_take (i := 4) (oi := ⟨some 15, .load 84 (.tmp 14), 84, "house.go:199", #[⟨3, .data⟩], none⟩) (v := ?_) rfl (by kernel_rfl) (by kernel_rfl) (by kernel_rfl) (by kernel_rfl) (fun _ _ _ h => h) (Or.inl ⟨by rfl, ?_⟩) hS ?_
  rotate_left
  · intro w' hSw; have q7 := (hSw.cell (p := ⟨W.heap.size, 17, none⟩) xl).trans x7; have q3 := (hSw.cell (p := ⟨h, 3, none⟩) hl).trans c3; go_simp; try with_reducible rfl
  try simp only [Act.put, pb, pz, ps]
  refine wpAnyF_take (i := 5) (oi := ⟨some 16, .fieldAddr 36 (.tmp 3) 7, 0, "house.go:199", #[], none⟩) (v := ?_) rfl (by kernel_rfl) (by kernel_rfl) (by kernel_rfl) (by kernel_rfl) (fun _ _ _ h => h) (Or.inl ⟨by rfl, ?_⟩) hS ?_
  rotate_left
  · intro w' _; go_simp; try with_reducible rfl
  try simp only [Act.put, pb, pz, ps]
  refine wpAnyF_take (i := 6) (oi := ⟨some 17, .load 2 (.tmp 16), 2, "house.go:199", #[⟨5, .data⟩], none⟩) (v := ?_) rfl (by kernel_rfl) (by kernel_rfl) (by kernel_rfl) (by kernel_rfl) (fun _ _ _ h => h) (Or.inl ⟨by rfl, ?_⟩) hS ?_
  rotate_left
  · intro w' hSw; have q7 := (hSw.cell (p := ⟨W.heap.size, 17, none⟩) xl).trans x7; have q3 := (hSw.cell (p := ⟨h, 3, none⟩) hl).trans c3; go_simp; try with_reducible rfl
  try simp only [Act.put, pb, pz, ps]
  refine wpAnyF_ready (rs := [7]) (by kernel_rfl) (by simp) ?_
  refine AllReadyF.cons (o := ⟨some 18, .call { callee := .value (.func 89), args := #[.tmp 15, .tmp 17], argTypes := #[84, 2] }, 174, "house.go:199", #[⟨4, .data⟩, ⟨6, .data⟩], none⟩) rfl (by rfl) (fun K hK => ?_) ?_
  · go_simp
    refine HUP.out.mono ?_
    rintro e W7 ⟨rfl, rfl⟩
    refine hK.out _ _ ?_ (fun hS => ?_)
    · exact hS
    clear hK K
    try simp only [Act.put, pb, pz, ps]
    refine wpAnyF_take (i := 8) (oi := ⟨some 10, .move (.tmp 18), 174, "house.go:199", #[⟨7, .data⟩], none⟩) (v := ?_) rfl (by kernel_rfl) (by kernel_rfl) (by kernel_rfl) (by kernel_rfl) (fun _ _ _ h => h) (Or.inl ⟨by rfl, ?_⟩) hS ?_
    rotate_left
    · intro w' _; go_simp; try with_reducible rfl
    try simp only [Act.put, pb, pz, ps]
    refine wpAnyF_take (i := 9) (oi := ⟨some 19, .extract (.tmp 10) 0, 173, "house.go:199", #[⟨8, .data⟩], none⟩) (v := ?_) rfl (by kernel_rfl) (by kernel_rfl) (by kernel_rfl) (by kernel_rfl) (fun _ _ _ h => h) (Or.inl ⟨by rfl, ?_⟩) hS ?_
    rotate_left
    · intro w' _; go_simp; try with_reducible rfl
    try simp only [Act.put, pb, pz, ps]
    refine wpAnyF_take (i := 10) (oi := ⟨some 20, .extract (.tmp 10) 1, 25, "house.go:199", #[⟨8, .data⟩, ⟨11, .gcOnly .lateStores⟩], none⟩) (v := ?_) rfl (by kernel_rfl) (by kernel_rfl) (by kernel_rfl) (by kernel_rfl) (fun _ _ _ h => h) (Or.inl ⟨by rfl, ?_⟩) hS ?_
    rotate_left
    · intro w' _; go_simp; try with_reducible rfl
    try simp only [Act.put, pb, pz, ps]
    refine wpAnyF_take (i := 11) (oi := ⟨some 6, .assign (.tmp 19), 173, "house.go:199", #[⟨9, .data⟩, ⟨7, .chain⟩, ⟨0, .phase⟩, ⟨1, .phase⟩, ⟨2, .phase⟩, ⟨3, .phase⟩, ⟨4, .phase⟩, ⟨5, .phase⟩, ⟨6, .phase⟩, ⟨7, .phase⟩, ⟨8, .phase⟩, ⟨9, .phase⟩, ⟨10, .textOnly .lateStores⟩], none⟩) (v := ?_) rfl (by kernel_rfl) (by kernel_rfl) (by kernel_rfl) (by kernel_rfl) (fun _ _ _ h => h) (Or.inl ⟨by rfl, ?_⟩) hS ?_
    rotate_left
    · intro w' _; go_simp; try with_reducible rfl
    try simp only [Act.put, pb, pz, ps]
    refine wpAnyF_take (i := 12) (oi := ⟨some 7, .assign (.tmp 20), 25, "house.go:199", #[⟨10, .data⟩, ⟨11, .chain⟩, ⟨0, .phase⟩, ⟨1, .phase⟩, ⟨2, .phase⟩, ⟨3, .phase⟩, ⟨4, .phase⟩, ⟨5, .phase⟩, ⟨6, .phase⟩, ⟨7, .phase⟩, ⟨8, .phase⟩, ⟨9, .phase⟩, ⟨10, .phase⟩, ⟨11, .phase⟩], none⟩) (v := ?_) rfl (by kernel_rfl) (by kernel_rfl) (by kernel_rfl) (by kernel_rfl) (fun _ _ _ h => h) (Or.inl ⟨by rfl, ?_⟩) hS ?_
    rotate_left
    · intro w' _; go_simp; try with_reducible rfl
    try simp only [Act.put, pb, pz, ps]
    refine wpAnyF_done (by kernel_rfl) ?_ _
    have HS := Lib.hid hS
    clear hS x7 c3 xl hl
    have hne' : ¬ er = 0 := hne
    clear hne
    go_wp2_with fail
    go_ret2
    exact ⟨rfl, HB1.out.trans (HS.out.mono HB1.out.size)⟩
  exact AllReadyF.nil
def SellS (W : World) (b : Nat) (kv : Value) (w : World) : Prop := Chg (· = b) W w ∧ w.cell? ⟨b, 11, none⟩ = some kv
def TimeP (f : LotS → LotS × List SaleR) (W : World) (T : Nat → Part) (h K : Nat) (H : House) (t : Int) (e : Ending) (W' : World) : Prop :=
  ∃ ds T', e = .returned (.tuple #[.int .i64 ds.length, .int .i64 0]) ∧ DueL H.due t ds ∧ HouseIn W' T' h (K + 4096 * ds.length) (timeH f H t ds) ∧ Moves W T W' T'
theorem dueOf_some {ls : List LotS} {n x : Int} (h : dueOf ls n = some x) : 0 ≤ n ∧ ∃ l, ls[n.toNat]? = some l ∧ l.closed = false ∧ l.closes = x := by
  unfold dueOf at h
  split at h
  · cases h
  · split at h
    · split at h
      · cases h
      · rename_i l hl hc
        injection h with h
        exact ⟨by omega, l, hl, by simpa using hc, h⟩
    · cases h
set_option maxRecDepth 100000 in
set_option maxHeartbeats 8000000 in
theorem htime_ok {f : LotS → LotS × List SaleR} {W : World} {T : Nat → Part} {h pn pc K : Nat} {va vl vb vs : Value} {H : House} (hH : HouseAt W T h pn pc va vl vb vs K H) (o : OrderR) (vo : Value) (ht : coinB o.tick = true) (hnow : H.now ≤ o.tick)
    (hdue : H.due = dueOf H.lots) (hok : AccsOk H.accs) (hll : H.lots.length ≤ 4096) (hsl : H.sales.length + 64 * H.lots.length ≤ 1000000) (hK : K + 4096 * 4097 < maxLen)
    (hf : ∀ l ∈ H.lots, l.closed = false → l.closes ≤ o.tick → SellsAs f H.accs.length l) :
    Calls Tryz.prog 37 #[.pointer (some ⟨h, 0, none⟩), o.agg vo] W (TimeP f W T h K H o.tick) := by
  obtain ⟨W1, hW1⟩ : ∃ W1, W1 = W.alloc (.cells (o.cells vo).toArray 36) := ⟨_, rfl⟩
  have hb1 : Below W.heap.size W W1 := by rw [hW1]; exact (Below.refl _ _).alloc (Nat.le_refl _) _
  have hx : Blk W1 W.heap.size 36 (o.cells vo).toArray := by rw [hW1]; exact Blk.new _ _ _
  have hH1 := hH.grow hb1
  have HB1 := Lib.hid hb1
  obtain ⟨okind, oname, ocoins, obidder, olot, ⟨kind, opens, closes, start, step, extend, last, floor, fall, count, rule⟩, ooff, otick⟩ := o
  simp only at ht hnow hf ⊢
  simp only [OrderR.agg, OrderR.cells, LotR.cells, List.cons_append, List.nil_append] at hW1 hx ⊢
  have x7 : W1.cell? ⟨W.heap.size, 17, none⟩ = some (.int .i64 otick) := hx.cell 17
  have xl := hx.lt
  have c3 := hH1.cells.2.2.2.1
  have hl := hH1.blk.lt
  have HUP := Lib.hid (tupto_ok (W := W1.drew) (hH1.cal.grow (Below.refl _ _).drew) ht hnow)
  have HH1 := Lib.hid hH1
  have HDUE := Lib.hid hdue
  have HOK := Lib.hid hok
  have HLL := Lib.hid hll
  have HSL := Lib.hid hsl
  have HKM := Lib.hid hK
  have HF := Lib.hid hf
  clear hH hb1 hx hH1 ht hnow hdue hok hll hsl hK hf
  go_enter Tryz.func37, Tryz.ntmps37
  go_wp2_with fail
  rw [← hW1]
  clear hW1
  refine wp_region_F (Below W1.heap.size W1) [7, 8, 9, 10, 11, 12] (by kernel_rfl) ((Below.refl _ _).drew) (fun hS => ?_)
  refine wpAnyF_takeD [1, 2, 3, 4, 7, 8, 9, 10, 11, 12] (i := 0) (oi := ⟨some 11, .move (.tmp 0), 23, "house.go:199", #[], none⟩) (v := ?_) rfl (by kernel_rfl) (by kernel_rfl) (by kernel_rfl) (by kernel_rfl) (fun _ _ _ h => h) (Or.inl ⟨by rfl, ?_⟩) hS ?_
  rotate_left
  · intro w' _; go_simp; try with_reducible rfl
  try simp only [Act.put, pb, pz, ps]
  refine wpAnyF_takeD [2, 3, 4, 7, 8, 9, 10, 11, 12] (i := 1) (oi := ⟨some 12, .nilCheck (.tmp 11), 0, "house.go:199", #[⟨0, .data⟩], none⟩) (v := ?_) rfl (by kernel_rfl) (by kernel_rfl) (by kernel_rfl) (by kernel_rfl) (fun _ _ _ h => h) (Or.inl ⟨by rfl, ?_⟩) hS ?_
  rotate_left
  · intro w' _; go_simp; try with_reducible rfl
  try simp only [Act.put, pb, pz, ps]
  refine wpAnyF_takeD [3, 4, 7, 8, 9, 10, 11, 12] (i := 2) (oi := ⟨some 13, .fieldAddr 92 (.tmp 12) 0, 0, "house.go:199", #[⟨1, .data⟩], none⟩) (v := ?_) rfl (by kernel_rfl) (by kernel_rfl) (by kernel_rfl) (by kernel_rfl) (fun _ _ _ h => h) (Or.inl ⟨by rfl, ?_⟩) hS ?_
  rotate_left
  · intro w' _; go_simp; try with_reducible rfl
  try simp only [Act.put, pb, pz, ps]
  refine wpAnyF_takeD [4, 7, 8, 9, 10, 11, 12] (i := 3) (oi := ⟨some 14, .fieldAddr 90 (.tmp 13) 3, 0, "house.go:199", #[⟨2, .data⟩], none⟩) (v := ?_) rfl (by kernel_rfl) (by kernel_rfl) (by kernel_rfl) (by kernel_rfl) (fun _ _ _ h => h) (Or.inl ⟨by rfl, ?_⟩) hS ?_
  rotate_left
  · intro w' _; go_simp; try with_reducible rfl
  try simp only [Act.put, pb, pz, ps]
  refine wpAnyF_takeD [7, 8, 9, 10, 11, 12] (i := 4) (oi := ⟨some 15, .load 84 (.tmp 14), 84, "house.go:199", #[⟨3, .data⟩], none⟩) (v := ?_) rfl (by kernel_rfl) (by kernel_rfl) (by kernel_rfl) (by kernel_rfl) (fun _ _ _ h => h) (Or.inl ⟨by rfl, ?_⟩) hS ?_
  rotate_left
  · intro w' hSw; have q7 := (hSw.cell (p := ⟨W.heap.size, 17, none⟩) xl).trans x7; have q3 := (hSw.cell (p := ⟨h, 3, none⟩) hl).trans c3; go_simp; try with_reducible rfl
  try simp only [Act.put, pb, pz, ps]
  refine wpAnyF_takeD [6, 7, 8, 9, 10, 11, 12] (i := 5) (oi := ⟨some 16, .fieldAddr 36 (.tmp 3) 7, 0, "house.go:199", #[], none⟩) (v := ?_) rfl (by kernel_rfl) (by kernel_rfl) (by kernel_rfl) (by kernel_rfl) (fun _ _ _ h => h) (Or.inl ⟨by rfl, ?_⟩) hS ?_
  rotate_left
  · intro w' _; go_simp; try with_reducible rfl
  try simp only [Act.put, pb, pz, ps]
  refine wpAnyF_takeD [7, 8, 9, 10, 11, 12] (i := 6) (oi := ⟨some 17, .load 2 (.tmp 16), 2, "house.go:199", #[⟨5, .data⟩], none⟩) (v := ?_) rfl (by kernel_rfl) (by kernel_rfl) (by kernel_rfl) (by kernel_rfl) (fun _ _ _ h => h) (Or.inl ⟨by rfl, ?_⟩) hS ?_
  rotate_left
  · intro w' hSw; have q7 := (hSw.cell (p := ⟨W.heap.size, 17, none⟩) xl).trans x7; have q3 := (hSw.cell (p := ⟨h, 3, none⟩) hl).trans c3; go_simp; try with_reducible rfl
  try simp only [Act.put, pb, pz, ps]
  refine wpAnyF_ready (rs := [7]) (by kernel_rfl) (by simp) ?_
  refine AllReadyF.fin (o := ⟨some 18, .call { callee := .value (.func 89), args := #[.tmp 15, .tmp 17], argTypes := #[84, 2] }, 174, "house.go:199", #[⟨4, .data⟩, ⟨6, .data⟩], none⟩) rfl (by rfl) (fun K hK => ?_) ?_
  · go_simp
    refine HUP.out.mono ?_
    rintro e W5 ⟨v, outs, rfl, hrow, hdl, hcal, hc⟩
    have hc : Chg (fun b => T b = .cal) W1 W5 := ((Chg.refl _ W1).grow (Below.refl _ _).drew).trans hc
    have HH5 := Lib.hid (house_cal HH1.out hcal hc)
    have HM5 := Lib.hid (show Moves W T W5 T from ⟨(Chg.of _ HB1.out).trans (hc.mono fun b _ e => ⟨by rw [e]; simp, by rw [e]; simp⟩), fun _ _ => rfl⟩)
    have HRW5 := Lib.hid hrow
    have HDL := Lib.hid hdl
    obtain ⟨A, c, hv⟩ := hrow.form
    subst hv
    have HNO := Lib.hid (show ∀ b, W1.heap.size ≤ b → T b = .no from HH1.out.out)
    clear hrow hdl hcal hc
    refine hK.out _ _ ?_
    clear hK K
    try simp only [Act.put, pb, pz, ps]
    refine wpAnyF_takeW (i := 8) (oi := ⟨some 10, .move (.tmp 18), 174, "house.go:199", #[⟨7, .data⟩], none⟩) (v := ?_) rfl (by kernel_rfl) (by kernel_rfl) (by kernel_rfl) (by kernel_rfl) (fun _ _ _ h => h) (Or.inl ⟨by rfl, ?_⟩) ?_
    rotate_left
    · intro w' _; go_simp; try with_reducible rfl
    try simp only [Act.put, pb, pz, ps]
    refine wpAnyF_takeW (i := 9) (oi := ⟨some 19, .extract (.tmp 10) 0, 173, "house.go:199", #[⟨8, .data⟩], none⟩) (v := ?_) rfl (by kernel_rfl) (by kernel_rfl) (by kernel_rfl) (by kernel_rfl) (fun _ _ _ h => h) (Or.inl ⟨by rfl, ?_⟩) ?_
    rotate_left
    · intro w' _; go_simp; try with_reducible rfl
    try simp only [Act.put, pb, pz, ps]
    refine wpAnyF_takeW (i := 10) (oi := ⟨some 20, .extract (.tmp 10) 1, 25, "house.go:199", #[⟨8, .data⟩, ⟨11, .gcOnly .lateStores⟩], none⟩) (v := ?_) rfl (by kernel_rfl) (by kernel_rfl) (by kernel_rfl) (by kernel_rfl) (fun _ _ _ h => h) (Or.inl ⟨by rfl, ?_⟩) ?_
    rotate_left
    · intro w' _; go_simp; try with_reducible rfl
    try simp only [Act.put, pb, pz, ps]
    refine wpAnyF_takeW (i := 11) (oi := ⟨some 6, .assign (.tmp 19), 173, "house.go:199", #[⟨9, .data⟩, ⟨7, .chain⟩, ⟨0, .phase⟩, ⟨1, .phase⟩, ⟨2, .phase⟩, ⟨3, .phase⟩, ⟨4, .phase⟩, ⟨5, .phase⟩, ⟨6, .phase⟩, ⟨7, .phase⟩, ⟨8, .phase⟩, ⟨9, .phase⟩, ⟨10, .textOnly .lateStores⟩], none⟩) (v := ?_) rfl (by kernel_rfl) (by kernel_rfl) (by kernel_rfl) (by kernel_rfl) (fun _ _ _ h => h) (Or.inl ⟨by rfl, ?_⟩) ?_
    rotate_left
    · intro w' _; go_simp; try with_reducible rfl
    try simp only [Act.put, pb, pz, ps]
    refine wpAnyF_takeW (i := 12) (oi := ⟨some 7, .assign (.tmp 20), 25, "house.go:199", #[⟨10, .data⟩, ⟨11, .chain⟩, ⟨0, .phase⟩, ⟨1, .phase⟩, ⟨2, .phase⟩, ⟨3, .phase⟩, ⟨4, .phase⟩, ⟨5, .phase⟩, ⟨6, .phase⟩, ⟨7, .phase⟩, ⟨8, .phase⟩, ⟨9, .phase⟩, ⟨10, .phase⟩, ⟨11, .phase⟩], none⟩) (v := ?_) rfl (by kernel_rfl) (by kernel_rfl) (by kernel_rfl) (by kernel_rfl) (fun _ _ _ h => h) (Or.inl ⟨by rfl, ?_⟩) ?_
    rotate_left
    · intro w' _; go_simp; try with_reducible rfl
    try simp only [Act.put, pb, pz, ps]
    refine wpAnyF_done (by kernel_rfl) ?_ _
    clear hS x7 c3 xl hl
    obtain ⟨n, hn⟩ : ∃ z, z = outs.length := ⟨_, rfl⟩
    rw [← hn] at HRW5 ⊢
    have HN := Lib.hid hn
    clear hn
    have HNL := Lib.hid (show n ≤ 4096 from by
      have h1 := HDL.out
      have h2 := nodup_le (outs.map (·.2)) ((List.range H.lots.length).map Int.ofNat) h1.nodup (fun x hx => by
        obtain ⟨d, hd, rfl⟩ := List.mem_map.1 hx
        have h3 := ((h1.mem d).1 hd).1
        rw [HDUE.out] at h3
        obtain ⟨h4, l, h5, _⟩ := dueOf_some h3
        have := (List.getElem?_eq_some_iff.1 h5).1
        exact List.mem_map.2 ⟨d.2.toNat, by simpa using this, by simp; omega⟩)
      have := HLL.out
      have := HN.out
      simp at h2
      omega)
    have HNS := Lib.hid (show H.sales.length + 64 * n ≤ 1000000 from by
      have h1 := HDL.out
      have h2 := nodup_le (outs.map (·.2)) ((List.range H.lots.length).map Int.ofNat) h1.nodup (fun x hx => by
        obtain ⟨d, hd, rfl⟩ := List.mem_map.1 hx
        have h3 := ((h1.mem d).1 hd).1
        rw [HDUE.out] at h3
        obtain ⟨h4, l, h5, _⟩ := dueOf_some h3
        have := (List.getElem?_eq_some_iff.1 h5).1
        exact List.mem_map.2 ⟨d.2.toNat, by simpa using this, by simp; omega⟩)
      have := HSL.out
      have := HN.out
      simp at h2
      omega)
    have e4 : (0 : Int) ≤ (n : Int) := by omega
    go_wp2_with fail
    go_loopw [26] (fun i wr => ∃ (k : Nat) (Tk : Nat → Part), k ≤ n ∧ i = .int .i64 k ∧ HouseIn wr Tk h (K + 4096 * k) (timeH f H otick (outs.take k)) ∧ Moves W T wr Tk ∧ Moves W5 T wr Tk ∧ (timeH f H otick (outs.take k)).sales.length ≤ H.sales.length + 64 * k) (fun i _ => n - (intOf i).toNat)
    case atStart => exact ⟨0, T, Nat.zero_le _, rfl, ⟨pn, pc, va, vl, vb, vs, HH5.out⟩, HM5.out, HouseAt.moves (Below.refl _ _), Nat.le_refl _⟩
    case round =>
      obtain ⟨k, Tk, hk, rfl, hA, hM, hM5, hsl⟩ := hrel
      by_cases hlt : k < n
      · obtain ⟨d, hd⟩ : ∃ d, outs[k]? = some d := ⟨_, List.getElem?_eq_getElem (by rw [← HN.out]; exact hlt)⟩
        have hdm := (HDL.out.mem d).1 (List.mem_of_getElem? hd)
        have hdu := hdm.1
        rw [HDUE.out] at hdu
        obtain ⟨hd0, l, hlj, hcl, hcx⟩ := dueOf_some hdu
        obtain ⟨j, hj⟩ : ∃ j : Nat, d.2 = j := ⟨d.2.toNat, by omega⟩
        rw [hj, Int.toNat_natCast] at hlj
        have hjl := (List.getElem?_eq_some_iff.1 hlj).1
        have hSA := HF.out l (List.mem_of_getElem? hlj) hcl (by rw [hcx]; exact hdm.2)
        obtain ⟨Hk, hHk⟩ : ∃ z, z = timeH f H otick (outs.take k) := ⟨_, rfl⟩
        have hnx : timeH f H otick (outs.take (k + 1)) = closeOne f Hk d := by rw [take_succ' hd, hHk]; exact closeAll_snoc _ _ _ _
        have hkl : Hk.lots[j]? = some l := by
          rw [hHk, ← hlj]
          unfold timeH
          refine closeAll_lot fun x hx e => ?_
          obtain ⟨i, hi, hxi⟩ := List.getElem_of_mem hx
          have hi2 : i < k := by simp at hi; omega
          have hxo : outs[i]? = some x := by rw [← hxi]; simp
          have hx2 := ((HDL.out.mem x).1 (List.mem_of_getElem? hxo)).1
          rw [HDUE.out] at hx2
          have hx3 := (dueOf_some hx2).1
          have := HDL.out.nodup
          rw [List.nodup_iff_pairwise_ne, List.pairwise_iff_getElem] at this
          have hkl2 := (List.getElem?_eq_some_iff.1 hd)
          have hil2 := (List.getElem?_eq_some_iff.1 hxo)
          refine this i k (by simpa using hil2.1) (by simpa using hkl2.1) hi2 ?_
          simp only [List.getElem_map, hil2.2, hkl2.2]
          omega
        have hcn : closeOne f Hk d = closeH { Hk with lots := Hk.lots.set j (f l).1 } j (f l).1 (f l).2 := by
          unfold closeOne
          rw [hj, Int.toNat_natCast, hkl]
        have hlen := closeAll_len (f := f) (outs.take k) { H with now := otick, due := laterD H.due otick }
        have hacl : Hk.accs.length = H.accs.length := by rw [hHk]; exact hlen.2.1
        have hltl : Hk.lots.length = H.lots.length := by rw [hHk]; exact hlen.1
        have hokk : AccsOk Hk.accs := by rw [hHk]; exact closeAll_ok HOK.out HLL.out
        rw [← hHk] at hA hsl
        obtain ⟨d1, d2⟩ := d
        simp only at hj
        subst hj
        obtain ⟨rq, rcap, rv, _, rq1, _⟩ := HRW5.out.ex (by omega)
        injection rv with rv1 rv2 rv3
        subst rv1 rv3
        clear rv2
        have hrk := RowAt.chg HRW5.out hM5.chg (fun b hb hr => fun ho => ho.2 (HNO.out b (Nat.le_trans (by simp) hr)))
        have r0 : wr.cell? ⟨rq, k * 2, none⟩ = some (.int .i64 d1) := (hrk.own.cellAt (k * 2) (by have := hrk.len; omega)).trans (duAll_at hd).1
        have r1 : wr.cell? ⟨rq, k * 2 + 1, none⟩ = some (.int .i64 j) := (hrk.own.cellAt (k * 2 + 1) (by have := hrk.len; omega)).trans (duAll_at hd).2
        have e5 : (0 : Int) ≤ (k : Int) := by omega
        have e6 : (k : Int) < (n : Int) := by omega
        obtain ⟨pnk, pck, vak, vlk, vbk, vsk, hA⟩ := hA
        obtain ⟨w1, hw1⟩ : ∃ w1, w1 = wr.alloc (.cells #[.int .i64 d1, .int .i64 j] 177) := ⟨_, rfl⟩
        have hbw : Below wr.heap.size wr w1 := by rw [hw1]; exact (Below.refl _ _).alloc (Nat.le_refl _) _
        have hxw : Blk w1 wr.heap.size 177 #[.int .i64 d1, .int .i64 j] := by rw [hw1]; exact Blk.new _ _ _
        have hno : Tk wr.heap.size = .no := hA.out _ (Nat.le_refl _)
        have hA1 := hA.grow hbw
        obtain ⟨bl, hro, hls⟩ := hA1.lots
        obtain ⟨q, cap, hvl, hqt, hq, _⟩ := hro.ex (by omega)
        subst hvl
        have q0 : w1.cell? ⟨q, j, none⟩ = some (.pointer (some ⟨bl j, 0, none⟩)) := (hro.own.cellAt j (by omega)).trans (ptrs_at (by omega))
        have hlt2 := hls j l hkl
        obtain ⟨lv, htb, hblk, _⟩ := id hlt2
        have l11 : w1.cell? ⟨bl j, 11, none⟩ = some (kindV l.put.kind) := hblk.cell 11
        have lb := hblk.lt
        have x1 : w1.cell? ⟨wr.heap.size, 1, none⟩ = some (.int .i64 j) := hxw.cell 1
        have xl1 := hxw.lt
        have c2 := hA1.cells.2.2.1
        have lh := hA1.cells.2.2.2.2.2.2
        obtain ⟨nl, hnl⟩ : ∃ z, z = Hk.lots.length := ⟨_, rfl⟩
        rw [← hnl] at c2
        have e7 : (0 : Int) ≤ (j : Int) := by omega
        have e8 : (j : Int) < (nl : Int) := by omega
        have nx : ¬ wr.heap.size = bl j := fun e => by rw [← e, hno] at htb; cases htb
        have nh : ¬ h = bl j := fun e => by have := hA1.top; rw [e, htb] at this; cases this
        have nq : ¬ q = bl j := fun e => by rw [e, htb] at hqt; cases hqt
        obtain ⟨kv, hkv⟩ : ∃ z, z = kindV l.put.kind := ⟨_, rfl⟩
        rw [← hkv] at l11
        have HKV := Lib.hid hkv
        obtain ⟨kt, hkt⟩ := kind_iface hSA.kind
        rw [← hkv] at hkt
        subst hkt
        have HSA := Lib.hid hSA
        have HA1 := Lib.hid hA1
        have HRO := Lib.hid hro
        have HLS := Lib.hid hls
        have HLT := Lib.hid hlt2
        have HMW := Lib.hid hM
        have HM5W := Lib.hid hM5
        have HBW := Lib.hid hbw
        have HNX := Lib.hid hnx
        have HCN := Lib.hid hcn
        have HKL := Lib.hid hkl
        have HAC := Lib.hid hacl
        have HLT2 := Lib.hid hltl
        have HOKK := Lib.hid hokk
        have HSK := Lib.hid hsl
        have HHK := Lib.hid hHk
        have HTB := Lib.hid htb
        have HJL := Lib.hid hjl
        clear hA hA1 hro hls hlt2 hM hM5 hbw hnx hcn hkl hacl hltl hokk hsl hHk hxw hno hSA hd hdm hdu hd0 hlj hcl hcx hlen hrk hkv hqt hblk hnl htb hjl
        have hS11 := Lib.hid l11
        go_wp2_with fail
        rw [← hw1]
        clear hw1 r0 r1 rq1
        refine wp_region_F (SellS w1 (bl j) (.iface kt (.agg #[]))) [27] (by kernel_rfl) (show SellS w1 (bl j) (.iface kt (.agg #[])) w1.drew from ⟨(Chg.refl _ w1).grow (Below.refl _ _).drew, hS11.out⟩) (fun hS => ?_)
        refine wpAnyF_take (i := 0) (oi := ⟨some 30, .move (.tmp 0), 23, "house.go:204", #[], none⟩) (v := ?_) rfl (by kernel_rfl) (by kernel_rfl) (by kernel_rfl) (by kernel_rfl) (fun _ _ _ h => h) (Or.inl ⟨by rfl, ?_⟩) hS ?_
        rotate_left
        · intro w' _; go_simp; try with_reducible rfl
        try simp only [Act.put, pb, pz, ps]
        refine wpAnyF_takeD [2, 27] (i := 1) (oi := ⟨some 31, .fieldAddr 177 (.tmp 9) 1, 0, "house.go:204", #[], none⟩) (v := ?_) rfl (by kernel_rfl) (by kernel_rfl) (by kernel_rfl) (by kernel_rfl) (fun _ _ _ h => h) (Or.inl ⟨by rfl, ?_⟩) hS ?_
        rotate_left
        · intro w' _; go_simp; try with_reducible rfl
        try simp only [Act.put, pb, pz, ps]
        refine wpAnyF_take (i := 2) (oi := ⟨some 32, .load 2 (.tmp 31), 2, "house.go:204", #[⟨1, .data⟩], none⟩) (v := ?_) rfl (by kernel_rfl) (by kernel_rfl) (by kernel_rfl) (by kernel_rfl) (fun _ _ _ h => h) (Or.inl ⟨by rfl, ?_⟩) hS ?_
        rotate_left
        · intro w' hSw; have qx := (hSw.1.cell (p := ⟨wr.heap.size, 1, none⟩) xl1 nx).trans x1; have qh := (hSw.1.cell (p := ⟨h, 2, none⟩) lh nh).trans c2; have qq := (hSw.1.cell (p := ⟨q, j, none⟩) hq nq).trans q0; have qk := hSw.2; go_simp; try with_reducible rfl
        try simp only [Act.put, pb, pz, ps]
        refine wpAnyF_takeD [4, 5, 6, 7, 10, 11, 12, 13, 14, 24, 25, 26, 27] (i := 3) (oi := ⟨some 33, .move (.tmp 0), 23, "house.go:204", #[], none⟩) (v := ?_) rfl (by kernel_rfl) (by kernel_rfl) (by kernel_rfl) (by kernel_rfl) (fun _ _ _ h => h) (Or.inl ⟨by rfl, ?_⟩) hS ?_
        rotate_left
        · intro w' _; go_simp; try with_reducible rfl
        try simp only [Act.put, pb, pz, ps]
        refine wpAnyF_takeD [5, 6, 7, 10, 11, 12, 13, 14, 24, 25, 26, 27] (i := 4) (oi := ⟨some 34, .nilCheck (.tmp 33), 0, "house.go:204", #[⟨3, .data⟩], none⟩) (v := ?_) rfl (by kernel_rfl) (by kernel_rfl) (by kernel_rfl) (by kernel_rfl) (fun _ _ _ h => h) (Or.inl ⟨by rfl, ?_⟩) hS ?_
        rotate_left
        · intro w' _; go_simp; try with_reducible rfl
        try simp only [Act.put, pb, pz, ps]
        refine wpAnyF_takeD [6, 7, 10, 11, 12, 13, 14, 24, 25, 26, 27] (i := 5) (oi := ⟨some 35, .fieldAddr 92 (.tmp 34) 0, 0, "house.go:204", #[⟨4, .data⟩], none⟩) (v := ?_) rfl (by kernel_rfl) (by kernel_rfl) (by kernel_rfl) (by kernel_rfl) (fun _ _ _ h => h) (Or.inl ⟨by rfl, ?_⟩) hS ?_
        rotate_left
        · intro w' _; go_simp; try with_reducible rfl
        try simp only [Act.put, pb, pz, ps]
        refine wpAnyF_takeD [7, 10, 11, 12, 13, 14, 24, 25, 26, 27] (i := 6) (oi := ⟨some 36, .fieldAddr 90 (.tmp 35) 2, 0, "house.go:204", #[⟨5, .data⟩], none⟩) (v := ?_) rfl (by kernel_rfl) (by kernel_rfl) (by kernel_rfl) (by kernel_rfl) (fun _ _ _ h => h) (Or.inl ⟨by rfl, ?_⟩) hS ?_
        rotate_left
        · intro w' _; go_simp; try with_reducible rfl
        try simp only [Act.put, pb, pz, ps]
        refine wpAnyF_takeD [10, 11, 12, 13, 14, 24, 25, 26, 27] (i := 7) (oi := ⟨some 37, .load 88 (.tmp 36), 88, "house.go:204", #[⟨6, .data⟩], none⟩) (v := ?_) rfl (by kernel_rfl) (by kernel_rfl) (by kernel_rfl) (by kernel_rfl) (fun _ _ _ h => h) (Or.inl ⟨by rfl, ?_⟩) hS ?_
        rotate_left
        · intro w' hSw; have qx := (hSw.1.cell (p := ⟨wr.heap.size, 1, none⟩) xl1 nx).trans x1; have qh := (hSw.1.cell (p := ⟨h, 2, none⟩) lh nh).trans c2; have qq := (hSw.1.cell (p := ⟨q, j, none⟩) hq nq).trans q0; have qk := hSw.2; go_simp; try with_reducible rfl
        try simp only [Act.put, pb, pz, ps]
        refine wpAnyF_takeD [9, 10, 11, 12, 13, 14, 24, 25, 26, 27] (i := 8) (oi := ⟨some 38, .fieldAddr 177 (.tmp 9) 1, 0, "house.go:204", #[], none⟩) (v := ?_) rfl (by kernel_rfl) (by kernel_rfl) (by kernel_rfl) (by kernel_rfl) (fun _ _ _ h => h) (Or.inl ⟨by rfl, ?_⟩) hS ?_
        rotate_left
        · intro w' _; go_simp; try with_reducible rfl
        try simp only [Act.put, pb, pz, ps]
        refine wpAnyF_takeD [10, 11, 12, 13, 14, 24, 25, 26, 27] (i := 9) (oi := ⟨some 39, .load 2 (.tmp 38), 2, "house.go:204", #[⟨8, .data⟩], none⟩) (v := ?_) rfl (by kernel_rfl) (by kernel_rfl) (by kernel_rfl) (by kernel_rfl) (fun _ _ _ h => h) (Or.inl ⟨by rfl, ?_⟩) hS ?_
        rotate_left
        · intro w' hSw; have qx := (hSw.1.cell (p := ⟨wr.heap.size, 1, none⟩) xl1 nx).trans x1; have qh := (hSw.1.cell (p := ⟨h, 2, none⟩) lh nh).trans c2; have qq := (hSw.1.cell (p := ⟨q, j, none⟩) hq nq).trans q0; have qk := hSw.2; go_simp; try with_reducible rfl
        try simp only [Act.put, pb, pz, ps]
        refine wpAnyF_takeD [11, 12, 13, 14, 24, 25, 26, 27] (i := 10) (oi := ⟨some 40, .indexAddr 88 (.tmp 37) (.tmp 39), 0, "house.go:204", #[⟨7, .data⟩, ⟨9, .data⟩], none⟩) (v := ?_) rfl (by kernel_rfl) (by kernel_rfl) (by kernel_rfl) (by kernel_rfl) (fun _ _ _ h => h) (Or.inl ⟨by rfl, ?_⟩) hS ?_
        rotate_left
        · intro w' _; go_simp; try with_reducible rfl
        try simp only [Act.put, pb, pz, ps]
        refine wpAnyF_takeD [12, 13, 14, 24, 25, 26, 27] (i := 11) (oi := ⟨some 41, .load 135 (.tmp 40), 135, "house.go:204", #[⟨10, .data⟩], none⟩) (v := ?_) rfl (by kernel_rfl) (by kernel_rfl) (by kernel_rfl) (by kernel_rfl) (fun _ _ _ h => h) (Or.inl ⟨by rfl, ?_⟩) hS ?_
        rotate_left
        · intro w' hSw; have qx := (hSw.1.cell (p := ⟨wr.heap.size, 1, none⟩) xl1 nx).trans x1; have qh := (hSw.1.cell (p := ⟨h, 2, none⟩) lh nh).trans c2; have qq := (hSw.1.cell (p := ⟨q, j, none⟩) hq nq).trans q0; have qk := hSw.2; go_simp; try with_reducible rfl
        try simp only [Act.put, pb, pz, ps]
        refine wpAnyF_takeD [13, 14, 24, 25, 26, 27] (i := 12) (oi := ⟨some 42, .nilCheck (.tmp 41), 0, "house.go:204", #[⟨11, .data⟩], none⟩) (v := ?_) rfl (by kernel_rfl) (by kernel_rfl) (by kernel_rfl) (by kernel_rfl) (fun _ _ _ h => h) (Or.inl ⟨by rfl, ?_⟩) hS ?_
        rotate_left
        · intro w' _; go_simp; try with_reducible rfl
        try simp only [Act.put, pb, pz, ps]
        refine wpAnyF_takeD [14, 24, 25, 26, 27] (i := 13) (oi := ⟨some 43, .fieldAddr 137 (.tmp 42) 1, 0, "house.go:204", #[⟨12, .data⟩], none⟩) (v := ?_) rfl (by kernel_rfl) (by kernel_rfl) (by kernel_rfl) (by kernel_rfl) (fun _ _ _ h => h) (Or.inl ⟨by rfl, ?_⟩) hS ?_
        rotate_left
        · intro w' _; go_simp; try with_reducible rfl
        try simp only [Act.put, pb, pz, ps]
        refine wpAnyF_takeD [24, 25, 26, 27] (i := 14) (oi := ⟨some 44, .load 112 (.tmp 43), 112, "house.go:204", #[⟨13, .data⟩], none⟩) (v := ?_) rfl (by kernel_rfl) (by kernel_rfl) (by kernel_rfl) (by kernel_rfl) (fun _ _ _ h => h) (Or.inl ⟨by rfl, ?_⟩) hS ?_
        rotate_left
        · intro w' hSw; have qx := (hSw.1.cell (p := ⟨wr.heap.size, 1, none⟩) xl1 nx).trans x1; have qh := (hSw.1.cell (p := ⟨h, 2, none⟩) lh nh).trans c2; have qq := (hSw.1.cell (p := ⟨q, j, none⟩) hq nq).trans q0; have qk := hSw.2; go_simp; try with_reducible rfl
        try simp only [Act.put, pb, pz, ps]
        refine wpAnyF_takeD [16, 17, 18, 19, 22, 23, 26, 27] (i := 15) (oi := ⟨some 45, .move (.tmp 0), 23, "house.go:204", #[], none⟩) (v := ?_) rfl (by kernel_rfl) (by kernel_rfl) (by kernel_rfl) (by kernel_rfl) (fun _ _ _ h => h) (Or.inl ⟨by rfl, ?_⟩) hS ?_
        rotate_left
        · intro w' _; go_simp; try with_reducible rfl
        try simp only [Act.put, pb, pz, ps]
        refine wpAnyF_takeD [17, 18, 19, 22, 23, 26, 27] (i := 16) (oi := ⟨some 46, .nilCheck (.tmp 45), 0, "house.go:204", #[⟨15, .data⟩], none⟩) (v := ?_) rfl (by kernel_rfl) (by kernel_rfl) (by kernel_rfl) (by kernel_rfl) (fun _ _ _ h => h) (Or.inl ⟨by rfl, ?_⟩) hS ?_
        rotate_left
        · intro w' _; go_simp; try with_reducible rfl
        try simp only [Act.put, pb, pz, ps]
        refine wpAnyF_takeD [18, 19, 22, 23, 26, 27] (i := 17) (oi := ⟨some 47, .fieldAddr 92 (.tmp 46) 0, 0, "house.go:204", #[⟨16, .data⟩], none⟩) (v := ?_) rfl (by kernel_rfl) (by kernel_rfl) (by kernel_rfl) (by kernel_rfl) (fun _ _ _ h => h) (Or.inl ⟨by rfl, ?_⟩) hS ?_
        rotate_left
        · intro w' _; go_simp; try with_reducible rfl
        try simp only [Act.put, pb, pz, ps]
        refine wpAnyF_takeD [19, 22, 23, 26, 27] (i := 18) (oi := ⟨some 48, .fieldAddr 90 (.tmp 47) 2, 0, "house.go:204", #[⟨17, .data⟩], none⟩) (v := ?_) rfl (by kernel_rfl) (by kernel_rfl) (by kernel_rfl) (by kernel_rfl) (fun _ _ _ h => h) (Or.inl ⟨by rfl, ?_⟩) hS ?_
        rotate_left
        · intro w' _; go_simp; try with_reducible rfl
        try simp only [Act.put, pb, pz, ps]
        refine wpAnyF_takeD [22, 23, 26, 27] (i := 19) (oi := ⟨some 49, .load 88 (.tmp 48), 88, "house.go:204", #[⟨18, .data⟩], none⟩) (v := ?_) rfl (by kernel_rfl) (by kernel_rfl) (by kernel_rfl) (by kernel_rfl) (fun _ _ _ h => h) (Or.inl ⟨by rfl, ?_⟩) hS ?_
        rotate_left
        · intro w' hSw; have qx := (hSw.1.cell (p := ⟨wr.heap.size, 1, none⟩) xl1 nx).trans x1; have qh := (hSw.1.cell (p := ⟨h, 2, none⟩) lh nh).trans c2; have qq := (hSw.1.cell (p := ⟨q, j, none⟩) hq nq).trans q0; have qk := hSw.2; go_simp; try with_reducible rfl
        try simp only [Act.put, pb, pz, ps]
        refine wpAnyF_takeD [21, 22, 23, 26, 27] (i := 20) (oi := ⟨some 50, .fieldAddr 177 (.tmp 9) 1, 0, "house.go:204", #[], none⟩) (v := ?_) rfl (by kernel_rfl) (by kernel_rfl) (by kernel_rfl) (by kernel_rfl) (fun _ _ _ h => h) (Or.inl ⟨by rfl, ?_⟩) hS ?_
        rotate_left
        · intro w' _; go_simp; try with_reducible rfl
        try simp only [Act.put, pb, pz, ps]
        refine wpAnyF_takeD [22, 23, 26, 27] (i := 21) (oi := ⟨some 51, .load 2 (.tmp 50), 2, "house.go:204", #[⟨20, .data⟩], none⟩) (v := ?_) rfl (by kernel_rfl) (by kernel_rfl) (by kernel_rfl) (by kernel_rfl) (fun _ _ _ h => h) (Or.inl ⟨by rfl, ?_⟩) hS ?_
        rotate_left
        · intro w' hSw; have qx := (hSw.1.cell (p := ⟨wr.heap.size, 1, none⟩) xl1 nx).trans x1; have qh := (hSw.1.cell (p := ⟨h, 2, none⟩) lh nh).trans c2; have qq := (hSw.1.cell (p := ⟨q, j, none⟩) hq nq).trans q0; have qk := hSw.2; go_simp; try with_reducible rfl
        try simp only [Act.put, pb, pz, ps]
        refine wpAnyF_takeD [23, 26, 27] (i := 22) (oi := ⟨some 52, .indexAddr 88 (.tmp 49) (.tmp 51), 0, "house.go:204", #[⟨19, .data⟩, ⟨21, .data⟩], none⟩) (v := ?_) rfl (by kernel_rfl) (by kernel_rfl) (by kernel_rfl) (by kernel_rfl) (fun _ _ _ h => h) (Or.inl ⟨by rfl, ?_⟩) hS ?_
        rotate_left
        · intro w' _; go_simp; try with_reducible rfl
        try simp only [Act.put, pb, pz, ps]
        refine wpAnyF_takeD [26, 27] (i := 23) (oi := ⟨some 53, .load 135 (.tmp 52), 135, "house.go:204", #[⟨22, .data⟩], none⟩) (v := ?_) rfl (by kernel_rfl) (by kernel_rfl) (by kernel_rfl) (by kernel_rfl) (fun _ _ _ h => h) (Or.inl ⟨by rfl, ?_⟩) hS ?_
        rotate_left
        · intro w' hSw; have qx := (hSw.1.cell (p := ⟨wr.heap.size, 1, none⟩) xl1 nx).trans x1; have qh := (hSw.1.cell (p := ⟨h, 2, none⟩) lh nh).trans c2; have qq := (hSw.1.cell (p := ⟨q, j, none⟩) hq nq).trans q0; have qk := hSw.2; go_simp; try with_reducible rfl
        try simp only [Act.put, pb, pz, ps]
        refine wpAnyF_takeD [25, 26, 27] (i := 24) (oi := ⟨some 54, .nilCheck (.tmp 44), 112, "house.go:204", #[⟨14, .data⟩], none⟩) (v := ?_) rfl (by kernel_rfl) (by kernel_rfl) (by kernel_rfl) (by kernel_rfl) (fun _ _ _ h => h) (Or.inl ⟨by rfl, ?_⟩) hS ?_
        rotate_left
        · intro w' _; go_simp; try with_reducible rfl
        try simp only [Act.put, pb, pz, ps]
        refine wpAnyF_takeD [26, 27] (i := 25) (oi := ⟨some 55, .move (.tmp 44), 112, "house.go:204", #[⟨14, .data⟩, ⟨24, .data⟩], none⟩) (v := ?_) rfl (by kernel_rfl) (by kernel_rfl) (by kernel_rfl) (by kernel_rfl) (fun _ _ _ h => h) (Or.inl ⟨by rfl, ?_⟩) hS ?_
        rotate_left
        · intro w' _; go_simp; try with_reducible rfl
        try simp only [Act.put, pb, pz, ps]
        refine wpAnyF_ready (rs := [26]) (by kernel_rfl) (by simp) ?_
        refine AllReadyF.cons (o := ⟨some 56, .call { callee := .invoke (.tmp 55) "gavel/house.sell", args := #[.tmp 53], argTypes := #[135] }, 38, "house.go:204", #[⟨25, .data⟩, ⟨23, .data⟩], none⟩) rfl (by rfl) (fun K hK => ?_) ?_
        · refine step_sell (k := l.put.kind) rfl rfl HSA.out.kind HKV.out rfl ?_
          refine (HSA.out.run w1.drew Tk j (bl j) (HLT.out.step (Chg.of (fun _ => False) (Below.refl _ _).drew) (fun _ _ => id) fun _ _ => rfl) (fun x hx => HA1.out.out x hx)).mono ?_
          rintro e w2 ⟨A2, c2x, rfl, hs2, hl2, hcg2⟩
          refine ⟨_, rfl, ?_⟩
          have hcg2 : Chg (· = bl j) w1 w2 := ((Chg.refl _ w1).grow (Below.refl _ _).drew).trans hcg2
          have HS2 := Lib.hid hs2
          have HL2 := Lib.hid hl2
          have HC2 := Lib.hid hcg2
          clear hs2 hl2 hcg2
          refine hK.out _ _ ?_ (fun hS => ?_)
          · exact ⟨HC2.out, by obtain ⟨_, _, hb2, _⟩ := HL2.out; refine (hb2.cell 11).trans ?_; show some (kindV (f l).1.put.kind) = _; rw [HSA.out.keep.2, ← HKV.out]⟩
          clear hK K
          try simp only [Act.put, pb, pz, ps]
          refine wpAnyF_ready (rs := [27]) (by kernel_rfl) (by simp) ?_
          refine AllReadyF.fin (o := ⟨some 57, .call { callee := .value (.func 90), args := #[.tmp 30, .tmp 32, .tmp 56], argTypes := #[23, 3, 38] }, 0, "house.go:204", #[⟨0, .data⟩, ⟨2, .data⟩, ⟨26, .data⟩, ⟨26, .chain⟩], none⟩) rfl (by rfl) (fun K hK => ?_) ?_
          · have hA2 := house_lot HA1.out HRO.out HLS.out (j := j) (by have := HJL.out; have := HLT2.out; omega) (l := (f l).1) HL2.out (HC2.out.mono fun b _ e => e ▸ HTB.out) (fun _ _ => rfl) (fun b hb => HA1.out.out b (Nat.le_trans HC2.out.size hb))
            have hAC := HAC.out
            have hcl2 := hclose_any hA2 (j := j) (l := (f l).1) (by
                show (Hk.lots.set j (f l).1)[j]? = some (f l).1
                rw [List.getElem?_set_self]
                have := HJL.out; have := HLT2.out; omega) (by rw [HSA.out.keep.1]; intro s hs; have := HSA.out.stands s hs; rw [← hAC] at this; exact this) (sales := (f l).2) HS2.out (fun b hb => HA1.out.out b (by simpa using hb)) (by intro s hs; have := HSA.out.sales s hs; rw [← hAC] at this; exact this) HOKK.out (by rw [HSA.out.keep.1]; have := HSA.out.few; have := HKM.out; have := HNL.out; omega) (by
                have h1 := HSK.out; have h2 := HNS.out; have h3 := HSA.out.most
                show Hk.sales.length + (f l).2.length ≤ 1000000
                omega) (by have := HJL.out; have := HLL.out; omega)
            have HCL2 := Lib.hid hcl2
            clear hA2 hAC hcl2
            obtain ⟨ns, hns⟩ : ∃ z, z = (f l).2.length := ⟨_, rfl⟩
            rw [← hns] at HCL2
            have HNN := Lib.hid hns
            rw [← hns]
            clear hns
            go_simp
            refine HCL2.out.mono ?_
            rintro e w3 ⟨rfl, T3, hH3, hM3⟩
            have HH3 := Lib.hid hH3
            have HM3 := Lib.hid hM3
            clear hH3 hM3
            refine hK.out _ _ ?_
            clear hK K
            try simp only [Act.put, pb, pz, ps]
            refine wpAnyF_done (by kernel_rfl) ?_ _
            clear hS x1 xl1 c2 lh q0 hq l11 lb nx nh nq
            have hwr : IntKind.i64.wrap ((k : Int) + 1) = (k : Int) + 1 := IntWalk.i64_in _ (by have := HNL.out; omega)
            go_wp2_with fail
            go_roundw
            case rel =>
              have hm2 : Moves wr Tk w3 T3 := (HouseAt.moves HBW.out).trans (Moves.trans ⟨HC2.out.mono fun b _ e => ⟨by rw [e, HTB.out]; simp, by rw [e, HTB.out]; simp⟩, fun _ _ => rfl⟩ HM3.out)
              refine ⟨k + 1, T3, by omega, by go_num, ?_, HMW.out.trans hm2, HM5W.out.trans hm2, ?_⟩
              · rw [HNX.out, HCN.out]
                exact HH3.out.mono (by rw [HSA.out.keep.1]; have := HSA.out.few; omega)
              · rw [HNX.out]
                have h1 := closeOne_sales (f := f) (H := Hk) (d := (d1, (j : Int))) (fun x hx => by
                  rw [Int.toNat_natCast, HKL.out] at hx
                  injection hx with e
                  rw [← e]
                  exact HSA.out.most)
                have := HSK.out
                omega
            case measure => simp [intOf]; omega
          exact AllReadyF.nil
        exact AllReadyF.nil
      · obtain rfl : k = n := by omega
        have hall : outs.take k = outs := List.take_of_length_le (by have := HN.out; omega)
        rw [hall] at hA
        have HA := Lib.hid hA
        have HMM := Lib.hid hM
        clear hA hM hM5 hsl hall hlt hk e4
        go_wp2_with fail
        go_ret2
        exact ⟨outs, Tk, by rw [HN.out]; rfl, HDL.out, by rw [← HN.out]; exact HA.out, HMM.out⟩
  exact AllReadyF.nil
end Go.Proofs.YthoaidfpgijbfaaGreat.Ho
namespace Go.Proofs.YthoaidfpgijbfaaGreat.Ho
open Go.RowKit
open Go.Proofs.YthoaidfpgijbfaaGreat.Vb Go.Proofs.YthoaidfpgijbfaaGreat.Ac
theorem exec_load_mid {P : Program} {o : Oper} {a : Act} {w : World} (ty : TypeId) (x : Operand) (ho : o.op = .load ty x) (b i : Nat) (hx : a.eval x = .pointer (some ⟨b, i, none⟩)) (cs : List Value) (d : TypeDesc) (hc : w.rangeAt b i cs)
    (hu : P.underlying ty = some d) (hd : d.isRow = true) (hi : (P.info? ty).map (·.size) = some cs.length) : (execOp a.eval o).run P w = .ok (.value (.agg cs.toArray)) w := by
  unfold execOp
  simp only [ho, hx, Sem.run_bind, Sem.run_pure, Result.andThen_ok, run_loadAt_mid w b i ty cs d hc hu hd hi]
theorem Blk.range {w : World} {g : Nat} {t : TypeId} {cs : Array Value} (h : Blk w g t cs) (i : Nat) (xs : List Value) (hx : ∀ j v, xs[j]? = some v → cs[i + j]? = some v) : w.rangeAt g i xs := fun j v hj => (h.cell (i + j)).trans (hx j v hj)
def fallEnd (l : LotR) : Int := l.opens + (l.start - l.floor + l.fall - 1) / l.fall
def fallP (l : LotR) (t : Int) : Int := if l.fall = 0 ∨ t < fallEnd l then l.start - l.fall * (t - l.opens) else l.floor
def fallPrice (l : LotR) (t : Int) : Int := if l.opens ≤ t ∧ t < l.closes then fallP l t else 0
structure FallB (l : LotR) : Prop where
  opens : coin l.opens
  closes : coin l.closes
  start : coin l.start
  floor : 0 ≤ l.floor ∧ l.floor ≤ l.start
  fall : coin l.fall
theorem fallLot_b {l : LotR} (h : fallLot l = true) : FallB l := by
  unfold fallLot coinB withB at h
  simp only [Bool.and_eq_true, decide_eq_true_eq] at h
  obtain ⟨_, ⟨⟨⟨⟨h1, h2⟩, _⟩, h3⟩, h4⟩, h5⟩ := h
  exact ⟨h1, h2, h3, h4, h5⟩
theorem fallEnd_b {l : LotR} (h : FallB l) (hf : 1 ≤ l.fall) : 0 ≤ (l.start - l.floor + l.fall - 1) / l.fall ∧ (l.start - l.floor + l.fall - 1) / l.fall ≤ 2199023255552 := by
  have h1 := h.start; have h2 := h.floor; have h3 := h.fall
  unfold coin at h1 h3
  refine ⟨Int.ediv_nonneg (by omega) (by omega), ?_⟩
  refine Int.le_trans (Int.ediv_le_self _ (by omega)) (by omega)
theorem fall_mul {l : LotR} (h : FallB l) {t : Int} (ht : l.opens ≤ t) (hc : t < l.closes) (hx : l.fall = 0 ∨ t < fallEnd l) : 0 ≤ l.fall * (t - l.opens) ∧ l.fall * (t - l.opens) ≤ l.start - l.floor := by
  have h1 := h.start; have h2 := h.floor; have h3 := h.fall
  unfold coin at h1 h3
  by_cases h0 : l.fall = 0
  · rw [h0]; omega
  · have hx := hx.resolve_left h0
    unfold fallEnd at hx
    refine ⟨Int.mul_nonneg h3.1 (by omega), ?_⟩
    have h4 : t - l.opens + 1 ≤ (l.start - l.floor + l.fall - 1) / l.fall := by omega
    have h5 := Int.mul_le_mul_of_nonneg_left h4 h3.1
    have h6 := Int.mul_ediv_self_le (x := l.start - l.floor + l.fall - 1) (k := l.fall) h0
    rw [Int.mul_add] at h5
    omega
set_option maxRecDepth 100000 in
theorem flast_any {l : LotR} (h : FallB l) (w : World) : Calls Tryz.prog 277 #[l.agg] w fun e w' => e = .returned (.tuple #[.int .i64 (if l.fall = 0 then 0 else fallEnd l), .bool (decide (¬ l.fall = 0))]) ∧ Below w.heap.size w w' := by
  have HE := fun hf => fallEnd_b h hf
  have h0 := h.opens; have h1 := h.start; have h2 := h.floor; have h3 := h.fall
  unfold coin at h0 h1 h3
  unfold fallEnd
  obtain ⟨kind, opens, closes, start, step, extend, last, floor, fall, count, rule⟩ := l
  simp only at HE h0 h1 h2 h3
  simp only [LotR.agg, LotR.cells]
  by_cases hf : fall = 0
  · subst hf
    clear HE
    go_enter Tryz.func277, Tryz.ntmps277
    go_wp2_with fail
    go_ret2
    exact ⟨rfl, (Below.refl _ _).alloc (Nat.le_refl _) _⟩
  · have hq := HE (by omega)
    obtain ⟨q, hqd⟩ : ∃ q, q = (start - floor + fall - 1) / fall := ⟨_, rfl⟩
    have hqt : Int.tdiv (start - floor + fall - 1) fall = q := by rw [hqd, Int.tdiv_eq_ediv_of_nonneg (by omega)]
    rw [← hqd] at hq ⊢
    clear HE hqd h
    have w1 : IntKind.i64.wrap (start - floor) = start - floor := IntWalk.i64_in _ (by omega)
    have w2 : IntKind.i64.wrap (start - floor + fall) = start - floor + fall := IntWalk.i64_in _ (by omega)
    have w3 : IntKind.i64.wrap (start - floor + fall - 1) = start - floor + fall - 1 := IntWalk.i64_in _ (by omega)
    have w4 : IntKind.i64.wrap q = q := IntWalk.i64_in _ (by omega)
    have w5 : IntKind.i64.wrap (opens + q) = opens + q := IntWalk.i64_in _ (by omega)
    have d0 : decide (fall = 0) = false := decide_eq_false hf
    go_enter Tryz.func277, Tryz.ntmps277
    go_wp2_with fail
    go_quiet (fail)
    go_wp2_with fail
    go_ret2
    exact ⟨rfl, below_drewN ((Below.refl _ _).alloc (Nat.le_refl _) _) _⟩
set_option maxRecDepth 100000 in
theorem fprice_any {l : LotR} (h : FallB l) {t : Int} (ht : l.opens ≤ t) (hc : t < l.closes) (w : World) : Calls Tryz.prog 274 #[l.agg, .int .i64 t] w fun e w' => e = .returned (.int .i64 (fallP l t)) ∧ Below w.heap.size w w' := by
  have HL := Lib.hid (fun w => flast_any h w)
  have HM := Lib.hid (fun hx => fall_mul h ht hc hx)
  have h0 := h.opens; have h1 := h.start; have h2 := h.floor; have h3 := h.fall; have h4 := h.closes
  unfold coin at h0 h1 h3 h4
  obtain ⟨z, hz⟩ : ∃ z, z = fallP l t := ⟨_, rfl⟩
  rw [← hz]
  unfold fallP at hz
  obtain ⟨fe, hfe⟩ : ∃ z, z = fallEnd l := ⟨_, rfl⟩
  rw [← hfe] at hz HL HM
  obtain ⟨kind, opens, closes, start, step, extend, last, floor, fall, count, rule⟩ := l
  simp only at HL HM h0 h1 h2 h3 h4 hz ht hc
  simp only [LotR.agg, LotR.cells] at HL ⊢
  obtain ⟨w1, hw1⟩ : ∃ w1, w1 = w.alloc (.cells #[.int .i64 kind, .int .i64 opens, .int .i64 closes, .int .i64 start, .int .i64 step, .int .i64 extend, .int .i64 last, .int .i64 floor, .int .i64 fall, .int .i64 count, .int .i64 rule] 33) := ⟨_, rfl⟩
  have hx1 : Blk w1 w.heap.size 33 #[.int .i64 kind, .int .i64 opens, .int .i64 closes, .int .i64 start, .int .i64 step, .int .i64 extend, .int .i64 last, .int .i64 floor, .int .i64 fall, .int .i64 count, .int .i64 rule] := by rw [hw1]; exact Blk.new _ _ _
  have hb1 : Below w.heap.size w w1 := by rw [hw1]; exact (Below.refl _ _).alloc (Nat.le_refl _) _
  have HX1 := Lib.hid hx1
  have HB1 := Lib.hid hb1
  have HZ := Lib.hid hz
  clear hx1 hb1 h hfe hz
  go_enter Tryz.func274, Tryz.ntmps274
  go_wp2_with (refine wpList_load_row rfl 33 (.tmp 2) rfl w.heap.size rfl 33 #[.int .i64 kind, .int .i64 opens, .int .i64 closes, .int .i64 start, .int .i64 step, .int .i64 extend, .int .i64 last, .int .i64 floor, .int .i64 fall, .int .i64 count, .int .i64 rule] (0, 0) _ (by rw [← hw1]; exact HX1.out) Tryz.underlying33 rfl (by kernel_rfl) ?_)
  rw [← hw1]
  clear hw1
  refine (HL.out _).mono ?_
  rintro e w2 ⟨rfl, hb2⟩
  have hx2 := HX1.out.grow hb2
  have x1 : w2.cell? ⟨w.heap.size, 1, none⟩ = some (.int .i64 opens) := hx2.cell 1
  have x3 : w2.cell? ⟨w.heap.size, 3, none⟩ = some (.int .i64 start) := hx2.cell 3
  have x7 : w2.cell? ⟨w.heap.size, 7, none⟩ = some (.int .i64 floor) := hx2.cell 7
  have x8 : w2.cell? ⟨w.heap.size, 8, none⟩ = some (.int .i64 fall) := hx2.cell 8
  have HB2 := Lib.hid (HB1.out.trans (hb2.mono HB1.out.size))
  clear hx2 hb2
  by_cases hf : fall = 0
  · have hm := HM.out (.inl hf)
    have HE := Lib.hid (HZ.out.trans (if_pos (.inl hf)))
    have b0 : decide (¬ fall = 0) = false := decide_eq_false (by simp [hf])
    rw [b0, if_pos hf]
    have w1' : IntKind.i64.wrap (t - opens) = t - opens := IntWalk.i64_in _ (by omega)
    have w2' : IntKind.i64.wrap (fall * (t - opens)) = fall * (t - opens) := IntWalk.i64_in _ (by omega)
    have w3' : IntKind.i64.wrap (start - fall * (t - opens)) = start - fall * (t - opens) := IntWalk.i64_in _ (by omega)
    clear b0 hm hf
    go_wp2_with fail
    go_ret
    exact ⟨by rw [HE.out]; rfl, HB2.out⟩
  · have b0 : decide (¬ fall = 0) = true := decide_eq_true hf
    rw [b0, if_neg hf]
    by_cases hlt : t < fe
    · have hm := HM.out (.inr hlt)
      have HE := Lib.hid (HZ.out.trans (if_pos (.inr hlt)))
      have w1' : IntKind.i64.wrap (t - opens) = t - opens := IntWalk.i64_in _ (by omega)
      have w2' : IntKind.i64.wrap (fall * (t - opens)) = fall * (t - opens) := IntWalk.i64_in _ (by omega)
      have w3' : IntKind.i64.wrap (start - fall * (t - opens)) = start - fall * (t - opens) := IntWalk.i64_in _ (by omega)
      clear b0 hm hf
      go_wp2_with fail
      go_ret
      exact ⟨by rw [HE.out]; rfl, HB2.out⟩
    · have HE := Lib.hid (HZ.out.trans (if_neg (by rintro (e | e); exact hf e; exact hlt e)))
      clear b0 hf
      go_wp2_with fail
      go_ret
      exact ⟨by rw [HE.out]; rfl, HB2.out⟩
theorem fruns_any (l : LotR) (t : Int) (w : World) : Calls Tryz.prog 273 #[l.agg, .int .i64 t] w fun e w' => e = .returned (.bool (decide (l.opens ≤ t ∧ t < l.closes))) ∧ Below w.heap.size w w' := by
  obtain ⟨z, hz⟩ : ∃ z, z = decide (l.opens ≤ t ∧ t < l.closes) := ⟨_, rfl⟩
  rw [← hz]
  obtain ⟨kind, opens, closes, start, step, extend, last, floor, fall, count, rule⟩ := l
  simp only at hz
  simp only [LotR.agg, LotR.cells]
  by_cases h1 : opens ≤ t
  · by_cases h2 : t < closes
    · have HE := Lib.hid (hz.trans (decide_eq_true ⟨h1, h2⟩))
      clear hz
      go_enter Tryz.func273, Tryz.ntmps273
      go_wp2_with fail
      go_ret
      exact ⟨by rw [HE.out]; simp [*], (Below.refl _ _).alloc (Nat.le_refl _) _⟩
    · have HE := Lib.hid (hz.trans (decide_eq_false fun e => h2 e.2))
      clear hz
      go_enter Tryz.func273, Tryz.ntmps273
      go_wp2_with fail
      go_ret
      exact ⟨by rw [HE.out]; simp [*], (Below.refl _ _).alloc (Nat.le_refl _) _⟩
  · have HE := Lib.hid (hz.trans (decide_eq_false fun e => h1 e.1))
    clear hz
    go_enter Tryz.func273, Tryz.ntmps273
    go_wp2_with fail
    go_ret
    exact ⟨by rw [HE.out]; simp [*], (Below.refl _ _).alloc (Nat.le_refl _) _⟩
set_option maxRecDepth 100000 in
theorem fPrice_any {l : LotR} (hl : fallLot l = true) (t : Int) (w : World) : Calls Tryz.prog 270 #[l.agg, .int .i64 t] w fun e w' => ∃ er, e = .returned (.tuple #[.int .i64 (fallPrice l t), .int .i64 er]) ∧ Below w.heap.size w w' := by
  have HC := Lib.hid (fun w => fcheck_any l w)
  rw [hl] at HC
  have HR := Lib.hid (fun w => fruns_any l t w)
  have HP := Lib.hid (fun h1 h2 w => fprice_any (fallLot_b hl) (t := t) h1 h2 w)
  obtain ⟨z, hz⟩ : ∃ z, z = fallPrice l t := ⟨_, rfl⟩
  rw [← hz]
  unfold fallPrice at hz
  obtain ⟨fp, hfp⟩ : ∃ z, z = fallP l t := ⟨_, rfl⟩
  rw [← hfp] at hz HP
  obtain ⟨kind, opens, closes, start, step, extend, last, floor, fall, count, rule⟩ := l
  simp only at HC HR HP hz
  simp only [LotR.agg, LotR.cells, if_true] at HC HR HP ⊢
  obtain ⟨w1, hw1⟩ : ∃ w1, w1 = w.alloc (.cells #[.int .i64 kind, .int .i64 opens, .int .i64 closes, .int .i64 start, .int .i64 step, .int .i64 extend, .int .i64 last, .int .i64 floor, .int .i64 fall, .int .i64 count, .int .i64 rule] 33) := ⟨_, rfl⟩
  have hx1 : Blk w1 w.heap.size 33 #[.int .i64 kind, .int .i64 opens, .int .i64 closes, .int .i64 start, .int .i64 step, .int .i64 extend, .int .i64 last, .int .i64 floor, .int .i64 fall, .int .i64 count, .int .i64 rule] := by rw [hw1]; exact Blk.new _ _ _
  have hb1 : Below w.heap.size w w1 := by rw [hw1]; exact (Below.refl _ _).alloc (Nat.le_refl _) _
  have HX1 := Lib.hid hx1
  have HB1 := Lib.hid hb1
  clear hx1 hb1 hfp hl
  go_enter Tryz.func270, Tryz.ntmps270
  go_wp2_with (refine wpList_load_row rfl 33 (.tmp 2) rfl w.heap.size rfl 33 #[.int .i64 kind, .int .i64 opens, .int .i64 closes, .int .i64 start, .int .i64 step, .int .i64 extend, .int .i64 last, .int .i64 floor, .int .i64 fall, .int .i64 count, .int .i64 rule] (0, 0) _ (by rw [← hw1]; exact HX1.out) Tryz.underlying33 rfl (by kernel_rfl) ?_)
  rw [← hw1]
  clear hw1
  refine (HC.out _).mono ?_
  rintro e w2 ⟨rfl, hb2⟩
  have HX2 := Lib.hid (HX1.out.grow hb2)
  have HB2 := Lib.hid (HB1.out.trans (hb2.mono HB1.out.size))
  clear hb2
  go_wp2_with (refine wpList_load_row rfl 33 (.tmp 2) rfl w.heap.size rfl 33 #[.int .i64 kind, .int .i64 opens, .int .i64 closes, .int .i64 start, .int .i64 step, .int .i64 extend, .int .i64 last, .int .i64 floor, .int .i64 fall, .int .i64 count, .int .i64 rule] (0, 0) _ HX2.out Tryz.underlying33 rfl (by kernel_rfl) ?_)
  refine (HR.out _).mono ?_
  rintro e w3 ⟨rfl, hb3⟩
  have HX3 := Lib.hid (HX2.out.grow hb3)
  have HB3 := Lib.hid (HB2.out.trans (hb3.mono HB2.out.size))
  clear hb3
  by_cases hr : opens ≤ t ∧ t < closes
  · rw [if_pos hr] at hz
    rw [decide_eq_true hr]
    have HE := Lib.hid hz
    have HPP := Lib.hid (HP.out hr.1 hr.2)
    clear hz hr
    go_wp2_with (refine wpList_load_row rfl 33 (.tmp 2) rfl w.heap.size rfl 33 #[.int .i64 kind, .int .i64 opens, .int .i64 closes, .int .i64 start, .int .i64 step, .int .i64 extend, .int .i64 last, .int .i64 floor, .int .i64 fall, .int .i64 count, .int .i64 rule] (0, 0) _ HX3.out Tryz.underlying33 rfl (by kernel_rfl) ?_)
    refine (HPP.out _).mono ?_
    rintro e w4 ⟨rfl, hb4⟩
    have HB4 := Lib.hid (HB3.out.trans (hb4.mono HB3.out.size))
    clear hb4
    go_wp2_with fail
    go_ret2
    exact ⟨0, by rw [HE.out]; rfl, HB4.out⟩
  · rw [if_neg hr] at hz
    rw [decide_eq_false hr]
    have HE := Lib.hid hz
    clear hz hr
    go_wp2_with fail
    go_ret2
    exact ⟨6, by rw [HE.out]; rfl, HB3.out⟩
end Go.Proofs.YthoaidfpgijbfaaGreat.Ho
namespace Go.Proofs.YthoaidfpgijbfaaGreat.Ho
open Go.RowKit
open Go.Proofs.YthoaidfpgijbfaaGreat.Vb Go.Proofs.YthoaidfpgijbfaaGreat.Ac
def priceL (l : LotS) (now : Int) : Int := if l.put.kind = 1 then l.rise.price else if l.put.kind = 2 then (if l.closed = true then l.price else fallPrice l.put (max now l.put.opens)) else if l.put.kind = 5 then 0 else l.price
theorem LotAt.price {W : World} {T : Nat → Part} {n b : Nat} {l : LotS} (h : LotAt W T n b l) : W.cell? ⟨b, 19, none⟩ = some (.int .i64 l.price) ∧ W.cell? ⟨b, 17, none⟩ = some (.int .i64 l.rise.price) ∧ W.cell? ⟨b, 13, none⟩ = some (.bool l.closed) ∧ W.cell? ⟨b, 1, none⟩ = some (.int .i64 l.put.opens) ∧ b < W.heap.size ∧ W.rangeAt b 0 l.put.cells := by
  obtain ⟨v, _, hb, _⟩ := h
  refine ⟨hb.cell 19, hb.cell 17, hb.cell 13, hb.cell 1, hb.lt, Blk.range hb 0 _ fun j u hj => ?_⟩
  have hlt : j < 11 := by
    have := (List.getElem?_eq_some_iff.1 hj).1
    simpa using this
  have : j = 0 ∨ j = 1 ∨ j = 2 ∨ j = 3 ∨ j = 4 ∨ j = 5 ∨ j = 6 ∨ j = 7 ∨ j = 8 ∨ j = 9 ∨ j = 10 := by omega
  rcases this with rfl | rfl | rfl | rfl | rfl | rfl | rfl | rfl | rfl | rfl | rfl <;> exact hj
theorem price1 {W : World} {T : Nat → Part} {n b : Nat} {l : LotS} (h : LotAt W T n b l) (t : Int) : Calls Tryz.prog 250 #[.agg #[], .pointer (some ⟨b, 0, none⟩), .int .i64 t] W fun e W' => e = .returned (.int .i64 l.rise.price) ∧ Below W.heap.size W W' := by
  obtain ⟨_, c, _, _, lb, _⟩ := h.price
  obtain ⟨z, hz⟩ : ∃ z, z = l.rise.price := ⟨_, rfl⟩
  rw [← hz] at c ⊢
  clear h hz
  obtain ⟨W1, hW1⟩ : ∃ W1, W1 = W.alloc (.cells #[] 185) := ⟨_, rfl⟩
  have hb1 : Below W.heap.size W W1 := by rw [hW1]; exact (Below.refl _ _).alloc (Nat.le_refl _) _
  have c1 := (hb1.cell (p := ⟨b, 17, none⟩) lb).trans c
  go_enter Tryz.func250, Tryz.ntmps250
  go_wp2_with fail
  rw [← hW1]
  clear hW1 c
  go_wp2_with fail
  go_ret
  exact ⟨rfl, hb1⟩
theorem price3 {W : World} {T : Nat → Part} {n b : Nat} {l : LotS} (h : LotAt W T n b l) (t : Int) : Calls Tryz.prog 280 #[.agg #[], .pointer (some ⟨b, 0, none⟩), .int .i64 t] W fun e W' => e = .returned (.int .i64 l.price) ∧ Below W.heap.size W W' := by
  obtain ⟨c, _, _, _, lb, _⟩ := h.price
  obtain ⟨z, hz⟩ : ∃ z, z = l.price := ⟨_, rfl⟩
  rw [← hz] at c ⊢
  clear h hz
  obtain ⟨W1, hW1⟩ : ∃ W1, W1 = W.alloc (.cells #[] 187) := ⟨_, rfl⟩
  have hb1 : Below W.heap.size W W1 := by rw [hW1]; exact (Below.refl _ _).alloc (Nat.le_refl _) _
  have c1 := (hb1.cell (p := ⟨b, 19, none⟩) lb).trans c
  go_enter Tryz.func280, Tryz.ntmps280
  go_wp2_with fail
  rw [← hW1]
  clear hW1 c
  go_wp2_with fail
  go_ret
  exact ⟨rfl, hb1⟩
theorem price4 {W : World} {T : Nat → Part} {n b : Nat} {l : LotS} (h : LotAt W T n b l) (t : Int) : Calls Tryz.prog 292 #[.agg #[], .pointer (some ⟨b, 0, none⟩), .int .i64 t] W fun e W' => e = .returned (.int .i64 l.price) ∧ Below W.heap.size W W' := by
  obtain ⟨c, _, _, _, lb, _⟩ := h.price
  obtain ⟨z, hz⟩ : ∃ z, z = l.price := ⟨_, rfl⟩
  rw [← hz] at c ⊢
  clear h hz
  obtain ⟨W1, hW1⟩ : ∃ W1, W1 = W.alloc (.cells #[] 188) := ⟨_, rfl⟩
  have hb1 : Below W.heap.size W W1 := by rw [hW1]; exact (Below.refl _ _).alloc (Nat.le_refl _) _
  have c1 := (hb1.cell (p := ⟨b, 19, none⟩) lb).trans c
  go_enter Tryz.func292, Tryz.ntmps292
  go_wp2_with fail
  rw [← hW1]
  clear hW1 c
  go_wp2_with fail
  go_ret
  exact ⟨rfl, hb1⟩
theorem price5 {W : World} {T : Nat → Part} {n b : Nat} {l : LotS} (_ : LotAt W T n b l) (t : Int) : Calls Tryz.prog 307 #[.agg #[], .pointer (some ⟨b, 0, none⟩), .int .i64 t] W fun e W' => e = .returned (.int .i64 0) ∧ Below W.heap.size W W' := by
  have hb1 : Below W.heap.size W (W.alloc (.cells #[] 189)) := (Below.refl _ _).alloc (Nat.le_refl _) _
  go_enter Tryz.func307, Tryz.ntmps307
  go_wp2_with fail
  go_ret
  exact ⟨rfl, hb1⟩
set_option maxRecDepth 100000 in
theorem price2 {W : World} {T : Nat → Part} {n b : Nat} {l : LotS} (h : LotAt W T n b l) (hl : fallLot l.put = true) (t : Int) : Calls Tryz.prog 268 #[.agg #[], .pointer (some ⟨b, 0, none⟩), .int .i64 t] W fun e W' => e = .returned (.int .i64 (if l.closed = true then l.price else fallPrice l.put (max t l.put.opens))) ∧ Below W.heap.size W W' := by
  obtain ⟨c, _, cc, co, lb, cr⟩ := h.price
  obtain ⟨W1, hW1⟩ : ∃ W1, W1 = W.alloc (.cells #[] 186) := ⟨_, rfl⟩
  have hb1 : Below W.heap.size W W1 := by rw [hW1]; exact (Below.refl _ _).alloc (Nat.le_refl _) _
  have c1 := (hb1.cell (p := ⟨b, 19, none⟩) lb).trans c
  have cc1 := (hb1.cell (p := ⟨b, 13, none⟩) lb).trans cc
  have co1 := (hb1.cell (p := ⟨b, 1, none⟩) lb).trans co
  have cr1 : W1.rangeAt b 0 l.put.cells := fun j v hj => (hb1.cell (p := ⟨b, 0 + j, none⟩) lb).trans (cr j v hj)
  have lb1 : b < W1.heap.size := Nat.lt_of_lt_of_le lb hb1.size
  have HB1 := Lib.hid hb1
  have HR1 := Lib.hid cr1
  have HP := Lib.hid (fun t w => fPrice_any hl t w)
  obtain ⟨z, hz⟩ : ∃ z, z = l.price := ⟨_, rfl⟩
  obtain ⟨lc, hlc⟩ : ∃ z, z = l.closed := ⟨_, rfl⟩
  rw [← hz] at c1 ⊢
  rw [← hlc] at cc1 ⊢
  clear h hz hlc hb1 cr1 cr c cc co lb
  cases lc with
  | true =>
    rw [if_pos rfl]
    subst hW1
    go_enter Tryz.func268, Tryz.ntmps268
    go_wp2_with fail
    go_ret
    exact ⟨rfl, HB1.out⟩
  | false =>
    rw [if_neg (by decide)]
    obtain ⟨fp, hfp⟩ : ∃ z, z = fallPrice l.put (max t l.put.opens) := ⟨_, rfl⟩
    have HPP := Lib.hid (fun w => HP.out (max t l.put.opens) w)
    rw [← hfp] at HPP ⊢
    generalize l.put = P at HR1 co1 HPP
    clear HP hfp hl
    obtain ⟨kind, opens, closes, start, step, extend, last, floor, fall, count, rule⟩ := P
    simp only [LotR.agg, LotR.cells] at HR1 co1 HPP
    rw [hW1] at cc1
    go_enter Tryz.func268, Tryz.ntmps268
    go_wp2_with fail
    rw [← hW1]
    clear hW1 cc1
    refine wp_region_F (Below W1.heap.size W1) [] (by kernel_rfl) ((Below.refl _ _).drew) (fun hS => ?_)
    refine wpAnyF_take (i := 0) (oi := ⟨some 18, .move (.tmp 1), 135, "kinds.go:140", #[], none⟩) (v := ?_) rfl (by kernel_rfl) (by kernel_rfl) (by kernel_rfl) (by kernel_rfl) (fun _ _ _ h => h) (Or.inl ⟨by rfl, ?_⟩) hS ?_
    rotate_left
    · intro w' _; go_simp; try with_reducible rfl
    try simp only [Act.put, pb, pz, ps]
    refine wpAnyF_take (i := 1) (oi := ⟨some 19, .nilCheck (.tmp 18), 0, "kinds.go:140", #[⟨0, .data⟩], none⟩) (v := ?_) rfl (by kernel_rfl) (by kernel_rfl) (by kernel_rfl) (by kernel_rfl) (fun _ _ _ h => h) (Or.inl ⟨by rfl, ?_⟩) hS ?_
    rotate_left
    · intro w' _; go_simp; try with_reducible rfl
    try simp only [Act.put, pb, pz, ps]
    refine wpAnyF_take (i := 2) (oi := ⟨some 20, .fieldAddr 137 (.tmp 19) 0, 0, "kinds.go:140", #[⟨1, .data⟩], none⟩) (v := ?_) rfl (by kernel_rfl) (by kernel_rfl) (by kernel_rfl) (by kernel_rfl) (fun _ _ _ h => h) (Or.inl ⟨by rfl, ?_⟩) hS ?_
    rotate_left
    · intro w' _; go_simp; try with_reducible rfl
    try simp only [Act.put, pb, pz, ps]
    refine wpAnyF_take (i := 3) (oi := ⟨some 21, .load 33 (.tmp 20), 33, "kinds.go:140", #[⟨2, .data⟩], none⟩) (v := ?_) rfl (by kernel_rfl) (by kernel_rfl) (by kernel_rfl) (by kernel_rfl) (fun _ _ _ h => h) (Or.inl ⟨by rfl, ?_⟩) hS ?_
    rotate_left
    · intro w' hSw; refine Eq.trans (exec_load_mid 33 (.tmp 20) (by rfl) b 0 (by rfl) [.int .i64 kind, .int .i64 opens, .int .i64 closes, .int .i64 start, .int .i64 step, .int .i64 extend, .int .i64 last, .int .i64 floor, .int .i64 fall, .int .i64 count, .int .i64 rule] _ (fun j v hj => (hSw.cell (p := ⟨b, 0 + j, none⟩) lb1).trans (HR1.out j v hj)) Tryz.underlying33 rfl (by kernel_rfl)) ?_; with_reducible rfl
    try simp only [Act.put, pb, pz, ps]
    refine wpAnyF_take (i := 4) (oi := ⟨some 22, .move (.tmp 2), 2, "kinds.go:140", #[], none⟩) (v := ?_) rfl (by kernel_rfl) (by kernel_rfl) (by kernel_rfl) (by kernel_rfl) (fun _ _ _ h => h) (Or.inl ⟨by rfl, ?_⟩) hS ?_
    rotate_left
    · intro w' _; go_simp; try with_reducible rfl
    try simp only [Act.put, pb, pz, ps]
    refine wpAnyF_take (i := 5) (oi := ⟨some 23, .move (.tmp 1), 135, "kinds.go:140", #[], none⟩) (v := ?_) rfl (by kernel_rfl) (by kernel_rfl) (by kernel_rfl) (by kernel_rfl) (fun _ _ _ h => h) (Or.inl ⟨by rfl, ?_⟩) hS ?_
    rotate_left
    · intro w' _; go_simp; try with_reducible rfl
    try simp only [Act.put, pb, pz, ps]
    refine wpAnyF_take (i := 6) (oi := ⟨some 24, .nilCheck (.tmp 23), 0, "kinds.go:140", #[⟨5, .data⟩], none⟩) (v := ?_) rfl (by kernel_rfl) (by kernel_rfl) (by kernel_rfl) (by kernel_rfl) (fun _ _ _ h => h) (Or.inl ⟨by rfl, ?_⟩) hS ?_
    rotate_left
    · intro w' _; go_simp; try with_reducible rfl
    try simp only [Act.put, pb, pz, ps]
    refine wpAnyF_take (i := 7) (oi := ⟨some 25, .fieldAddr 137 (.tmp 24) 0, 0, "kinds.go:140", #[⟨6, .data⟩], none⟩) (v := ?_) rfl (by kernel_rfl) (by kernel_rfl) (by kernel_rfl) (by kernel_rfl) (fun _ _ _ h => h) (Or.inl ⟨by rfl, ?_⟩) hS ?_
    rotate_left
    · intro w' _; go_simp; try with_reducible rfl
    try simp only [Act.put, pb, pz, ps]
    refine wpAnyF_take (i := 8) (oi := ⟨some 26, .fieldAddr 33 (.tmp 25) 1, 0, "kinds.go:140", #[⟨7, .data⟩], none⟩) (v := ?_) rfl (by kernel_rfl) (by kernel_rfl) (by kernel_rfl) (by kernel_rfl) (fun _ _ _ h => h) (Or.inl ⟨by rfl, ?_⟩) hS ?_
    rotate_left
    · intro w' _; go_simp; try with_reducible rfl
    try simp only [Act.put, pb, pz, ps]
    refine wpAnyF_take (i := 9) (oi := ⟨some 27, .load 2 (.tmp 26), 2, "kinds.go:140", #[⟨8, .data⟩], none⟩) (v := ?_) rfl (by kernel_rfl) (by kernel_rfl) (by kernel_rfl) (by kernel_rfl) (fun _ _ _ h => h) (Or.inl ⟨by rfl, ?_⟩) hS ?_
    rotate_left
    · intro w' hSw; have q1 := (hSw.cell (p := ⟨b, 1, none⟩) lb1).trans co1; go_simp; try with_reducible rfl
    try simp only [Act.put, pb, pz, ps]
    refine wpAnyF_take (i := 10) (oi := ⟨some 28, .call { callee := .builtin .max, args := #[.tmp 22, .tmp 27], argTypes := #[2, 2] }, 2, "kinds.go:140", #[⟨4, .data⟩, ⟨9, .data⟩], none⟩) (v := ?_) rfl (by kernel_rfl) (by kernel_rfl) (by kernel_rfl) (by kernel_rfl) (fun _ _ _ h => h) (Or.inl ⟨by rfl, ?_⟩) hS ?_
    rotate_left
    · intro w' hSw; have q1 := (hSw.cell (p := ⟨b, 1, none⟩) lb1).trans co1; go_simp; try with_reducible rfl
    try simp only [Act.put, pb, pz, ps]
    refine wpAnyF_ready (rs := [11]) (by kernel_rfl) (by simp) ?_
    refine AllReadyF.cons (o := ⟨some 29, .call { callee := .value (.func 270), args := #[.tmp 21, .tmp 28], argTypes := #[33, 2] }, 97, "kinds.go:140", #[⟨3, .data⟩, ⟨10, .data⟩], none⟩) rfl (by rfl) (fun K hK => ?_) ?_
    · go_simp
      refine (HPP.out _).mono ?_
      rintro e W3 ⟨er, rfl, hb3⟩
      have hb3 : Below W1.heap.size W1 W3 := (Below.refl _ _).drew.trans (hb3.mono (Nat.le_refl _))
      have HB3 := Lib.hid hb3
      clear hb3
      refine hK.out _ _ ?_ (fun hS => ?_)
      · exact HB3.out
      clear hK K
      try simp only [Act.put, pb, pz, ps]
      refine wpAnyF_take (i := 12) (oi := ⟨some 17, .move (.tmp 29), 97, "kinds.go:140", #[⟨11, .data⟩], none⟩) (v := ?_) rfl (by kernel_rfl) (by kernel_rfl) (by kernel_rfl) (by kernel_rfl) (fun _ _ _ h => h) (Or.inl ⟨by rfl, ?_⟩) hS ?_
      rotate_left
      · intro w' _; go_simp; try with_reducible rfl
      try simp only [Act.put, pb, pz, ps]
      refine wpAnyF_take (i := 13) (oi := ⟨some 30, .extract (.tmp 17) 0, 2, "kinds.go:140", #[⟨12, .data⟩], none⟩) (v := ?_) rfl (by kernel_rfl) (by kernel_rfl) (by kernel_rfl) (by kernel_rfl) (fun _ _ _ h => h) (Or.inl ⟨by rfl, ?_⟩) hS ?_
      rotate_left
      · intro w' _; go_simp; try with_reducible rfl
      try simp only [Act.put, pb, pz, ps]
      refine wpAnyF_take (i := 14) (oi := ⟨some 31, .extract (.tmp 17) 1, 25, "kinds.go:140", #[⟨12, .data⟩, ⟨15, .gcOnly .lateStores⟩], none⟩) (v := ?_) rfl (by kernel_rfl) (by kernel_rfl) (by kernel_rfl) (by kernel_rfl) (fun _ _ _ h => h) (Or.inl ⟨by rfl, ?_⟩) hS ?_
      rotate_left
      · intro w' _; go_simp; try with_reducible rfl
      try simp only [Act.put, pb, pz, ps]
      refine wpAnyF_take (i := 15) (oi := ⟨some 7, .assign (.tmp 30), 2, "kinds.go:140", #[⟨13, .data⟩, ⟨11, .chain⟩, ⟨0, .phase⟩, ⟨1, .phase⟩, ⟨2, .phase⟩, ⟨3, .phase⟩, ⟨4, .phase⟩, ⟨5, .phase⟩, ⟨6, .phase⟩, ⟨7, .phase⟩, ⟨8, .phase⟩, ⟨9, .phase⟩, ⟨10, .phase⟩, ⟨11, .phase⟩, ⟨12, .phase⟩, ⟨13, .phase⟩, ⟨14, .textOnly .lateStores⟩], none⟩) (v := ?_) rfl (by kernel_rfl) (by kernel_rfl) (by kernel_rfl) (by kernel_rfl) (fun _ _ _ h => h) (Or.inl ⟨by rfl, ?_⟩) hS ?_
      rotate_left
      · intro w' _; go_simp; try with_reducible rfl
      try simp only [Act.put, pb, pz, ps]
      refine wpAnyF_take (i := 16) (oi := ⟨some 8, .assign (.tmp 31), 25, "kinds.go:140", #[⟨14, .data⟩, ⟨15, .chain⟩, ⟨0, .phase⟩, ⟨1, .phase⟩, ⟨2, .phase⟩, ⟨3, .phase⟩, ⟨4, .phase⟩, ⟨5, .phase⟩, ⟨6, .phase⟩, ⟨7, .phase⟩, ⟨8, .phase⟩, ⟨9, .phase⟩, ⟨10, .phase⟩, ⟨11, .phase⟩, ⟨12, .phase⟩, ⟨13, .phase⟩, ⟨14, .phase⟩, ⟨15, .phase⟩], none⟩) (v := ?_) rfl (by kernel_rfl) (by kernel_rfl) (by kernel_rfl) (by kernel_rfl) (fun _ _ _ h => h) (Or.inl ⟨by rfl, ?_⟩) hS ?_
      rotate_left
      · intro w' _; go_simp; try with_reducible rfl
      try simp only [Act.put, pb, pz, ps]
      refine wpAnyF_done (by kernel_rfl) ?_ _
      clear hS
      go_wp2_with fail
      go_ret
      exact ⟨rfl, HB1.out.trans (HB3.out.mono HB1.out.size)⟩
    exact AllReadyF.nil
end Go.Proofs.YthoaidfpgijbfaaGreat.Ho
namespace Go.Proofs.YthoaidfpgijbfaaGreat.Ho
open Go.RowKit
open Go.Proofs.YthoaidfpgijbfaaGreat.Vb Go.Proofs.YthoaidfpgijbfaaGreat.Ac
def broughtE (H : House) (b c : Int) : Int := if b < 0 ∨ (H.accs.length : Int) ≤ b then 4 else match H.accs[b.toNat]? with | some a => a.bringE c | none => 4
def broughtH (H : House) (b c : Int) : House := match H.accs[b.toNat]? with | some a => { H with accs := H.accs.set b.toNat (a.bring c) } | none => H
def broughtV (H : House) (b c : Int) : Int := match H.accs[b.toNat]? with | some a => a.bud + c | none => 0
end Go.Proofs.YthoaidfpgijbfaaGreat.Ho
namespace Go.Proofs.YthoaidfpgijbfaaGreat.Ho
open Go.RowKit
open Go.Proofs.YthoaidfpgijbfaaGreat.Vb Go.Proofs.YthoaidfpgijbfaaGreat.Ac
abbrev bidderV (s : ByteArray) (b hl sp : Int) : Value := .agg #[.string s, .int .i64 b, .int .i64 hl, .int .i64 sp]
set_option maxRecDepth 100000 in
set_option maxHeartbeats 4000000 in
theorem hbidder_err {W : World} {T : Nat → Part} {h K : Nat} {H : House} (hH : HouseIn W T h K H) {x : Int} (hx : x < 0 ∨ (H.accs.length : Int) ≤ x) :
    Calls Tryz.prog 22 #[.pointer (some ⟨h, 0, none⟩), .int .i64 x] W fun e W' => e = .returned (.tuple #[bidderV { data := #[] } 0 0 0, .int .i64 4]) ∧ Below W.heap.size W W' := by
  obtain ⟨W1, hW1⟩ : ∃ W1, W1 = W.alloc (.cells #[.string { data := #[] }, .int .i64 0, .int .i64 0, .int .i64 0] 62) := ⟨_, rfl⟩
  have hb1 : Below W.heap.size W W1 := by rw [hW1]; exact (Below.refl _ _).alloc (Nat.le_refl _) _
  have hx1 : Blk W1 W.heap.size 62 #[.string { data := #[] }, .int .i64 0, .int .i64 0, .int .i64 0] := by rw [hW1]; exact Blk.new _ _ _
  have HH1 := Lib.hid (hH.grow hb1)
  have HX1 := Lib.hid hx1
  have HB1 := Lib.hid hb1
  obtain ⟨pn, pc, va, vl, vb, vs, hA⟩ := hH.grow hb1
  obtain ⟨A, c, hva⟩ := hA.accs.form
  have c1 := hA.cells.2.1
  rw [hva] at c1
  have HOF := Lib.hid (hof_err c1 hx)
  have y0 := hx1.cell 0
  have y1 := hx1.cell 1
  have y2 := hx1.cell 2
  have y3 := hx1.cell 3
  have yf := hx1.frozen
  simp only [List.getElem?_toArray, List.getElem?_cons_zero, List.getElem?_cons_succ] at y0 y1 y2 y3
  clear hH hx hA hva c1 hb1 hx1
  go_enter Tryz.func22, Tryz.ntmps22
  go_wp2_with fail
  rw [← hW1]
  clear hW1
  refine (hnone_any HH1.out).mono ?_
  rintro e W2 ⟨rfl, rfl⟩
  go_wp2_with fail
  refine HOF.out.mono ?_
  rintro e W3 ⟨rfl, rfl⟩
  go_wp2_with fail
  have hfin := (((HX1.out.set_ 0 (.string { data := #[] })).set_ 1 (.int .i64 0)).set_ 2 (.int .i64 0)).set_ 3 (.int .i64 0)
  have q0 := hfin.cell 0
  have q1 := hfin.cell 1
  have q2 := hfin.cell 2
  have q3 := hfin.cell 3
  simp at q0 q1 q2 q3
  refine bodyPost_ret (v := .tuple #[bidderV { data := #[] } 0 0 0, .int .i64 4]) (by simp [results, Tryz.results22, go_sem, q0, q1, q2, q3]) rfl ⟨rfl, ?_⟩
  exact (((HB1.out.setCell (p := ⟨W.heap.size, 0, none⟩) (Nat.le_refl _) _).setCell (p := ⟨W.heap.size, 1, none⟩) (Nat.le_refl _) _).setCell (p := ⟨W.heap.size, 2, none⟩) (Nat.le_refl _) _).setCell (p := ⟨W.heap.size, 3, none⟩) (Nat.le_refl _) _
set_option maxRecDepth 100000 in
set_option maxHeartbeats 4000000 in
theorem hbidder_ok {W : World} {T : Nat → Part} {h K : Nat} {H : House} (hH : HouseIn W T h K H) (hok : ∀ a ∈ H.accs, a.Ok) {i : Nat} {a : Acc} {s : ByteArray} (ha : H.accs[i]? = some a) (hs : H.names[i]? = some s) :
    Calls Tryz.prog 22 #[.pointer (some ⟨h, 0, none⟩), .int .i64 i] W fun e W' => e = .returned (.tuple #[bidderV s a.bud (sumM a.M) a.sp, .int .i64 0]) ∧ Below W.heap.size W W' := by
  obtain ⟨W1, hW1⟩ : ∃ W1, W1 = W.alloc (.cells #[.string { data := #[] }, .int .i64 0, .int .i64 0, .int .i64 0] 62) := ⟨_, rfl⟩
  have hb1 : Below W.heap.size W W1 := by rw [hW1]; exact (Below.refl _ _).alloc (Nat.le_refl _) _
  have hx1 : Blk W1 W.heap.size 62 #[.string { data := #[] }, .int .i64 0, .int .i64 0, .int .i64 0] := by rw [hW1]; exact Blk.new _ _ _
  have HH1 := Lib.hid (hH.grow hb1)
  have HX1 := Lib.hid hx1
  have HB1 := Lib.hid hb1
  obtain ⟨pn, pc, va, vl, vb, vs, hA⟩ := hH.grow hb1
  obtain ⟨ba, ma, hrow, has⟩ := hA.accs
  have hi := (List.getElem?_eq_some_iff.1 ha).1
  have HOF := Lib.hid (hof_ok hA.cells.2.1 hrow hi)
  have HAC := Lib.hid (show AtP W1 (.pointer (some ⟨ba i, 0, none⟩)) (.live a) from ⟨_, _, _, rfl, (has i a ha).1⟩)
  have HOK := Lib.hid (show (Fm.live a).Ok from hok a (List.mem_of_getElem? ha))
  have HNM := Lib.hid hA.names
  have HS := Lib.hid hs
  have c0 := hA.cells.1
  have lh := hA.cells.2.2.2.2.2.2
  obtain ⟨z1, hz1⟩ : ∃ z, z = a.bud := ⟨_, rfl⟩
  obtain ⟨z2, hz2⟩ : ∃ z, z = sumM a.M := ⟨_, rfl⟩
  obtain ⟨z3, hz3⟩ : ∃ z, z = a.sp := ⟨_, rfl⟩
  rw [← hz1, ← hz2, ← hz3]
  have HZ1 := Lib.hid (show (Fm.live a).bud = z1 from hz1.symm)
  have HZ2 := Lib.hid (show sumM (Fm.live a).M = z2 from hz2.symm)
  have HZ3 := Lib.hid (show (Fm.live a).sp = z3 from hz3.symm)
  clear hH hA hrow has hb1 hx1 hok ha hs hi hz1 hz2 hz3
  go_enter Tryz.func22, Tryz.ntmps22
  go_wp2_with fail
  rw [← hW1]
  clear hW1
  refine (hnone_any HH1.out).mono ?_
  rintro e W2 ⟨rfl, rfl⟩
  go_wp2_with fail
  refine HOF.out.mono ?_
  rintro e W3 ⟨rfl, rfl⟩
  go_wp2_with fail
  refine (nname_any HNM.out HS.out).mono ?_
  rintro e W4 ⟨rfl, rfl⟩
  go_wp2_with fail
  refine (budget_any HAC.out).mono ?_
  rintro e W5 ⟨rfl, rfl⟩
  rw [HZ1.out]
  go_wp2_with fail
  refine (held_any HAC.out HOK.out).mono ?_
  rintro e W6 ⟨rfl, hb6⟩
  have HB6 := Lib.hid (HB1.out.trans (hb6.mono HB1.out.size))
  have HAC6 := Lib.hid (HAC.out.grow hb6)
  have hx6 := HX1.out.grow hb6
  have HX6 := Lib.hid hx6
  have y0 : W6.cell? ⟨W.heap.size, 0, none⟩ = some (.string { data := #[] }) := hx6.cell 0
  have y1 : W6.cell? ⟨W.heap.size, 1, none⟩ = some (.int .i64 0) := hx6.cell 1
  have y2 : W6.cell? ⟨W.heap.size, 2, none⟩ = some (.int .i64 0) := hx6.cell 2
  have y3 : W6.cell? ⟨W.heap.size, 3, none⟩ = some (.int .i64 0) := hx6.cell 3
  have yf := hx6.frozen
  rw [HZ2.out]
  clear hb6 hx6 c0 lh
  go_wp2_with fail
  refine (spent_any HAC6.out).mono ?_
  rintro e W7 ⟨rfl, rfl⟩
  rw [HZ3.out]
  go_wp2_with fail
  have hfin := (((HX6.out.set_ 0 (.string s)).set_ 1 (.int .i64 z1)).set_ 2 (.int .i64 z2)).set_ 3 (.int .i64 z3)
  have q0 := hfin.cell 0
  have q1 := hfin.cell 1
  have q2 := hfin.cell 2
  have q3 := hfin.cell 3
  simp at q0 q1 q2 q3
  refine bodyPost_ret (v := .tuple #[bidderV s z1 z2 z3, .int .i64 0]) (by simp [results, Tryz.results22, go_sem, q0, q1, q2, q3]) rfl ⟨rfl, ?_⟩
  exact (((HB6.out.setCell (p := ⟨W.heap.size, 0, none⟩) (Nat.le_refl _) _).setCell (p := ⟨W.heap.size, 1, none⟩) (Nat.le_refl _) _).setCell (p := ⟨W.heap.size, 2, none⟩) (Nat.le_refl _) _).setCell (p := ⟨W.heap.size, 3, none⟩) (Nat.le_refl _) _
end Go.Proofs.YthoaidfpgijbfaaGreat.Ho
namespace Go.Proofs.YthoaidfpgijbfaaGreat.Ho
open Go.RowKit
open Go.Proofs.YthoaidfpgijbfaaGreat.Vb Go.Proofs.YthoaidfpgijbfaaGreat.Ac
theorem LotAt.cellsA {W : World} {T : Nat → Part} {n b : Nat} {l : LotS} (h : LotAt W T n b l) : W.cell? ⟨b, 1, none⟩ = some (.int .i64 l.put.opens) ∧ W.cell? ⟨b, 12, none⟩ = some (.int .i64 l.closes) ∧ W.cell? ⟨b, 13, none⟩ = some (.bool l.closed) := by
  obtain ⟨v, _, h, _⟩ := h
  exact ⟨h.cell 1, h.cell 12, h.cell 13⟩
set_option maxRecDepth 100000 in
set_option maxHeartbeats 8000000 in
theorem hat_lot {W : World} {T : Nat → Part} {h pn pc K : Nat} {va vl vb vs : Value} {H : House} (hH : HouseAt W T h pn pc va vl vb vs K H) (o : OrderR) (vo : Value) {ba bl : Nat → Nat} (hrow : RowAt W (fun b => T b = .accs) 133 1 va H.accs.length (ptrs ba H.accs.length))
    (hlr : RowAt W (fun b => T b = .lots) 135 1 vl H.lots.length (ptrs bl H.lots.length)) {i j : Nat} (hi : o.bidder = i) (hj : o.lot = j) (hil : i < H.accs.length) {l : LotS} (hl : H.lots[j]? = some l) (hL : LotAt W T j (bl j) l) :
    Calls Tryz.prog 85 #[.pointer (some ⟨h, 0, none⟩), o.agg vo] W fun e W' => Below W.heap.size W W' ∧
      ((l.closed = true ∨ H.now < l.put.opens ∨ l.closes ≤ H.now) ∧ e = .returned (.tuple #[.pointer none, .pointer none, .int .i64 6]) ∨ ¬ (l.closed = true ∨ H.now < l.put.opens ∨ l.closes ≤ H.now) ∧ e = .returned (.tuple #[.pointer (some ⟨bl j, 0, none⟩), .pointer (some ⟨ba i, 0, none⟩), .int .i64 0])) := by
  obtain ⟨W1, hW1⟩ : ∃ W1, W1 = W.alloc (.cells (o.cells vo).toArray 36) := ⟨_, rfl⟩
  have hb1 : Below W.heap.size W W1 := by rw [hW1]; exact (Below.refl _ _).alloc (Nat.le_refl _) _
  have hx : Blk W1 W.heap.size 36 (o.cells vo).toArray := by rw [hW1]; exact Blk.new _ _ _
  have hH1 := hH.grow hb1
  have HB1 := Lib.hid hb1
  have c1 := hH1.cells.2.1
  have c2 := hH1.cells.2.2.1
  have c3 := hH1.cells.2.2.2.1
  have hh := hH1.cells.2.2.2.2.2.2
  have hjl := (List.getElem?_eq_some_iff.1 hl).1
  have HOF := Lib.hid (hof_ok c1 (hrow.grow hb1) hil)
  obtain ⟨q, cap, rfl, _, hq, _⟩ := hlr.ex (by omega)
  have q0 : W1.cell? ⟨q, j, none⟩ = some (.pointer (some ⟨bl j, 0, none⟩)) := (hb1.cell (p := ⟨q, j, none⟩) hq).trans ((hlr.own.cellAt j (by omega)).trans (ptrs_at hjl))
  have hq1 : q < W1.heap.size := Nat.lt_of_lt_of_le hq hb1.size
  obtain ⟨l1, l12, l13⟩ := (hL.step (T' := T) (Chg.of (fun _ => False) hb1) (fun _ _ => id) (fun _ _ => rfl)).cellsA
  have HCAL := Lib.hid hH1.cal
  obtain ⟨lo, hlo⟩ : ∃ z, z = l.put.opens := ⟨_, rfl⟩
  obtain ⟨lc, hlc⟩ : ∃ z, z = l.closes := ⟨_, rfl⟩
  obtain ⟨ld, hld⟩ : ∃ z, z = l.closed := ⟨_, rfl⟩
  obtain ⟨now, hnow⟩ : ∃ z, z = H.now := ⟨_, rfl⟩
  obtain ⟨nl, hnl⟩ : ∃ z, z = H.lots.length := ⟨_, rfl⟩
  rw [← hnl] at c2 hjl
  rw [← hlo] at l1
  rw [← hlc] at l12
  rw [← hld] at l13
  rw [← hnow] at HCAL
  rw [← hlo, ← hlc, ← hld, ← hnow]
  obtain ⟨okind, oname, ocoins, obidder, olot, ⟨kind, opens, closes, start, step, extend, last, floor, fall, count, rule⟩, ooff, otick⟩ := o
  simp only at hi hj
  subst hi hj
  simp only [OrderR.agg, OrderR.cells, LotR.cells, List.cons_append, List.nil_append] at hW1 hx ⊢
  have x3 : W1.cell? ⟨W.heap.size, 3, none⟩ = some (.int .i64 (i : Int)) := hx.cell 3
  have x4 : W1.cell? ⟨W.heap.size, 4, none⟩ = some (.int .i64 (j : Int)) := hx.cell 4
  have xl := hx.lt
  have b1 : decide ((j : Int) < 0) = false := decide_eq_false (by omega)
  have b2 : decide ((nl : Int) ≤ (j : Int)) = false := decide_eq_false (by omega)
  have e1 : (0 : Int) ≤ (j : Int) := by omega
  have e2 : (j : Int) < (nl : Int) := by omega
  have HJL := Lib.hid hjl
  clear hH hb1 hx hH1 hrow hlr hil hl hL hlo hlc hld hnow hnl hjl hq
  go_enter Tryz.func85, Tryz.ntmps85
  go_wp2_with fail
  rw [← hW1]
  clear hW1
  refine HOF.out.mono ?_
  rintro e W2 ⟨rfl, rfl⟩
  go_wp2_with fail
  go_quiet (fail)
  go_wp2_with fail
  go_quiet (fail)
  go_wp2_with fail
  refine (tnow_any (W := _) (HCAL.out.grow (below_drewN (Below.refl _ _) _))).mono ?_
  rintro e W7 ⟨rfl, rfl⟩
  cases hd : ld with
  | true =>
    subst hd
    go_wp2_with fail
    refine bodyPost_ret (v := .tuple #[.pointer none, .pointer none, .int .i64 6]) (by simp [results, Tryz.results85, go_sem]) rfl ⟨below_drewN HB1.out _, rfl⟩
  | false =>
    subst hd
    by_cases h1 : now < lo
    · go_wp2_with fail
      refine bodyPost_ret (v := .tuple #[.pointer none, .pointer none, .int .i64 6]) (by simp [results, Tryz.results85, go_sem]) rfl ⟨below_drewN HB1.out _, .inl ⟨.inr (.inl h1), rfl⟩⟩
    · by_cases h2 : lc ≤ now
      · have h3 : now ≥ lc := h2
        go_wp2_with fail
        refine bodyPost_ret (v := .tuple #[.pointer none, .pointer none, .int .i64 6]) (by simp [results, Tryz.results85, go_sem]) rfl ⟨below_drewN HB1.out _, .inl ⟨.inr (.inr h2), rfl⟩⟩
      · have h3 : ¬ now ≥ lc := h2
        go_wp2_with fail
        refine bodyPost_ret (v := .tuple #[.pointer (some ⟨bl j, 0, none⟩), .pointer (some ⟨ba i, 0, none⟩), .int .i64 0]) (by simp [results, Tryz.results85, go_sem]) rfl ⟨below_drewN HB1.out _, .inr ⟨by rintro (k | k | k); cases k; omega; omega, rfl⟩⟩
end Go.Proofs.YthoaidfpgijbfaaGreat.Ho
