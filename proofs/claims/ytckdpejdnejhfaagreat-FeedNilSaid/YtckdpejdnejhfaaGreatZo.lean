/- Joined by program: HrI. -/
import Derived.Test.YtckdpejdnejhfaaGreatZm
/- House: Do, kind by kind. (Printed by tools/gen_do2.py.) -/
set_option linter.all false
namespace Go.Proofs.YtckdpejdnejhfaaGreat.Ho
open Go.RowKit
open Go.Proofs.YtckdpejdnejhfaaGreat.Vb Go.Proofs.YtckdpejdnejhfaaGreat.Ac

/-- what Do answers -/
abbrev ansV (n e v : Int) : Value := .agg #[.int .i64 n, .int .i64 e, .int .i64 v]
/-- what is done for a kind's number -/
def doF (k : Nat) : FuncId := if k = 1 then 94 else if k = 2 then 95 else if k = 3 then 96 else if k = 4 then 97 else if k = 5 then 98 else 99
def doArr : Array Value := #[.nilFunc, .func (.func 94) #[] #[], .func (.func 95) #[] #[], .func (.func 96) #[] #[], .func (.func 97) #[] #[], .func (.func 98) #[] #[], .func (.func 99) #[] #[]]
theorem do_at (k : Nat) (h1 : 1 ≤ k) (h6 : k ≤ 6) : doArr[k]? = some (.func (.func (doF k)) #[] #[]) ∧ ∀ args w, (callFunc (doF k) args).run Tryz.prog w = .ok (.enter (doF k) args) w := by
  have : k = 1 ∨ k = 2 ∨ k = 3 ∨ k = 4 ∨ k = 5 ∨ k = 6 := by omega
  rcases this with rfl | rfl | rfl | rfl | rfl | rfl
  · exact ⟨rfl, enters_of Tryz.func94 (by kernel_rfl) rfl⟩
  · exact ⟨rfl, enters_of Tryz.func95 (by kernel_rfl) rfl⟩
  · exact ⟨rfl, enters_of Tryz.func96 (by kernel_rfl) rfl⟩
  · exact ⟨rfl, enters_of Tryz.func97 (by kernel_rfl) rfl⟩
  · exact ⟨rfl, enters_of Tryz.func98 (by kernel_rfl) rfl⟩
  · exact ⟨rfl, enters_of Tryz.func99 (by kernel_rfl) rfl⟩

set_option maxRecDepth 100000 in
set_option maxHeartbeats 4000000 in
theorem do_ok (kn : Nat) (h1k : 1 ≤ kn) (h6k : kn ≤ 6) {W : World} {T : Nat → Part} {h K : Nat} {H : House} (hH : HouseIn W T h K H) (o : OrderR) {A : Option Addr} {c : Nat} (hk : o.kind = (kn : Int)) (hsp : spareB o = true) {R : Nat → Prop} (hO : Offs W R (.slice A o.offers.length c) o.offers) (hR : ∀ b, b < W.heap.size → R b → T b = .no)
    (hlo : o.offers.length ≤ 1099511627776) {K' : Nat} {H1 : House} {v : Int} (hbl : H1.book.length ≤ 1000000)
    (hm : ∀ W1, HouseIn W1 T h K H → Offs W1 (fun b => R b ∧ b < W.heap.size) (.slice A o.offers.length c) o.offers → Calls Tryz.prog (doF kn) #[.pointer (some ⟨h, 0, none⟩), o.agg (.slice A o.offers.length c)] W1 fun e W' => e = .returned (.tuple #[.int .i64 v, .int .i64 0]) ∧ ∃ T', HouseIn W' T' h K' H1 ∧ Moves W1 T W' T') :
    Calls Tryz.prog 69 #[.pointer (some ⟨h, 0, none⟩), o.agg (.slice A o.offers.length c)] W fun e W' => e = .returned (ansV H1.book.length 0 v) ∧ ∃ T', HouseIn W' T' h K' { H1 with book := H1.book ++ [o] } ∧ Moves W T W' T' := by
  replace hO := Offs.mono (R' := fun b => R b ∧ b < W.heap.size) hO fun b hb hr => ⟨hr, hb⟩
  have HNO := Lib.hid (show ∀ b, W.heap.size ≤ b → T b = .no by obtain ⟨_, _, _, _, _, _, hH⟩ := hH; exact hH.out)
  have HRN := Lib.hid hR
  have HBL := Lib.hid hbl
  have HLO := Lib.hid hlo
  clear hR hbl hlo
  obtain ⟨okind, oname, ocoins, obidder, olot, ⟨kind, opens, closes, start, step, extend, last, floor, fall, count, rule⟩, ooff, otick⟩ := o
  simp only at hk hO HLO
  subst hk
  obtain ⟨hfk, hen⟩ := do_at kn h1k h6k
  generalize doF kn = f at hm hfk hen
  have e1k : (0 : Int) ≤ (kn : Int) := by omega
  have e2k : (kn : Int) < 7 := by omega
  have HFK := Lib.hid hfk
  clear hfk
  have HSP := Lib.hid hsp
  have HM := Lib.hid hm
  have HH := Lib.hid hH
  have HO := Lib.hid hO
  have hspa := fun W => spare_any ⟨(kn : Int), oname, ocoins, obidder, olot, ⟨kind, opens, closes, start, step, extend, last, floor, fall, count, rule⟩, ooff, otick⟩ A c W
  have HSPA := Lib.hid hspa
  simp only [OrderR.agg, OrderR.cells, LotR.cells, List.cons_append, List.nil_append] at HM HSPA ⊢
  obtain ⟨W1, hW1⟩ : ∃ W1, W1 = (W.alloc (.cells #[.int .i64 (kn : Int), .string oname, .int .i64 ocoins, .int .i64 obidder, .int .i64 olot, .int .i64 kind, .int .i64 opens, .int .i64 closes, .int .i64 start, .int .i64 step, .int .i64 extend, .int .i64 last, .int .i64 floor, .int .i64 fall, .int .i64 count, .int .i64 rule, .slice A ooff.length c, .int .i64 otick] 61)).alloc (.cells #[.int .i64 0, .int .i64 0, .int .i64 0] 52) := ⟨_, rfl⟩
  have hb1 : Below W.heap.size W W1 := by rw [hW1]; exact ((Below.refl _ _).alloc (Nat.le_refl _) _).alloc (by simp) _
  have HX1 := Lib.hid (show Blk W1 W.heap.size 61 #[.int .i64 (kn : Int), .string oname, .int .i64 ocoins, .int .i64 obidder, .int .i64 olot, .int .i64 kind, .int .i64 opens, .int .i64 closes, .int .i64 start, .int .i64 step, .int .i64 extend, .int .i64 last, .int .i64 floor, .int .i64 fall, .int .i64 count, .int .i64 rule, .slice A ooff.length c, .int .i64 otick] by rw [hW1]; exact (Blk.new W _ _).alloc _)
  have HY1 := Lib.hid (show Blk W1 (W.heap.size + 1) 52 #[.int .i64 0, .int .i64 0, .int .i64 0] by rw [hW1]; exact Blk.new' _ _ (by simp))
  have HB1 := Lib.hid hb1
  clear hH hO hsp hm hspa hb1
  go_enter Tryz.func69, Tryz.ntmps69
  go_wp2_with fail
  rw [← hW1]
  clear hW1
  refine (hnone_any (HH.out.grow HB1.out)).mono ?_
  rintro e W2 ⟨rfl, rfl⟩
  go_wp2_with (refine wpList_load_row rfl 61 (.tmp 3) rfl W.heap.size rfl 61 #[.int .i64 (kn : Int), .string oname, .int .i64 ocoins, .int .i64 obidder, .int .i64 olot, .int .i64 kind, .int .i64 opens, .int .i64 closes, .int .i64 start, .int .i64 step, .int .i64 extend, .int .i64 last, .int .i64 floor, .int .i64 fall, .int .i64 count, .int .i64 rule, .slice A ooff.length c, .int .i64 otick] (0, 0) _ HX1.out Tryz.underlying61 rfl (by kernel_rfl) ?_)
  refine (HSPA.out _).mono ?_
  rintro e W3 ⟨rfl, hb3⟩
  rw [HSP.out]
  have HX3 := Lib.hid (HX1.out.grow hb3)
  have HY3 := Lib.hid (HY1.out.grow hb3)
  have HB3 := Lib.hid (HB1.out.trans (hb3.mono HB1.out.size))
  clear hb3
  obtain ⟨W4, hW4⟩ : ∃ W4, W4 = W3.alloc (.cells #[.nilFunc, .func (.func 94) #[] #[], .func (.func 95) #[] #[], .func (.func 96) #[] #[], .func (.func 97) #[] #[], .func (.func 98) #[] #[], .func (.func 99) #[] #[]] 195) := ⟨_, rfl⟩
  have hb4 : Below W3.heap.size W3 W4 := by rw [hW4]; exact (Below.refl _ _).alloc (Nat.le_refl _) _
  have HF4 := Lib.hid (show Blk W4 W3.heap.size 195 #[.nilFunc, .func (.func 94) #[] #[], .func (.func 95) #[] #[], .func (.func 96) #[] #[], .func (.func 97) #[] #[], .func (.func 98) #[] #[], .func (.func 99) #[] #[]] by rw [hW4]; exact Blk.new _ _ _)
  have HX4 := Lib.hid (HX3.out.grow hb4)
  have HB4 := Lib.hid (HB3.out.trans (hb4.mono HB3.out.size))
  have HY4 := Lib.hid (HY3.out.grow hb4)
  clear hb4
  go_wp2_with fail
  rw [← hW4]
  clear hW4
  have x0 : W4.cell? ⟨W.heap.size, 0, none⟩ = some (.int .i64 (kn : Int)) := HX4.out.cell 0
  have lx := HX4.out.lt
  have f0 : W4.cell? ⟨W3.heap.size, kn, none⟩ = some (.func (.func f) #[] #[]) := (HF4.out.cell kn).trans HFK.out
  have lf := HF4.out.lt
  refine wp_region_F (Below W4.heap.size W4) [6, 7, 8, 9, 10, 11] (by kernel_rfl) ((Below.refl _ _).drew) (fun hS => ?_)
  refine tpD [1, 2, 3, 6, 7, 8, 9, 10, 11] 0 hS ?_
  have qq := Lib.hid fun (w' : World) (hSw : (Below W4.heap.size W4) w') => And.intro ((hSw.cell (p := ⟨W.heap.size, 0, none⟩) lx).trans x0) <| (hSw.cell (p := ⟨W3.heap.size, kn, none⟩) lf).trans f0
  refine tlD [2, 3, 6, 7, 8, 9, 10, 11] 1 hS qq ?_
  refine tpD [3, 6, 7, 8, 9, 10, 11] 2 hS ?_
  refine tlD [6, 7, 8, 9, 10, 11] 3 hS qq ?_
  refine tpD [6, 7, 8, 9, 10, 11] 4 hS ?_
  refine txD [6, 7, 8, 9, 10, 11] 5 (v := ?_) hS ?_ ?_
  rotate_left
  · intro w' hSw; refine Eq.trans (exec_load_row 61 (.tmp 3) (by rfl) W.heap.size (by rfl) 61 #[.int .i64 (kn : Int), .string oname, .int .i64 ocoins, .int .i64 obidder, .int .i64 olot, .int .i64 kind, .int .i64 opens, .int .i64 closes, .int .i64 start, .int .i64 step, .int .i64 extend, .int .i64 last, .int .i64 floor, .int .i64 fall, .int .i64 count, .int .i64 rule, .slice A ooff.length c, .int .i64 otick] (0, 0) _ (HX4.out.grow hSw) Tryz.underlying61 rfl (by kernel_rfl)) ?_; with_reducible rfl
  refine stf 6 fun K hK => ?_
  go_simp
  refine (HM.out W4.drew (((HH.out.grow HB4.out)).grow (Below.refl _ _).drew) (Offs.grow (Offs.grow HO.out HB4.out) (Below.refl _ _).drew)).mono ?_
  rintro e W5 ⟨rfl, T5, hH5, hM5⟩
  have hM5 : Moves W4 T W5 T5 := ⟨((Chg.refl _ W4).grow (Below.refl _ _).drew).trans hM5.chg, fun b hb => hM5.tag b hb⟩
  have HH5 := Lib.hid hH5
  have HM5 := Lib.hid hM5
  have hno : ∀ b, W.heap.size ≤ b → ¬ Own T b := fun b hb ho => ho.2 (HNO.out b hb)
  have HX5 := Lib.hid (HX4.out.chg hM5.chg (hno _ (Nat.le_refl _)))
  have HY5 := Lib.hid (HY4.out.chg hM5.chg (hno _ (Nat.le_succ _)))
  have HO5 := Lib.hid (Offs.chg (Offs.grow HO.out HB4.out) hM5.chg fun b _ hr ho => ho.2 (HRN.out b hr.2 hr.1))
  clear hH5 hM5 hno
  refine hK.out _ _ ?_
  clear hK K
  try simp only [Act.put, pb, pz, ps]
  refine tpW 7 ?_
  refine tpW 8 ?_
  refine tpW 9 ?_
  refine tpW 10 ?_
  refine tpW 11 ?_
  refine wpAnyF_done (by kernel_rfl) ?_ _
  clear hS x0 f0 lf lx
  obtain ⟨pn, pc, va, vl, vb, vs, hH5⟩ := HH5.out
  obtain ⟨vo, hrow, hvo⟩ := hH5.book
  obtain ⟨Ab, cb, hvb⟩ := hrow.form
  obtain ⟨nb, hnb⟩ : ∃ n, n = H1.book.length := ⟨_, rfl⟩
  have HNB := Lib.hid hnb
  have HROW := Lib.hid (show RowAt W5 (fun b => T5 b = .book ∧ b < W5.heap.size) 61 18 (.slice Ab nb cb) nb (orderCells H1.book vo) by rw [hnb, ← hvb]; exact hrow.mono fun b hb hr => ⟨hr, hb⟩)
  have HVO := Lib.hid hvo
  have HVB := Lib.hid (show vb = .slice Ab nb cb by rw [hnb]; exact hvb)
  have HA5 := Lib.hid hH5
  have c4 : W5.cell? ⟨h, 4, none⟩ = some (.slice Ab nb cb) := hH5.cells.2.2.2.2.1.trans (by rw [hvb, hnb])
  have lh := hH5.cells.2.2.2.2.2.2
  have or1 : ¬ (Value.slice Ab nb cb).ownBlock = some h := fun e => by have h3 := (HROW.out.blk h e).1; rw [hH5.top] at h3; cases h3
  have HOR := Lib.hid or1
  have HT5 := Lib.hid (show ∀ b, W.heap.size ≤ b → b < W4.heap.size → T5 b = .no from fun b h1 h2 => (HM5.out.tag b h2).trans (HNO.out b h1))
  have hlx4 : W.heap.size < W4.heap.size := HX4.out.lt
  have ox1 : ¬ (Value.slice Ab nb cb).ownBlock = some W.heap.size := fun e => by have h3 := (HROW.out.blk _ e).1; rw [HT5.out _ (Nat.le_refl _) hlx4] at h3; cases h3
  clear hrow hvo hvb hnb hH5 hlx4
  go_wp2_with fail
  refine wp_region_F (Chg (fun b => (Value.slice Ab nb cb).ownBlock = some b) W5) [13] (by kernel_rfl) ((Chg.refl _ W5).grow (Below.refl _ _).drew) (fun hS => ?_)
  refine tp 0 hS ?_
  refine tp 1 hS ?_
  refine tp 2 hS ?_
  refine tp 3 hS ?_
  refine tp 4 hS ?_
  have qq := Lib.hid fun (w' : World) (hSw : (Chg (fun b => (Value.slice Ab nb cb).ownBlock = some b) W5) w') => (hSw.cell (p := ⟨h, 4, none⟩) lh or1).trans c4
  refine tl 5 hS qq ?_
  refine tx 6 (v := ?_) hS ?_ ?_
  rotate_left
  · intro w' hSw; refine Eq.trans (exec_load_row 61 (.tmp 3) (by rfl) W.heap.size (by rfl) 61 #[.int .i64 (kn : Int), .string oname, .int .i64 ocoins, .int .i64 obidder, .int .i64 olot, .int .i64 kind, .int .i64 opens, .int .i64 closes, .int .i64 start, .int .i64 step, .int .i64 extend, .int .i64 last, .int .i64 floor, .int .i64 fall, .int .i64 count, .int .i64 rule, .slice A ooff.length c, .int .i64 otick] (0, 0) _ (HX5.out.chg hSw ox1) Tryz.underlying61 rfl (by kernel_rfl)) ?_; with_reducible rfl
  refine stp 7 fun K hK => ?_
  go_simp
  refine (hcopied_any (W := W5.drew) ⟨(kn : Int), oname, ocoins, obidder, olot, ⟨kind, opens, closes, start, step, extend, last, floor, fall, count, rule⟩, ooff, otick⟩ (Offs.grow HO5.out (Below.refl _ _).drew) HLO.out).mono ?_
  rintro e W6 ⟨A6, c6, rfl, hO6, hb6⟩
  have hb6 : Below W5.heap.size W5 W6 := (Below.refl _ _).drew.trans (hb6.mono (Nat.le_refl _))
  simp only [OrderR.agg, OrderR.cells, LotR.cells, List.cons_append, List.nil_append]
  refine hK.out _ _ ?_ (fun hS => ?_)
  · exact (Chg.refl _ W5).grow hb6
  clear hK K
  try simp only [Act.put, pb, pz, ps]
  have HO6 := Lib.hid hO6
  have HB6 := Lib.hid hb6
  have HRW := Lib.hid ((HROW.out.grow hb6).grow ((Below.refl _ _).alloc (Nat.le_refl _) (.cells #[.int .i64 (kn : Int), .string oname, .int .i64 ocoins, .int .i64 obidder, .int .i64 olot, .int .i64 kind, .int .i64 opens, .int .i64 closes, .int .i64 start, .int .i64 step, .int .i64 extend, .int .i64 last, .int .i64 floor, .int .i64 fall, .int .i64 count, .int .i64 rule, .slice A6 ooff.length c6, .int .i64 otick] 61)))
  clear hO6 hb6
  refine stp 8 fun K hK => ?_
  go_simp
  refine hK.out _ _ ?_ (fun hS => ?_)
  · exact hS.grow ((Below.refl _ _).alloc (Nat.le_refl _) _)
  clear hK K
  try simp only [Act.put, pb, pz, ps]
  refine stp 9 fun K hK => ?_
  refine step_row (W6.alloc (.cells #[.int .i64 (kn : Int), .string oname, .int .i64 ocoins, .int .i64 obidder, .int .i64 olot, .int .i64 kind, .int .i64 opens, .int .i64 closes, .int .i64 start, .int .i64 step, .int .i64 extend, .int .i64 last, .int .i64 floor, .int .i64 fall, .int .i64 count, .int .i64 rule, .slice A6 ooff.length c6, .int .i64 otick] 61)) (.tmp 35) (.tmp 38) rfl et_order rfl (.slice Ab nb cb) nb (orderCells H1.book vo) rfl HRW.out (.slice (some ⟨W6.heap.size, 0, none⟩) 1 1) 1 [.int .i64 (kn : Int), .string oname, .int .i64 ocoins, .int .i64 obidder, .int .i64 olot, .int .i64 kind, .int .i64 opens, .int .i64 closes, .int .i64 start, .int .i64 step, .int .i64 extend, .int .i64 last, .int .i64 floor, .int .i64 fall, .int .i64 count, .int .i64 rule, .slice A6 ooff.length c6, .int .i64 otick] rfl (Sl.lit1 (Blk.new W6 61 #[.int .i64 (kn : Int), .string oname, .int .i64 ocoins, .int .i64 obidder, .int .i64 olot, .int .i64 kind, .int .i64 opens, .int .i64 closes, .int .i64 start, .int .i64 step, .int .i64 extend, .int .i64 last, .int .i64 floor, .int .i64 fall, .int .i64 count, .int .i64 rule, .slice A6 ooff.length c6, .int .i64 otick]) rfl) (by simp [Value.oneCell']) (by have := HBL.out; have := HNB.out; omega) (by have := HBL.out; have := HNB.out; unfold maxLen; omega) ?_
  intro A7 c7 Z hrZ hcZ
  refine hK.out _ _ ?_ (fun hS => ?_)
  · exact hS.trans hcZ
  clear hK K
  try simp only [Act.put, pb, pz, ps]
  have HHZ := Lib.hid (((HA5.out.blk.grow HB6.out).alloc (.cells #[.int .i64 (kn : Int), .string oname, .int .i64 ocoins, .int .i64 obidder, .int .i64 olot, .int .i64 kind, .int .i64 opens, .int .i64 closes, .int .i64 start, .int .i64 step, .int .i64 extend, .int .i64 last, .int .i64 floor, .int .i64 fall, .int .i64 count, .int .i64 rule, .slice A6 ooff.length c6, .int .i64 otick] 61)).chg hcZ HOR.out)
  have HZR := Lib.hid hrZ
  have HZC := Lib.hid hcZ
  obtain ⟨U, hU⟩ : ∃ U, U = Z.setCell ⟨h, 4, none⟩ (.slice A7 (nb + 1) c7) := ⟨_, rfl⟩
  have HU := Lib.hid hU
  clear hrZ hcZ hU
  refine tpD [11, 12, 13] 10 hS ?_
  refine tpD [12, 13] 11 hS ?_
  refine tp 12 hS ?_
  refine stf 13 fun K hK => ?_
  have f4 := HHZ.out.frozen 4
  have d4 := HHZ.out.cell 4
  go_simp
  rw [← HU.out]
  refine hK.out _ _ ?_
  clear hK K
  try simp only [Act.put, pb, pz, ps]
  refine wpAnyF_done (by kernel_rfl) ?_ _
  clear hS c4 lh or1 ox1
  have hlh : h < W5.heap.size := HA5.out.blk.lt
  have hcU1 : Chg (· = h) Z U := by rw [HU.out]; exact Chg.set Z ⟨h, 4, none⟩ _
  have HBU := Lib.hid (show Blk U h 83 #[.pointer (some ⟨pn, 0, none⟩), va, vl, .pointer (some ⟨pc, 0, none⟩), .slice A7 (nb + 1) c7, vs] by rw [HU.out]; exact HHZ.out.set_ 4 _)
  have hrowU := HZR.out.chgB hcU1 (fun b hb e => by
    rcases HZR.out.blk b hb with k | k
    · have := k.1; rw [e, HA5.out.top] at this; cases this
    · have h1 := HB6.out.size; rw [World.size_alloc] at k; omega)
  have hend := book_end (o := ⟨(kn : Int), oname, ocoins, obidder, olot, ⟨kind, opens, closes, start, step, extend, last, floor, fall, count, rule⟩, ooff, otick⟩) HA5.out HVO.out HNB.out HB6.out HO6.out (hrowU.mono fun b _ k => k.elim .inl (fun k => .inr (by rw [World.size_alloc] at k; omega)))
    ((((Chg.refl _ W6).grow ((Below.refl _ _).alloc (Nat.le_refl _) _)).step HZC.out fun b _ e => ⟨.inl (HROW.out.blk b e).1, (HROW.out.blk b e).2⟩).step hcU1 fun b _ e => ⟨.inr (e ▸ HA5.out.top), by omega⟩) HBU.out
  have HEND := Lib.hid hend
  have hys : W.heap.size + 1 < W4.heap.size := HY4.out.lt
  have hyU := ((((HY5.out.grow HB6.out).alloc (.cells #[.int .i64 (kn : Int), .string oname, .int .i64 ocoins, .int .i64 obidder, .int .i64 olot, .int .i64 kind, .int .i64 opens, .int .i64 closes, .int .i64 start, .int .i64 step, .int .i64 extend, .int .i64 last, .int .i64 floor, .int .i64 fall, .int .i64 count, .int .i64 rule, .slice A6 ooff.length c6, .int .i64 otick] 61)).chg HZC.out (fun e => by have h3 := (HROW.out.blk _ e).1; rw [HT5.out _ (Nat.le_succ _) hys] at h3; cases h3))).chg hcU1 (fun e => by have h3 := HA5.out.top; rw [← e, HT5.out _ (Nat.le_succ _) hys] at h3; cases h3)
  have HYU := Lib.hid hyU
  have y0 : U.cell? ⟨W.heap.size + 1, 0, none⟩ = some (.int .i64 0) := hyU.cell 0
  have y1 : U.cell? ⟨W.heap.size + 1, 1, none⟩ = some (.int .i64 0) := hyU.cell 1
  have y2 : U.cell? ⟨W.heap.size + 1, 2, none⟩ = some (.int .i64 0) := hyU.cell 2
  have yf := hyU.frozen
  have d4 : U.cell? ⟨h, 4, none⟩ = some (.slice A7 (nb + 1) c7) := HBU.out.cell 4
  have hw1 : IntKind.i64.wrap (nb : Int) = (nb : Int) := IntWalk.i64_in _ (by have := HBL.out; have := HNB.out; omega)
  clear hlh hcU1 hrowU hend hyU hys
  go_wp2_with fail
  have hfin : Blk (((U.setCell ⟨W.heap.size + 1, 0, none⟩ (.int .i64 nb)).setCell ⟨W.heap.size + 1, 1, none⟩ (.int .i64 0)).setCell ⟨W.heap.size + 1, 2, none⟩ (.int .i64 v)) (W.heap.size + 1) 52 #[.int .i64 nb, .int .i64 0, .int .i64 v] := ((HYU.out.set_ 0 _).set_ 1 _).set_ 2 _
  have hcV : Chg (· = W.heap.size + 1) U (((U.setCell ⟨W.heap.size + 1, 0, none⟩ (.int .i64 nb)).setCell ⟨W.heap.size + 1, 1, none⟩ (.int .i64 0)).setCell ⟨W.heap.size + 1, 2, none⟩ (.int .i64 v)) := ((Chg.set U ⟨W.heap.size + 1, 0, none⟩ _).trans (Chg.set _ ⟨W.heap.size + 1, 1, none⟩ _)).trans (Chg.set _ ⟨W.heap.size + 1, 2, none⟩ _)
  refine bodyPost_ret (results_cell_row rfl _ _ (W.heap.size + 1) 52 #[.int .i64 nb, .int .i64 0, .int .i64 v] (0, 0) _ rfl hfin Tryz.underlying52 rfl (by kernel_rfl)) rfl ⟨by rw [HNB.out], ?_⟩
  obtain ⟨T6, hH6, hM6⟩ := HEND.out
  have hMM := HM5.out.trans hM6
  have hny : T6 (W.heap.size + 1) = .no := (hMM.tag _ HY4.out.lt).trans (HNO.out _ (Nat.le_succ _))
  refine ⟨T6, hH6.keep hcV (fun b hb e => hb (e ▸ hny)), ((Chg.of _ HB4.out).trans hMM.chg).step hcV (fun b hb e => by omega), fun b hb => hMM.tag b (Nat.lt_of_lt_of_le hb HB4.out.size)⟩

end Go.Proofs.YtckdpejdnejhfaaGreat.Ho
