/- Joined by program: HrQ. -/
import Derived.Test.YtckdpejdnejhfaaGreatZm
/- House: close, the walk. -/
set_option linter.all false
namespace Go.Proofs.YtckdpejdnejhfaaGreat.Ho
open Go.RowKit
open Go.Proofs.YtckdpejdnejhfaaGreat.Vb Go.Proofs.YtckdpejdnejhfaaGreat.Ac

theorem et_sales : ElemT Tryz.prog 79 151 7 56 := elemT_of Tryz.underlying79 (by omega) (z := .agg #[.int .i64 0, .int .i64 0, .int .i64 0, .int .i64 0, .int .u32 0, .int .i64 0, .int .i64 0]) (by kernel_rfl) rfl
theorem StandsAt.form {W : World} {T : Nat → Part} {R : Nat → Prop} {v : Value} {ss : List Stand} (h : StandsAt W T R v ss) : ∃ A c, v = .slice A ss.length c := by
  obtain ⟨_, h, _⟩ := h
  exact h.form
theorem sl_sale {W : World} {R : Nat → Prop} {A : Option Addr} {n c : Nat} {ss : List SaleR} (h : Sl W R (.slice A n c) n 7 (ss.flatMap SaleR.cells)) {k : Nat} {s : SaleR} (hk : ss[k]? = some s) (hkn : k < n) :
    ∃ b off, A = some ⟨b, off, none⟩ ∧ R b ∧ b < W.heap.size ∧ ∀ i u, s.cells[i]? = some u → W.cell? ⟨b, off + k * 7 + i, none⟩ = some u := by
  obtain ⟨_, A', c', hv, _, _, hcs⟩ := h
  injection hv with hA _ _
  subst hA
  obtain ⟨b, off, hA, hR, hlt2, hcc⟩ := hcs (by omega)
  refine ⟨b, off, hA, hR, hlt2, fun i u hu => ?_⟩
  rw [show off + k * 7 + i = off + (k * 7 + i) by omega]
  have hi : i < 7 := by
    have := (List.getElem?_eq_some_iff.1 hu).1
    simpa [SaleR.cells] using this
  exact hcc _ _ ((saleCells_at hk hi).trans hu)
theorem take_one {b m n : Nat} {a : Acc} {w : World} (h : AccAt w b m n a) (ho : a.Ok) (v : Int) : Calls Tryz.prog 149 #[.pointer (some ⟨b, 0, none⟩), .int .i64 v] w fun e w' =>
    (∃ er, e = .returned (.int .i64 er)) ∧ AccAt w' b m n (takeA a v) ∧ Chg (· = b) w w' := by
  refine (take_live h ho (v := v)).mono ?_
  rintro e w' (⟨h1, rfl, hb⟩ | ⟨h1, rfl, hA, hc⟩)
  · refine ⟨⟨_, rfl⟩, ?_, Chg.of _ hb⟩
    rw [takeA, if_neg h1]; exact h.grow hb
  · refine ⟨⟨_, rfl⟩, ?_, hc⟩
    rw [takeA, if_pos h1]; exact hA
/-- behind k sales -/
def midH (H : House) (j : Nat) (l : LotS) (sales : List SaleR) (k : Nat) : House :=
  { H with accs := payAll (relAll j H.accs l.stands) (sales.take k), sales := H.sales ++ (sales.take k).map (stampS H j) }
set_option maxRecDepth 100000 in
set_option maxHeartbeats 8000000 in
theorem hclose_any {W : World} {T : Nat → Part} {h pn pc K : Nat} {va vl vb vs : Value} {H : House} (hH : HouseAt W T h pn pc va vl vb vs K H) {j : Nat} {l : LotS} (hl : H.lots[j]? = some l) (hst : ∀ s ∈ l.stands, 0 ≤ s.bidder ∧ s.bidder < H.accs.length)
    {sales : List SaleR} {R : Nat → Prop} {A : Option Addr} {c : Nat} (hx : Sl W R (.slice A sales.length c) sales.length 7 (sales.flatMap SaleR.cells)) (hR : ∀ b, R b → T b = .no) (hsa : ∀ s ∈ sales, 0 ≤ s.bidder ∧ s.bidder < H.accs.length)
    (hok : AccsOk H.accs) (hK : K + l.stands.length < maxLen) (hsm : H.sales.length + sales.length ≤ 1000000) (hjm : j ≤ 4096) :
    Calls Tryz.prog 125 #[.pointer (some ⟨h, 0, none⟩), .int .i64 j, .slice A sales.length c] W fun e W' => e = .returned (.tuple #[]) ∧ ∃ T', HouseIn W' T' h (K + l.stands.length) (closeH H j l sales) ∧ Moves W T W' T' := by
  obtain ⟨bl, hrow, hls⟩ := hH.lots
  have hjl := (List.getElem?_eq_some_iff.1 hl).1
  have c2 := hH.cells.2.2.1
  have hh := hH.cells.2.2.2.2.2.2
  obtain ⟨q, cap, hvl, _, hq, _⟩ := hrow.ex (by omega)
  have q0 : W.cell? ⟨q, j, none⟩ = some (.pointer (some ⟨bl j, 0, none⟩)) := by
    have := hrow.own
    rw [hvl] at this
    exact (this.cellAt j (by omega)).trans (ptrs_at hjl)
  rw [hvl] at c2
  obtain ⟨v, hTb, hblk, hsta⟩ := hls j l hl
  obtain ⟨sA, sc, hsv⟩ := hsta.form
  subst hsv
  have l14 : W.cell? ⟨bl j, 14, none⟩ = some (.slice sA l.stands.length sc) := hblk.cell 14
  have lb := hblk.lt
  have e1 : (0 : Int) ≤ (j : Int) := by omega
  obtain ⟨nl, hnl⟩ : ∃ z, z = H.lots.length := ⟨_, rfl⟩
  rw [← hnl] at c2 hjl
  have e2 : (j : Int) < (nl : Int) := by omega
  obtain ⟨n, hn⟩ : ∃ z, z = l.stands.length := ⟨_, rfl⟩
  obtain ⟨m, hm⟩ : ∃ z, z = sales.length := ⟨_, rfl⟩
  rw [← hn] at l14 hK hsta ⊢
  rw [← hm] at hx hsm ⊢
  have HH := Lib.hid hH
  have HL := Lib.hid hl
  have HST := Lib.hid hst
  have HX := Lib.hid hx
  have HRN := Lib.hid hR
  have HSA := Lib.hid hsa
  have HOK := Lib.hid hok
  have HK := Lib.hid hK
  have HSM := Lib.hid hsm
  have HJM := Lib.hid hjm
  have HROW := Lib.hid hrow
  have HLS := Lib.hid hls
  have HVL := Lib.hid hvl
  have HN := Lib.hid hn
  have HM := Lib.hid hm
  have HNL := Lib.hid hnl
  have HSTA := Lib.hid hsta
  have HTB := Lib.hid hTb
  have HBLK := Lib.hid hblk
  clear hH hl hst hx hR hsa hok hK hsm hjm hrow hls hvl hn hm hnl hsta hTb hblk hjl
  go_enter Tryz.func125, Tryz.ntmps125
  go_wp2_with fail
  have e4 : (0 : Int) ≤ (n : Int) := by omega
  go_loopw [24] (fun i wr => ∃ k : Nat, k ≤ n ∧ i = .int .i64 k ∧ AccsAt wr T va (K + k) (relAll j H.accs (l.stands.take k)) ∧ Chg (fun b => ∃ i, T b = .acc i) W wr) (fun i _ => n - (intOf i).toNat)
  case atStart => exact ⟨0, Nat.zero_le _, rfl, HH.out.accs, Chg.refl _ _⟩
  case round =>
    obtain ⟨k, hk, rfl, hac, hc⟩ := hrel
    by_cases hlt : k < n
    · obtain ⟨s, hs⟩ : ∃ s, l.stands[k]? = some s := ⟨_, List.getElem?_eq_getElem (by rw [← HN.out]; exact hlt)⟩
      have hsm := List.mem_of_getElem? hs
      obtain ⟨sq, scap, uA, uc, hsv, _, hsq, d0, d1, d2, _⟩ := StandsAt.at_ (HSTA.out.step (T' := T) hc (fun x hx => by rcases hx with e | e <;> rintro ⟨i, k⟩ <;> rw [e] at k <;> cases k) fun _ _ => rfl) hs
      injection hsv with hv1 hv2 hv3
      subst hv1 hv3
      clear hv2
      have e5 : (0 : Int) ≤ (k : Int) := by omega
      have e6 : (k : Int) < (n : Int) := by omega
      have hb := HST.out s hsm
      obtain ⟨i, hi⟩ : ∃ i : Nat, s.bidder = i := ⟨s.bidder.toNat, by omega⟩
      rw [hi] at d0 hb
      have hil : i < H.accs.length := by omega
      obtain ⟨acs, hacs⟩ : ∃ z, z = relAll j H.accs (l.stands.take k) := ⟨_, rfl⟩
      have hlen : acs.length = H.accs.length := by rw [hacs]; exact relAll_len _ _ _
      have hnx : relAll j H.accs (l.stands.take (k + 1)) = relAcc j acs s := by rw [take_succ' hs, relAll_snoc, ← hacs]
      rw [← hacs] at hac
      obtain ⟨a, ha⟩ : ∃ a, acs[i]? = some a := ⟨_, List.getElem?_eq_getElem (by omega)⟩
      have hnx2 : relAcc j acs s = acs.set i (a.set j 0) := by unfold relAcc; rw [hi]; exact modify_set _ ha
      obtain ⟨ba, ma, hro, has⟩ := hac
      obtain ⟨g, gcap, hva, _, hg, _⟩ := hro.ex (by omega)
      have g0 : wr.cell? ⟨g, i, none⟩ = some (.pointer (some ⟨ba i, 0, none⟩)) := by
        have := hro.own
        rw [hva] at this
        exact (this.cellAt i (by omega)).trans (ptrs_at (by omega))
      have c1 : wr.cell? ⟨h, 1, none⟩ = some va := (hc.cell (p := ⟨h, 1, none⟩) hh (fun ⟨i, e⟩ => by have := HH.out.top; rw [this] at e; cases e)).trans HH.out.cells.2.1
      rw [hva] at c1
      obtain ⟨na, hna⟩ : ∃ z, z = acs.length := ⟨_, rfl⟩
      rw [← hna] at c1
      have e7 : (0 : Int) ≤ (i : Int) := by omega
      have e8 : (i : Int) < (na : Int) := by omega
      have hhr : h < wr.heap.size := Nat.lt_of_lt_of_le hh hc.size
      have HC := Lib.hid hc
      have HNX := Lib.hid (hnx.trans hnx2)
      have HAC := Lib.hid (has i a ha)
      have HAS := Lib.hid has
      have HRO := Lib.hid hro
      have HVA := Lib.hid hva
      have HIL := Lib.hid (show i < acs.length by omega)
      clear hc hs hsm hi hb hil hacs hlen hnx hnx2 ha hro has hva hna
      obtain ⟨sh, hsh⟩ : ∃ z, z = s.held := ⟨_, rfl⟩
      rw [← hsh] at d2
      obtain ⟨un, hun⟩ : ∃ z, z = s.offers.length := ⟨_, rfl⟩
      rw [← hun] at d1
      clear hsh hun
      obtain ⟨w1, hw1⟩ : ∃ w1, w1 = wr.alloc (.cells #[.int .i64 i, .slice uA un uc, .int .i64 sh] 188) := ⟨_, rfl⟩
      have hb1 : Below wr.heap.size wr w1 := by rw [hw1]; exact (Below.refl _ _).alloc (Nat.le_refl _) _
      have HB1 := Lib.hid hb1
      have x0 : w1.cell? ⟨wr.heap.size, 0, none⟩ = some (.int .i64 i) := by
        have : Blk w1 wr.heap.size 188 #[.int .i64 i, .slice uA un uc, .int .i64 sh] := by rw [hw1]; exact Blk.new _ _ _
        exact this.cell 0
      have xl : wr.heap.size < w1.heap.size := by rw [hw1]; simp
      have g1 : w1.cell? ⟨g, i, none⟩ = some (.pointer (some ⟨ba i, 0, none⟩)) := (hb1.cell (p := ⟨g, i, none⟩) hg).trans g0
      have gl1 : g < w1.heap.size := Nat.lt_of_lt_of_le hg hb1.size
      have c11 : w1.cell? ⟨h, 1, none⟩ = some (.slice (some ⟨g, 0, none⟩) na gcap) := (hb1.cell (p := ⟨h, 1, none⟩) hhr).trans c1
      have hh1 : h < w1.heap.size := Nat.lt_of_lt_of_le hhr hb1.size
      clear hb1 g0 c1 hhr hg
      go_wp2_with fail
      rw [← hw1]
      clear hw1
      refine wp_region_F (Below w1.heap.size w1) [10] (by kernel_rfl) ((Below.refl _ _).drew) (fun hS => ?_)
      refine Vb.tpD [1, 2, 3, 4, 7, 8, 10] 0 hS ?_
      refine Vb.tpD [2, 3, 4, 7, 8, 10] 1 hS ?_
      refine Vb.tpD [3, 4, 7, 8, 10] 2 hS ?_
      refine Vb.tpD [4, 7, 8, 10] 3 hS ?_
      have qq := Lib.hid fun (w' : World) (hSw : (Below w1.heap.size w1) w') => And.intro ((hSw.cell (p := ⟨wr.heap.size, 0, none⟩) xl).trans x0) <| And.intro ((hSw.cell (p := ⟨h, 1, none⟩) hh1).trans c11) <| (hSw.cell (p := ⟨g, i, none⟩) gl1).trans g1
      refine Vb.tlD [7, 8, 10] 4 hS qq ?_
      refine Vb.tpD [6, 7, 8, 10] 5 hS ?_
      refine Vb.tlD [7, 8, 10] 6 hS qq ?_
      refine Vb.tpD [8, 10] 7 hS ?_
      refine Vb.tl 8 hS qq ?_
      refine Vb.tp 9 hS ?_
      refine Vb.stf 10 fun K hK => ?_
      go_simp
      refine (release_live (w := w1.drew) (((HAC.out.1.grow HB1.out)).grow (Below.refl _ _).drew) (by have := HK.out; omega) (x := (j : Int)) (by have := HJM.out; omega)).mono ?_
      rintro e W3 (⟨h1, _⟩ | ⟨_, rfl, hA3, hc3⟩)
      · omega
      have HA3 := Lib.hid hA3
      have HC3 := Lib.hid hc3
      clear hA3 hc3
      refine hK.out _ _ ?_
      clear hK K
      try simp only [Act.put, pb, pz, ps]
      refine wpAnyF_done (by kernel_rfl) ?_ _
      clear hS x0 g1 c11 xl gl1 hh1
      have hwr : IntKind.i64.wrap ((k : Int) + 1) = (k : Int) + 1 := IntWalk.i64_in _ (by have := HK.out; unfold maxLen at this; omega)
      go_wp2_with fail
      go_roundw
      case rel =>
        refine ⟨k + 1, by omega, by go_num, ?_, ?_⟩
        · have hcB : Chg (fun b => T b = .acc i) wr W3 := ((Chg.of _ HB1.out).grow (Below.refl _ _).drew).step HC3.out fun b _ e => e ▸ HAC.out.2.2
          rw [HNX.out]
          exact accs_upd HRO.out HAS.out HIL.out (by omega) HA3.out hcB
        · exact ((HC.out.grow HB1.out).grow (Below.refl _ _).drew).step HC3.out fun b _ e => ⟨i, e ▸ HAC.out.2.2⟩
      case measure => simp [intOf]; omega
    · obtain rfl : k = n := by omega
      have hall : l.stands.take k = l.stands := List.take_of_length_le (by have := HN.out; omega)
      rw [hall] at hac
      have h0 : HouseAt wr T h pn pc va vl vb vs (K + k) (midH H j l sales 0) := by
        have := house_accs HH.out hac hc
        simpa [midH, payAll] using this
      have HH0 := Lib.hid h0
      have HC0 := Lib.hid (hc.mono (Y := fun b => T b = .sales ∨ T b = .hs ∨ ∃ i, T b = .acc i) fun b _ e => .inr (.inr e))
      clear hall h0 hac hc hk hlt
      go_wp2_with fail
      have e9 : (0 : Int) ≤ (m : Int) := by omega
      go_loopw [42] (fun i wz => ∃ q : Nat, q ≤ m ∧ i = .int .i64 q ∧ ∃ Tk vsk, HouseAt wz Tk h pn pc va vl vb vsk (K + k) (midH H j l sales q) ∧ Chg (fun b => T b = .sales ∨ T b = .hs ∨ ∃ i, T b = .acc i) W wz ∧ ∀ b, b < W.heap.size → Tk b = T b) (fun i _ => m - (intOf i).toNat)
      case atStart => exact ⟨0, Nat.zero_le _, rfl, T, vs, HH0.out, HC0.out, fun _ _ => rfl⟩
      case round =>
        obtain ⟨x, hx, rfl, Tk, vsk, hA, hc, hT⟩ := hrel
        by_cases hlt : x < m
        · obtain ⟨s, hs⟩ : ∃ s, sales[x]? = some s := ⟨_, List.getElem?_eq_getElem (by rw [← HM.out]; exact hlt)⟩
          have hsm := List.mem_of_getElem? hs
          have hno : ∀ b, b < W.heap.size → R b → ¬ (T b = .sales ∨ T b = .hs ∨ ∃ i, T b = .acc i) := by
            rintro b _ hr (k | k | ⟨i, k⟩) <;> rw [HRN.out b hr] at k <;> cases k
          obtain ⟨xb, off, rfl, _, hxb, hcc⟩ := sl_sale (HX.out.keep hc.size fun b hb hr => hc.block b hb (hno b hb hr)) hs hlt
          have hb := HSA.out s hsm
          obtain ⟨i, hi⟩ : ∃ i : Nat, s.bidder = i := ⟨s.bidder.toNat, by omega⟩
          have d0 : wr.cell? ⟨xb, off + x * 7, none⟩ = some (.int .i64 s.number) := hcc 0 _ rfl
          have d1 : wr.cell? ⟨xb, off + x * 7 + 1, none⟩ = some (.int .i64 s.lot) := hcc 1 _ rfl
          have d2 : wr.cell? ⟨xb, off + x * 7 + 2, none⟩ = some (.int .i64 s.bidder) := hcc 2 _ rfl
          have d3 : wr.cell? ⟨xb, off + x * 7 + 3, none⟩ = some (.int .i64 s.coins) := hcc 3 _ rfl
          have d4 : wr.cell? ⟨xb, off + x * 7 + 4, none⟩ = some (.int .u32 s.goods) := hcc 4 _ rfl
          have d5 : wr.cell? ⟨xb, off + x * 7 + 5, none⟩ = some (.int .i64 s.count) := hcc 5 _ rfl
          have d6 : wr.cell? ⟨xb, off + x * 7 + 6, none⟩ = some (.int .i64 s.tick) := hcc 6 _ rfl
          rw [hi] at hb d2
          obtain ⟨M1, hM1⟩ : ∃ z, z = midH H j l sales x := ⟨_, rfl⟩
          have hMn : midH H j l sales (x + 1) = { M1 with accs := payAcc M1.accs s, sales := M1.sales ++ [stampS H j s] } := by
            rw [hM1]; unfold midH; rw [take_succ' hs, payAll_snoc, List.map_append, List.append_assoc]; rfl
          have hlen : M1.accs.length = H.accs.length := by rw [hM1]; exact (payAll_len _ _).trans (relAll_len _ _ _)
          have hokM : AccsOk M1.accs := by rw [hM1]; exact payAll_ok _ _ (relAll_ok (by have := HJM.out; omega) _ _ HOK.out)
          have hbk : M1.book = H.book ∧ M1.now = H.now := by rw [hM1]; exact ⟨rfl, rfl⟩
          have hsl : M1.sales.length = H.sales.length + x := by rw [hM1]; simp [midH]; have := HM.out; omega
          rw [← hM1] at hA
          obtain ⟨a, ha⟩ : ∃ a, M1.accs[i]? = some a := ⟨_, List.getElem?_eq_getElem (by omega)⟩
          have hpa : payAcc M1.accs s = M1.accs.set i (takeA a s.coins) := by unfold payAcc; rw [hi]; exact modify_set _ ha
          obtain ⟨ba, ma, hro, has⟩ := hA.accs
          obtain ⟨g, gcap, hva, _, hg, _⟩ := hro.ex (by omega)
          have g0 : wr.cell? ⟨g, i, none⟩ = some (.pointer (some ⟨ba i, 0, none⟩)) := by
            have := hro.own
            rw [hva] at this
            exact (this.cellAt i (by omega)).trans (ptrs_at (by omega))
          have c1 := hA.cells.2.1
          rw [hva] at c1
          obtain ⟨na, hna⟩ : ∃ z, z = M1.accs.length := ⟨_, rfl⟩
          rw [← hna] at c1
          have e7 : (0 : Int) ≤ (i : Int) := by omega
          have e8 : (i : Int) < (na : Int) := by omega
          have e5 : (0 : Int) ≤ (x : Int) := by omega
          have e6 : (x : Int) < (m : Int) := by omega
          have hhr := hA.cells.2.2.2.2.2.2
          have HA := Lib.hid hA
          have HC := Lib.hid hc
          have HT := Lib.hid hT
          have HMN := Lib.hid (hMn.trans (by rw [hpa]))
          have HAC := Lib.hid (has i a ha)
          have HAO := Lib.hid (hokM a (List.mem_of_getElem? ha)).1
          have HAS := Lib.hid has
          have HRO := Lib.hid hro
          have HIL := Lib.hid (show i < M1.accs.length by omega)
          have HBK := Lib.hid hbk
          have HSL := Lib.hid hsl
          have HSB := Lib.hid hi
          obtain ⟨tn, hnu⟩ : ∃ z, z = s.number := ⟨_, rfl⟩
          obtain ⟨tl, hlo⟩ : ∃ z, z = s.lot := ⟨_, rfl⟩
          obtain ⟨tc, hco⟩ : ∃ z, z = s.coins := ⟨_, rfl⟩
          obtain ⟨tg, hgo⟩ : ∃ z, z = s.goods := ⟨_, rfl⟩
          obtain ⟨tt, hct⟩ : ∃ z, z = s.count := ⟨_, rfl⟩
          obtain ⟨tk, htk⟩ : ∃ z, z = s.tick := ⟨_, rfl⟩
          rw [← hnu] at d0
          rw [← hlo] at d1
          rw [← hco] at d3
          rw [← hgo] at d4
          rw [← hct] at d5
          rw [← htk] at d6
          have HCO := Lib.hid hco
          have HGO := Lib.hid hgo
          have HCT := Lib.hid hct
          clear hA hc hT hs hsm hno hcc hb hi hM1 hMn hlen hokM hbk hsl ha hpa hro has hva hna hnu hlo hco hgo hct htk
          obtain ⟨w1, hw1⟩ : ∃ w1, w1 = wr.alloc (.cells #[.int .i64 tn, .int .i64 tl, .int .i64 i, .int .i64 tc, .int .u32 tg, .int .i64 tt, .int .i64 tk] 151) := ⟨_, rfl⟩
          have hb1 : Below wr.heap.size wr w1 := by rw [hw1]; exact (Below.refl _ _).alloc (Nat.le_refl _) _
          have HB1 := Lib.hid hb1
          have HX1 := Lib.hid (show Blk w1 wr.heap.size 151 #[.int .i64 tn, .int .i64 tl, .int .i64 i, .int .i64 tc, .int .u32 tg, .int .i64 tt, .int .i64 tk] by rw [hw1]; exact Blk.new _ _ _)
          have x2 : w1.cell? ⟨wr.heap.size, 2, none⟩ = some (.int .i64 i) := HX1.out.cell 2
          have x3 : w1.cell? ⟨wr.heap.size, 3, none⟩ = some (.int .i64 tc) := HX1.out.cell 3
          have xl := HX1.out.lt
          have g1 : w1.cell? ⟨g, i, none⟩ = some (.pointer (some ⟨ba i, 0, none⟩)) := (hb1.cell (p := ⟨g, i, none⟩) hg).trans g0
          have gl1 : g < w1.heap.size := Nat.lt_of_lt_of_le hg hb1.size
          have c11 : w1.cell? ⟨h, 1, none⟩ = some (.slice (some ⟨g, 0, none⟩) na gcap) := (hb1.cell (p := ⟨h, 1, none⟩) hhr).trans c1
          have hh1 : h < w1.heap.size := Nat.lt_of_lt_of_le hhr hb1.size
          clear hb1 g0 c1 hhr hg
          go_wp2_with fail
          rw [← hw1]
          clear hw1
          refine wp_region_F (Below w1.heap.size w1) [11] (by kernel_rfl) ((Below.refl _ _).drew) (fun hS => ?_)
          refine Vb.tpD [1, 2, 3, 4, 7, 8, 11] 0 hS ?_
          refine Vb.tpD [2, 3, 4, 7, 8, 11] 1 hS ?_
          refine Vb.tpD [3, 4, 7, 8, 11] 2 hS ?_
          refine Vb.tpD [4, 7, 8, 11] 3 hS ?_
          have qq := Lib.hid fun (w' : World) (hSw : (Below w1.heap.size w1) w') => And.intro ((hSw.cell (p := ⟨wr.heap.size, 2, none⟩) xl).trans x2) <| And.intro ((hSw.cell (p := ⟨wr.heap.size, 3, none⟩) xl).trans x3) <| And.intro ((hSw.cell (p := ⟨h, 1, none⟩) hh1).trans c11) <| (hSw.cell (p := ⟨g, i, none⟩) gl1).trans g1
          refine Vb.tlD [7, 8, 11] 4 hS qq ?_
          refine Vb.tpD [6, 7, 8, 11] 5 hS ?_
          refine Vb.tlD [7, 8, 11] 6 hS qq ?_
          refine Vb.tpD [8, 11] 7 hS ?_
          refine Vb.tl 8 hS qq ?_
          refine Vb.tpD [10, 11] 9 hS ?_
          refine Vb.tl 10 hS qq ?_
          refine Vb.stf 11 fun K hK => ?_
          go_simp
          refine (take_one (w := w1.drew) (((HAC.out.1.grow HB1.out)).grow (Below.refl _ _).drew) HAO.out tc).mono ?_
          rintro e W3 ⟨⟨er, rfl⟩, hA3, hc3⟩
          have HA3 := Lib.hid hA3
          have HC3 := Lib.hid (show Chg (fun b => b = ba i) w1 W3 from ((Chg.refl _ w1).grow (Below.refl _ _).drew).trans hc3)
          clear hA3 hc3
          refine hK.out _ _ ?_
          clear hK K
          try simp only [Act.put, pb, pz, ps]
          refine wpAnyF_done (by kernel_rfl) ?_ _
          clear hS x2 x3 g1 c11 xl gl1 hh1
          have hcB : Chg (fun b => Tk b = .acc i) wr W3 := (Chg.of _ HB1.out).step HC3.out fun b _ e => e ▸ HAC.out.2.1
          have hA3 := house_accs HA.out (accs_upd HRO.out HAS.out HIL.out (Nat.le_refl _) HA3.out hcB) (hcB.mono fun b _ e => ⟨i, e⟩)
          have hX3 := HX1.out.chg HC3.out (fun e => by have := HAC.out.1.ltb; omega)
          obtain ⟨vo, hbrow, _⟩ := hA3.book
          obtain ⟨bA, bc, hvb⟩ := hbrow.form
          have c4 := hA3.cells.2.2.2.2.1
          rw [hvb, show ({ M1 with accs := M1.accs.set i (takeA a tc) } : House).book.length = H.book.length from by rw [← HBK.out.1]] at c4
          obtain ⟨nb, hnb⟩ : ∃ z, z = H.book.length := ⟨_, rfl⟩
          rw [← hnb] at c4
          have c3 := hA3.cells.2.2.2.1
          have hh3 := hA3.cells.2.2.2.2.2.2
          have HCAL := Lib.hid (show CalAt W3 (fun b => Tk b = .cal) pc H.now _ from by have := hA3.cal; rwa [show ({ M1 with accs := M1.accs.set i (takeA a tc) } : House).now = H.now from HBK.out.2] at this)
          have HH3 := Lib.hid hA3
          have HX3 := Lib.hid hX3
          have HCB := Lib.hid hcB
          have HNB := Lib.hid hnb
          have y0 : W3.cell? ⟨wr.heap.size, 0, none⟩ = some (.int .i64 tn) := hX3.cell 0
          have y1 : W3.cell? ⟨wr.heap.size, 1, none⟩ = some (.int .i64 tl) := hX3.cell 1
          have y6 : W3.cell? ⟨wr.heap.size, 6, none⟩ = some (.int .i64 tk) := hX3.cell 6
          have f0 := hX3.frozen 0
          have f1 := hX3.frozen 1
          have f6 := hX3.frozen 6
          have xl := hX3.lt
          obtain ⟨now, hnow⟩ : ∃ z, z = H.now := ⟨_, rfl⟩
          rw [← hnow] at HCAL
          have HNOW := Lib.hid hnow
          clear hcB hA3 hX3 hbrow hvb hnb hnow
          go_wp2_with fail
          refine wp_region_F (Below W3.heap.size W3) [6, 14, 15, 16, 17, 18] (by kernel_rfl) ((Below.refl _ _).drew) (fun hS => ?_)
          refine Vb.tpW 6 ?_
          refine Vb.tpD [1, 2, 3, 4, 5, 13, 14, 15, 16, 17, 18] 0 hS ?_
          refine Vb.tpD [2, 3, 4, 5, 13, 14, 15, 16, 17, 18] 1 hS ?_
          refine Vb.tpD [3, 4, 5, 13, 14, 15, 16, 17, 18] 2 hS ?_
          refine Vb.tpD [4, 5, 13, 14, 15, 16, 17, 18] 3 hS ?_
          have qq := Lib.hid fun (w' : World) (hSw : (Below W3.heap.size W3) w') => And.intro ((hSw.cell (p := ⟨h, 3, none⟩) hh3).trans c3) <| (hSw.cell (p := ⟨h, 4, none⟩) hh3).trans c4
          refine Vb.tlD [5, 13, 14, 15, 16, 17, 18] 4 hS qq ?_
          refine Vb.tpD [13, 14, 15, 16, 17, 18] 5 hS ?_
          refine Vb.tpD [8, 9, 10, 11, 12, 14, 15, 16, 17, 18] 7 hS ?_
          refine Vb.tpD [9, 10, 11, 12, 14, 15, 16, 17, 18] 8 hS ?_
          refine Vb.tpD [10, 11, 12, 14, 15, 16, 17, 18] 9 hS ?_
          refine Vb.tpD [11, 12, 14, 15, 16, 17, 18] 10 hS ?_
          refine Vb.tlD [12, 14, 15, 16, 17, 18] 11 hS qq ?_
          refine Vb.tpD [14, 15, 16, 17, 18] 13 hS ?_
          refine Vb.stp 12 fun K hK => ?_
          go_simp
          refine (tnow_any (W := W3.drew) (HCAL.out.grow (Below.refl _ _).drew)).mono ?_
          rintro e W7 ⟨rfl, rfl⟩
          refine hK.out _ _ ?_ (fun hS => ?_)
          · exact hS
          clear hK K
          try simp only [Act.put, pb, pz, ps]
          refine Vb.stf 14 fun K hK => ?_
          go_simp
          refine hK.out _ _ ?_
          clear hK K
          try simp only [Act.put, pb, pz, ps]
          refine Vb.tpW 15 ?_
          refine Vb.stf 16 fun K hK => ?_
          go_simp
          refine hK.out _ _ ?_
          clear hK K
          try simp only [Act.put, pb, pz, ps]
          refine Vb.tpW 17 ?_
          refine Vb.stf 18 fun K hK => ?_
          go_simp
          refine hK.out _ _ ?_
          clear hK K
          try simp only [Act.put, pb, pz, ps]
          refine wpAnyF_done (by kernel_rfl) ?_ _
          clear hS y0 y1 y6 f0 f1 f6 c3 c4 hh3
          obtain ⟨W4, hW4⟩ : ∃ W4, W4 = (((W3.setCell ⟨wr.heap.size, 0, none⟩ (.int .i64 nb)).setCell ⟨wr.heap.size, 1, none⟩ (.int .i64 j)).setCell ⟨wr.heap.size, 6, none⟩ (.int .i64 now)).drew := ⟨_, rfl⟩
          rw [← hW4]
          have hc34 : Chg (· = wr.heap.size) W3 W4 := by rw [hW4]; exact (((Chg.set W3 ⟨wr.heap.size, 0, none⟩ _).trans (Chg.set _ ⟨wr.heap.size, 1, none⟩ _)).trans (Chg.set _ ⟨wr.heap.size, 6, none⟩ _)).grow (Below.refl _ _).drew
          have hX4 : Blk W4 wr.heap.size 151 #[.int .i64 nb, .int .i64 j, .int .i64 i, .int .i64 tc, .int .u32 tg, .int .i64 tt, .int .i64 now] := by rw [hW4]; exact Blk.grow (((HX3.out.set_ 0 _).set_ 1 _).set_ 6 _) (Below.refl _ _).drew
          have hnw : Tk wr.heap.size = .no := HA.out.out _ (Nat.le_refl _)
          have hA4 := HH3.out.keep hc34 (fun b hb e => hb (e ▸ hnw))
          have c5 := hA4.cells.2.2.2.2.2.1
          have lh := hA4.cells.2.2.2.2.2.2
          have hrow := hA4.sales
          obtain ⟨As, cs, hvs⟩ := hrow.form
          subst hvs
          obtain ⟨ns, hns⟩ : ∃ z, z = M1.sales.length := ⟨_, rfl⟩
          rw [show ({ M1 with accs := M1.accs.set i (takeA a tc) } : House).sales.length = M1.sales.length from rfl, ← hns] at c5
          have hrow' : RowAt W4 (fun b => Tk b = .sales) 151 7 (.slice As ns cs) ns (M1.sales.flatMap SaleR.cells) := by rw [hns]; exact hrow
          have or1 : ¬ (Value.slice As ns cs).ownBlock = some h := fun e => by have h3 := hrow'.blk h e; rw [hA4.top] at h3; cases h3
          have ox1 : ¬ (Value.slice As ns cs).ownBlock = some wr.heap.size := fun e => by have h3 := hrow'.blk _ e; rw [hnw] at h3; cases h3
          have HOR := Lib.hid or1
          have HX4 := Lib.hid hX4
          have HH4 := Lib.hid hA4
          have HRW := Lib.hid hrow'
          have HNS := Lib.hid hns
          have HC34 := Lib.hid hc34
          have HNW := Lib.hid hnw
          clear hW4 hc34 hX4 hA4 hrow hrow' hns hnw
          go_wp2_with fail
          obtain ⟨arr, harr⟩ : ∃ z : Array Value, z = #[.int .i64 nb, .int .i64 j, .int .i64 i, .int .i64 tc, .int .u32 tg, .int .i64 tt, .int .i64 now] := ⟨_, rfl⟩
          have HARR := Lib.hid harr
          clear harr
          refine wp_region_F (Chg (fun b => (Value.slice As ns cs).ownBlock = some b) W4) [12] (by kernel_rfl) ((Chg.refl _ W4).grow (Below.refl _ _).drew) (fun hS => ?_)
          refine Vb.tp 0 hS ?_
          refine Vb.tp 1 hS ?_
          refine Vb.tp 2 hS ?_
          refine Vb.tp 3 hS ?_
          refine Vb.tp 4 hS ?_
          have qq := Lib.hid fun (w' : World) (hSw : (Chg (fun b => (Value.slice As ns cs).ownBlock = some b) W4) w') => (hSw.cell (p := ⟨h, 5, none⟩) lh or1).trans c5
          refine Vb.tl 5 hS qq ?_
          refine Vb.tx 6 (v := ?_) hS ?_ ?_
          rotate_left
          · intro w' hSw; refine Eq.trans (exec_load_row 151 (.tmp 10) (by rfl) wr.heap.size (by rfl) 151 #[.int .i64 nb, .int .i64 j, .int .i64 i, .int .i64 tc, .int .u32 tg, .int .i64 tt, .int .i64 now] (0, 0) _ (HX4.out.chg hSw ox1) Tryz.underlying151 rfl (by kernel_rfl)) ?_; with_reducible rfl
          refine Vb.stp 7 fun K hK => ?_
          go_simp
          refine hK.out _ _ ?_ (fun hS => ?_)
          · exact hS.grow ((Below.refl _ _).alloc (Nat.le_refl _) _)
          clear hK K
          try simp only [Act.put, pb, pz, ps]
          refine Vb.stp 8 fun K hK => ?_
          refine step_row (W4.drew.alloc (.cells #[.int .i64 nb, .int .i64 j, .int .i64 i, .int .i64 tc, .int .u32 tg, .int .i64 tt, .int .i64 now] 151)) (.tmp 79) (.tmp 81) rfl et_sales rfl (.slice As ns cs) ns (M1.sales.flatMap SaleR.cells) rfl ((HRW.out.grow (Below.refl _ _).drew).grow ((Below.refl _ _).alloc (Nat.le_refl _) _)) (.slice (some ⟨W4.heap.size, 0, none⟩) 1 1) 1 [.int .i64 nb, .int .i64 j, .int .i64 i, .int .i64 tc, .int .u32 tg, .int .i64 tt, .int .i64 now] rfl (Sl.lit1 (Blk.new W4.drew 151 #[.int .i64 nb, .int .i64 j, .int .i64 i, .int .i64 tc, .int .u32 tg, .int .i64 tt, .int .i64 now]) rfl) (by simp [Value.oneCell']) (by have := HNS.out; have := HSL.out; have := HSM.out; omega) (by have := HNS.out; have := HSL.out; have := HSM.out; unfold maxLen; omega) ?_
          intro A7 c7 Z hrZ hcZ
          refine hK.out _ _ ?_ (fun hS => ?_)
          · exact hS.trans hcZ
          clear hK K
          try simp only [Act.put, pb, pz, ps]
          have HHZ := Lib.hid (((HH4.out.blk.grow (Below.refl _ _).drew).alloc (.cells #[.int .i64 nb, .int .i64 j, .int .i64 i, .int .i64 tc, .int .u32 tg, .int .i64 tt, .int .i64 now] 151)).chg hcZ HOR.out)
          have HZR := Lib.hid hrZ
          have HZC := Lib.hid hcZ
          obtain ⟨U, hU⟩ : ∃ U, U = Z.setCell ⟨h, 5, none⟩ (.slice A7 (ns + 1) c7) := ⟨_, rfl⟩
          have HU := Lib.hid hU
          clear hrZ hcZ hU
          refine Vb.tpD [10, 11, 12] 9 hS ?_
          refine Vb.tpD [11, 12] 10 hS ?_
          refine Vb.tp 11 hS ?_
          refine Vb.stf 12 fun K hK => ?_
          have f5 := HHZ.out.frozen 5
          have d5 := HHZ.out.cell 5
          go_simp
          rw [← HU.out]
          refine hK.out _ _ ?_
          clear hK K
          try simp only [Act.put, pb, pz, ps]
          refine wpAnyF_done (by kernel_rfl) ?_ _
          clear hS c5 lh or1 ox1
          have hwr : IntKind.i64.wrap ((x : Int) + 1) = (x : Int) + 1 := IntWalk.i64_in _ (by have := HSM.out; omega)
          have hcU1 : Chg (· = h) Z U := by rw [HU.out]; exact Chg.set Z ⟨h, 5, none⟩ _
          have HBU := Lib.hid (show Blk U h 83 #[.pointer (some ⟨pn, 0, none⟩), va, vl, .pointer (some ⟨pc, 0, none⟩), vb, .slice A7 (ns + 1) c7] by rw [HU.out]; exact HHZ.out.set_ 5 _)
          have HCU := Lib.hid hcU1
          clear hcU1
          go_wp2_with fail
          go_roundw
          case rel =>
            have hA4 := HH4.out
            have hs4 := hA4.blk.lt
            have hcU : Chg (fun b => Tk b = .sales ∨ Tk b = .hs) W4 U := ((((Chg.refl _ W4).grow (Below.refl _ _).drew).grow ((Below.refl _ _).alloc (Nat.le_refl _) _)).step HZC.out fun b _ e => .inl (HRW.out.blk b e)).step HCU.out fun b _ e => .inr (e ▸ hA4.top)
            have hrowU : RowAt U (fun b => Tk b = .sales ∨ W4.heap.size ≤ b) 151 7 (.slice A7 (ns + 1) c7) (M1.sales.length + 1) (M1.sales.flatMap SaleR.cells ++ (stampS H j s).cells) := by
              have hce : (stampS H j s).cells = [.int .i64 nb, .int .i64 j, .int .i64 i, .int .i64 tc, .int .u32 tg, .int .i64 tt, .int .i64 now] := by
                rw [HNB.out, HCO.out, HGO.out, HCT.out, HNOW.out, ← HSB.out]; rfl
              rw [hce, ← HNS.out]
              refine (HZR.out.chgB HCU.out fun b hb e => ?_).mono fun b _ k => k.elim .inl fun k => .inr (by rw [World.size_alloc] at k; simp at k; omega)
              rcases HZR.out.blk b hb with k | k
              · rw [e, hA4.top] at k; cases k
              · rw [World.size_alloc] at k; simp at k; omega
            obtain ⟨T5, hA5, hM5⟩ := sales_end hA4 hrowU hcU HBU.out
            refine ⟨x + 1, by omega, by go_num, T5, .slice A7 (ns + 1) c7, ?_, ?_, fun b hb => (hM5.tag b (by have := HC.out.size; have := HB1.out.size; have := HC3.out.size; have := HC34.out.size; omega)).trans (HT.out b hb)⟩
            · rw [HMN.out, ← HCO.out]
              exact hA5
            · refine (((HC.out.grow HB1.out).step HC3.out fun b hb e => ?_).step HC34.out fun b hb e => ?_).step hcU fun b hb e => ?_
              · rw [← HT.out b hb, e]; exact .inr (.inr ⟨i, HAC.out.2.1⟩)
              · have := HC.out.size; omega
              · rw [← HT.out b hb]; exact e.elim .inl fun e => .inr (.inl e)
          case measure => simp [intOf]; omega
        · obtain rfl : x = m := by omega
          have hall : sales.take x = sales := List.take_of_length_le (by have := HM.out; omega)
          have hTn : ∀ b P, T b = P → (∀ i, P ≠ .acc i) → P ≠ .sales → P ≠ .hs → ¬ (T b = .sales ∨ T b = .hs ∨ ∃ i, T b = .acc i) := by
            rintro b P e h1 h2 h3 (k | k | ⟨i, k⟩) <;> rw [e] at k
            · exact h2 k
            · exact h3 k
            · exact h1 i k
          have hrz := RowAt.step HROW.out hc (fun b e => hTn b _ e (by simp) (by simp) (by simp)) hT
          have hlz : ∀ n x, H.lots[n]? = some x → LotAt wr Tk n (bl n) x := fun n x hn => (HLS.out n x hn).step hc (fun b e => by rcases e with e | e <;> exact hTn b _ e (by simp) (by simp) (by simp)) hT
          have hbz := HBLK.out.chg hc (hTn _ _ HTB.out (by simp) (by simp) (by simp))
          have f13 := hbz.frozen 13
          have f14 := hbz.frozen 14
          have l13 := hbz.cell 13
          have l14 := hbz.cell 14
          have HAZ := Lib.hid hA
          have HCZ := Lib.hid hc
          have HTZ := Lib.hid hT
          have HRZ := Lib.hid hrz
          have HLZ := Lib.hid hlz
          have HBZ := Lib.hid hbz
          have HALL := Lib.hid hall
          clear hA hc hT hrz hlz hbz hall hTn hx hlt
          go_wp2_with fail
          obtain ⟨U, hU⟩ : ∃ U, U = (wr.setCell ⟨bl j, 13, none⟩ (.bool true)).setCell ⟨bl j, 14, none⟩ (.slice none 0 0) := ⟨_, rfl⟩
          rw [← hU]
          go_end0
          have htag : Tk (bl j) = .lot j := (HTZ.out _ lb).trans HTB.out
          have hcU : Chg (fun b => Tk b = .lot j) wr U := by rw [hU]; exact ((Chg.set wr ⟨bl j, 13, none⟩ _).trans (Chg.set _ ⟨bl j, 14, none⟩ _)).mono fun b _ e => e ▸ htag
          have hbU : Blk U (bl j) 145 ((⟨l.put, l.closes, true, [], l.rise, l.price⟩ : LotS).cells (.slice none 0 0)).toArray := by rw [hU]; exact (HBZ.out.set_ 13 _).set_ 14 _
          have hfin := house_lot HAZ.out (bl := bl) HRZ.out HLZ.out (j := j) (List.getElem?_eq_some_iff.1 HL.out).1 (l := ⟨l.put, l.closes, true, [], l.rise, l.price⟩) ⟨.slice none 0 0, htag, hbU, ⟨fun _ => .slice none 0 0, RowAt.nil, fun k l hk => by simp at hk⟩⟩ hcU (fun _ _ => rfl) (fun b hb => HAZ.out.out b (Nat.le_trans hcU.size hb))
          refine ⟨rfl, Tk, ⟨pn, pc, va, vl, vb, vsk, ?_⟩, (HCZ.out.mono fun b _ e => ?_).step hcU fun b hb e => ?_, HTZ.out⟩
          · have hq : closeH H j l sales = { midH H j l sales x with lots := H.lots.set j ⟨l.put, l.closes, true, [], l.rise, l.price⟩ } := by
              unfold closeH midH
              rw [HALL.out]
            rw [hq]
            exact hfin
          · rcases e with e | e | ⟨i, e⟩ <;> exact ⟨by rw [e]; simp, by rw [e]; simp⟩
          · rw [HTZ.out b hb] at e
            exact ⟨by rw [e]; simp, by rw [e]; simp⟩
end Go.Proofs.YtckdpejdnejhfaaGreat.Ho
