/- Law 17's own: stays. -/
import Derived.Test.YtcigobiolbojhaaGiv
namespace Go.Proofs.Ytcigobiolbojhaa.Vb
open Go.RowKit

set_option maxRecDepth 100000 in
set_option maxHeartbeats 1600000 in
theorem stays_any (n : Int) (bs : List (List Off)) (vy vx : Value) (lo : Nat) (R : Nat → Prop) (w : World) (hy : Giv w lo vy bs) (hx : Buys w R vx bs) (hsm : Small bs) :
    Calls Try.prog 19 #[.agg #[.int .i64 n, vy], .agg #[.int .i64 n, vx]] w fun e w' => e = .returned (.bool true) ∧ Below w.heap.size w w' := by
  have HGY := Lib.hid hy
  have HGX := Lib.hid hx
  have HSM := Lib.hid hsm.2
  have hlen64 := hsm.1
  obtain ⟨ws, hsy, hwy⟩ := hy
  obtain ⟨vs, ⟨hlen, A, cap, rfl, hncap, hcap, hcells⟩, hvs⟩ := hx
  obtain ⟨_, A', cap', rfl, hncap', hcap', hcells'⟩ := Sl.of_own hsy
  unfold maxLen at hcap hcap'
  have HC := Lib.hid hcells
  have HC' := Lib.hid hcells'
  have HV := Lib.hid hvs
  have HV' := Lib.hid hwy
  clear hcells hcells' hvs hwy hlen hsy hsm
  go_enter Try.func19, Try.ntmps19
  go_wp2
  go_loopw [5] (fun i wr => ∃ k : Nat, k ≤ bs.length ∧ i = .int .i64 k ∧ Below (w.heap.size + 2) ((w.alloc (.cells #[.int .i64 n, .slice A' bs.length cap'] 24)).alloc (.cells #[.int .i64 n, .slice A bs.length cap] 24)) wr) (fun i _ => bs.length - (intOf i).toNat)
  case atStart => exact ⟨0, Nat.zero_le _, rfl, Below.refl _ _⟩
  case round =>
    obtain ⟨k, hk, rfl, hb⟩ := hrel
    obtain ⟨cx0, cx1, cy0, cy1, fx, fy, hs, hbw⟩ := two_new hb
    have HB := Lib.hid hb
    have HBW := Lib.hid hbw
    by_cases hlt : k < bs.length
    · obtain ⟨bb, off, rfl, _, hbb, hcs⟩ := HC.out (by omega)
      obtain ⟨bb', off', rfl, _, hbb', hcs'⟩ := HC'.out (by omega)
      obtain ⟨l, ho⟩ : ∃ l, bs[k]? = some l := ⟨_, List.getElem?_eq_getElem hlt⟩
      have hll := HSM.out l (List.mem_of_getElem? ho)
      obtain ⟨u, hu, hol⟩ := HV.out k l ho
      obtain ⟨gb, gc, hgu, hgo, hgw⟩ := HV'.out k l ho
      have c0 := (hbw.cell hbb).trans (hcs _ _ hu)
      have d0 := (hbw.cell hbb').trans (hcs' _ _ hgu)
      obtain ⟨⟨_, A1, cap1, rfl, _⟩, _⟩ := hol
      obtain ⟨_, _, _, hv1, hnc1, hcm1, hcc1⟩ := Sl.of_own hgo
      injection hv1 with hA1 _ hc1
      subst hA1 hc1
      obtain ⟨b1, o1, hb1, _, hlt1, hcc⟩ := hcc1 (by omega)
      injection hb1 with hb1
      injection hb1 with hb1 ho1 _
      subst hb1 ho1
      have h77 : (Off.all (l ++ [⟨77, 0⟩]))[l.length * 2]? = some (.int .u32 77) := Off.all_fst (l ++ [⟨77, 0⟩]) l.length ⟨77, 0⟩ (by simp)
      have g77 := (hbw.cell (p := ⟨gb, 0 + l.length * 2, none⟩) hlt1).trans (hcc _ _ h77)
      have hwr : IntKind.i64.wrap ((l.length : Int) + 1) = l.length + 1 := IntWalk.i64_in _ (by omega)
      have hn0 : (0 : Int) ≤ (l.length : Int) := by omega
      have hn1 : (l.length : Int) + 1 ≤ (gc : Int) := by omega
      have hn2 : (0 : Int) ≤ (l.length : Int) + 1 := by omega
      have hn3 : ((l.length : Int) + 1).toNat = l.length + 1 := by omega
      have hn4 : (l.length : Int) < ((l.length + 1 : Nat) : Int) := by omega
      rw [Nat.zero_add] at g77
      clear hcs hcs' hu hgu hgo ho hcc hcc1 h77 hb hbw hgw
      go_wp2_with fail
      go_quiet (fail)
      go_wp2_with fail
      go_roundw
      case rel =>
        exact ⟨k + 1, by omega, by go_num, below_drewN HB.out _⟩
      case measure => simp [intOf]; omega
    · clear hb hbw
      go_wp2_with (go_at_call 83; refine (refSameInst_true n bs _ _ _ _ _ (HGY.out.buys.grow HBW.out) (HGX.out.grow HBW.out)).mono ?_; rintro e w1 ⟨rfl, hb1⟩)
      go_ret
      exact ⟨rfl, HBW.out.trans (hb1.mono HBW.out.size)⟩
end Go.Proofs.Ytcigobiolbojhaa.Vb
