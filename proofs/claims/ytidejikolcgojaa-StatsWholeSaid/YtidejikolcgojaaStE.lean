/- Stats: sums. (Printed by tools/gen_ste.py.) -/
import Derived.Test.YtidejikolcgojaaStD
namespace Go.Proofs.Ytidejikolcgojaa.St
open Go.RowKit Go.Shelf
open Go.Proofs.Ytidejikolcgojaa.Vb Go.Proofs.Ytidejikolcgojaa.Ac
attribute [local go_sem] run_fadd run_fsub run_fmul run_fdiv run_store_float

def foldF (fs : List Fl) : Fl × Fl := fs.foldl addF (some 0, some 0)
/-- the sum of a row, as it comes -/
def sumL (fs : List Fl) : Fl := fadd (foldF fs).1 (foldF fs).2
theorem foldF_snoc {fs : List Fl} {k : Nat} {f : Fl} (h : fs[k]? = some f) : foldF (fs.take (k + 1)) = addF (foldF (fs.take k)) f := by
  unfold foldF
  rw [List.take_add_one, h]
  simp [List.foldl_append]
/-- the function value g answers the numbers fs, place by place -/
def Giv (P : Program) (g : Nat) (cb : Array Value) (fs : List Fl) (w : World) : Prop :=
  ∀ (W : World) (i : Nat) (f : Fl), Below w.heap.size w W → fs[i]? = some f → Calls P g (#[.int .i64 i] ++ cb) W fun e W' => ∃ r, e = .returned (.float .f64 r) ∧ IsF r f ∧ Below W.heap.size W W'
theorem sum_any {fs : List Fl} {g : Nat} {cb : Array Value} {w : World} (hg : Giv Try.prog g cb fs w) (eg : ∀ args W, (callFunc g args).run Try.prog W = .ok (.enter g args) W) (hn : fs.length ≤ 9223372036854775807) :
    Calls Try.prog 31 #[.int .i64 fs.length, .func (.func g) #[] cb] w fun e w' => ∃ r, e = .returned (.float .f64 r) ∧ IsF r (sumL fs) ∧ Below w.heap.size w w' := by
  have HG := Lib.hid hg
  have HZ := Lib.hid (show sumL fs = fadd (foldF fs).1 (foldF fs).2 from rfl)
  obtain ⟨z, hz⟩ : ∃ z, z = sumL fs := ⟨_, rfl⟩
  rw [← hz] at HZ ⊢
  obtain ⟨U, hU⟩ : ∃ U, U = w.alloc (.cells #[.float .f64 0, .float .f64 0] 71) := ⟨_, rfl⟩
  have HU := Lib.hid (show AddAt U w.heap.size (foldF (fs.take 0)) from ⟨0, 0, by rw [hU]; exact Blk.new w _ _, zero_isF, zero_isF⟩)
  have HBU := Lib.hid (show Below w.heap.size w U by rw [hU]; exact (Below.refl _ _).alloc (Nat.le_refl _) _)
  clear hg hz
  go_enter Try.func31, Try.ntmps31
  go_wp2_with fail
  rw [← hU]
  clear hU
  go_loopw [8] (fun i wr => ∃ k : Nat, k ≤ fs.length ∧ i = .int .i64 k ∧ AddAt wr w.heap.size (foldF (fs.take k)) ∧ Below w.heap.size w wr) (fun i _ => fs.length - (intOf i).toNat)
  case atStart => exact ⟨0, Nat.zero_le _, rfl, HU.out, HBU.out⟩
  case round =>
    obtain ⟨k, hk, rfl, ha, hb⟩ := hrel
    have HA := Lib.hid ha
    have HB := Lib.hid hb
    have hsz := hb.size
    clear hb
    by_cases hlt : k < fs.length
    · obtain ⟨f, hf⟩ : ∃ f, fs[k]? = some f := ⟨_, List.getElem?_eq_getElem hlt⟩
      have HF := Lib.hid hf
      have HS := Lib.hid (foldF_snoc hf)
      have n1 : (k : Int) < (fs.length : Int) := by omega
      clear ha hf
      go_wp2_with fail
      refine (HG.out wr k f HB.out HF.out).mono ?_
      rintro e w1 ⟨r, rfl, hr, hb1⟩
      have HA1 := Lib.hid (show AddAt w1 w.heap.size (foldF (fs.take k)) from by
        obtain ⟨s, c, h1, h2, h3⟩ := HA.out
        exact ⟨s, c, h1.grow hb1, h2, h3⟩)
      have HR := Lib.hid hr
      have HB1 := Lib.hid (HB.out.trans (hb1.mono HB.out.size))
      clear hr hb1
      go_wp2_with fail
      refine (add_any HA1.out HR.out).mono ?_
      rintro e w2 ⟨rfl, ha2, hc2⟩
      have HA2 := Lib.hid ha2
      have HB2 := Lib.hid (HB1.out.trans (hc2.below (B := w.heap.size) HB1.out.size (fun k hk e => by omega)))
      clear ha2 hc2
      go_wp2_with fail
      go_roundw
      case rel => exact ⟨k + 1, by omega, by go_num, by rw [HS.out]; exact HA2.out, HB2.out⟩
      case measure => simp [intOf]; omega
    · obtain rfl : k = fs.length := by omega
      obtain ⟨s, c, h1, h2, h3⟩ := ha
      rw [List.take_length] at h2 h3
      have k0 : wr.cell? ⟨w.heap.size, 0, none⟩ = some (.float .f64 s) := h1.cell 0
      have k1 : wr.cell? ⟨w.heap.size, 1, none⟩ = some (.float .f64 c) := h1.cell 1
      have H2 := Lib.hid h2
      have H3 := Lib.hid h3
      clear h1 h2 h3 HA
      go_wp2_with fail
      go_ret
      exact ⟨_, rfl, by rw [HZ.out]; exact isF_add H2.out H3.out _, below_drewN HB.out _⟩

/-- a row's numbers -/
def nums (l : List Nat) : List Fl := l.map cn
theorem nums_at {l : List Nat} {k x : Nat} (h : l[k]? = some x) : (nums l)[k]? = some (cn x) := by
  unfold nums
  rw [List.getElem?_map, h]
  rfl
theorem nums_length (l : List Nat) : (nums l).length = l.length := List.length_map ..
end Go.Proofs.Ytidejikolcgojaa.St
