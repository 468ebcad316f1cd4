/- Stats: floats in a walk: what an operation gives, wherever it stands; rows of floats. -/
import Derived.Test.YtidejikolcgojaaGreatStA
import Derived.Test.YtidejikolcgojaaGreatAccG
namespace Go.Proofs.YtidejikolcgojaaGreat.St
open Go.RowKit Go.Shelf
open Go.Proofs.YtidejikolcgojaaGreat.Vb Go.Proofs.YtidejikolcgojaaGreat.Ac

/-- the bits that an operation gives at a world -/
def aV (f : Nat → Nat → Option Nat) (x y : Nat) (w : World) : Nat := (f x y).getD (Question.cut (.nanBits .f64 x y) (w.tape w.drawn (.nanBits .f64 x y)))
def aN (f : Nat → Nat → Option Nat) (x y : Nat) : Nat := if (f x y).isSome then 0 else 1
theorem run_ar {P : Program} {f : Nat → Nat → Option Nat} {op : BinOp} (t : TypeId) (x y : Nat) (w : World) (h : (binOp op t (.float .f64 x) (.float .f64 y)) = (do match f x y with | some r => pure (.float .f64 r) | none => pure (.float .f64 (← choose (.nanBits .f64 x y))) : Sem Value)) :
    (binOp op t (.float .f64 x) (.float .f64 y)).run P w = .ok (.float .f64 (aV f x y w)) (w.drewN (aN f x y)) := by
  rw [h]
  unfold aV aN
  cases f x y with
  | some r => rfl
  | none => rfl
theorem run_fadd {P : Program} (t : TypeId) (x y : Nat) (w : World) : (binOp .add t (.float .f64 x) (.float .f64 y)).run P w = .ok (.float .f64 (aV Ieee.double.add x y w)) (w.drewN (aN Ieee.double.add x y)) := run_ar t x y w (by simp [binOp, Op.floatArith]; rfl)
theorem run_fsub {P : Program} (t : TypeId) (x y : Nat) (w : World) : (binOp .sub t (.float .f64 x) (.float .f64 y)).run P w = .ok (.float .f64 (aV Ieee.double.sub x y w)) (w.drewN (aN Ieee.double.sub x y)) := run_ar t x y w (by simp [binOp, Op.floatArith]; rfl)
theorem run_fmul {P : Program} (t : TypeId) (x y : Nat) (w : World) : (binOp .mul t (.float .f64 x) (.float .f64 y)).run P w = .ok (.float .f64 (aV Ieee.double.mul x y w)) (w.drewN (aN Ieee.double.mul x y)) := run_ar t x y w (by simp [binOp, Op.floatArith]; rfl)
theorem run_fdiv {P : Program} (t : TypeId) (x y : Nat) (w : World) : (binOp .quo t (.float .f64 x) (.float .f64 y)).run P w = .ok (.float .f64 (aV Ieee.double.div x y w)) (w.drewN (aN Ieee.double.div x y)) := run_ar t x y w (by simp [binOp, Op.floatArith]; rfl)

theorem run_store_float {P : Program} {w : World} {a : Addr} {m : Mode} (k : FloatKind) (b : Nat) : (store a (.float k b) m).run P w = stored P w a (.float k b) m := run_store P w a _ m rfl
theorem f64_lt (d : Ieee.Datum) : Ieee.double.write d < bits64 := by
  have := Ieee.Format.write_lt Ieee.double d
  have e : Ieee.double.width = 64 := by decide +kernel
  rw [e] at this
  exact this
theorem ar_lt {f : Nat → Nat → Option Nat} (hf : Ar f) {x y r : Nat} (h : f x y = some r) : r < bits64 := by
  have e : (2 : Nat) ^ Ieee.double.width = bits64 := by decide +kernel
  rw [← e]
  cases hf with
  | add => exact Ieee.Format.add_lt _ h
  | sub => exact Ieee.Format.sub_lt _ h
  | mul => exact Ieee.Format.mul_lt _ h
  | div => exact Ieee.Format.div_lt _ h
theorem nan_cut (x y t : Nat) : Question.cut (.nanBits .f64 x y) t < bits64 ∧ isN (Question.cut (.nanBits .f64 x y) t) = true := by
  have e : Question.cut (.nanBits .f64 x y) t = (t % 2) * 9223372036854775808 + 9218868437227405312 + 1 + (t / 2) % 4503599627370495 := rfl
  rw [e]
  clear e
  unfold isN bits64
  rw [decide_eq_true_eq]
  have h1 : t % 2 < 2 := Nat.mod_lt _ (by omega)
  have h2 : (t / 2) % 4503599627370495 < 4503599627370495 := Nat.mod_lt _ (by omega)
  generalize (t / 2) % 4503599627370495 = b at *
  generalize t % 2 = a at *
  omega
theorem isF_ar {f : Nat → Nat → Option Nat} (hf : Ar f) {x y : Nat} {a b : Fl} (hx : IsF x a) (hy : IsF y b) (w : World) : IsF (aV f x y w) (lift2 f a b) := by
  obtain ⟨_, rfl⟩ := hx
  obtain ⟨_, rfl⟩ := hy
  rw [← ar_cn hf]
  unfold aV
  cases h : f x y with
  | some r => exact ⟨ar_lt hf h, by unfold cn; rw [Option.getD_some, ar_num hf h]; rfl⟩
  | none =>
    obtain ⟨h1, h2⟩ := nan_cut x y (w.tape w.drawn (.nanBits .f64 x y))
    exact ⟨h1, by unfold cn; rw [Option.getD_none, h2]; rfl⟩
theorem isF_add {x y : Nat} {a b : Fl} (hx : IsF x a) (hy : IsF y b) (w : World) : IsF (aV Ieee.double.add x y w) (fadd a b) := isF_ar .add hx hy w
theorem isF_sub {x y : Nat} {a b : Fl} (hx : IsF x a) (hy : IsF y b) (w : World) : IsF (aV Ieee.double.sub x y w) (fsub a b) := isF_ar .sub hx hy w
theorem isF_mul {x y : Nat} {a b : Fl} (hx : IsF x a) (hy : IsF y b) (w : World) : IsF (aV Ieee.double.mul x y w) (fmul a b) := isF_ar .mul hx hy w
theorem isF_div {x y : Nat} {a b : Fl} (hx : IsF x a) (hy : IsF y b) (w : World) : IsF (aV Ieee.double.div x y w) (fdiv a b) := isF_ar .div hx hy w
theorem isF_self {x : Nat} (h : x < bits64) : IsF x (cn x) := ⟨h, rfl⟩
theorem isF_num {x : Nat} (h : x < bits64) (hn : isN x = false) : IsF x (some x) := ⟨h, by unfold cn; rw [hn]; rfl⟩
theorem isF_int (n : Int) : IsF (floatOfInt .f64 n) (some (floatOfInt .f64 n)) := isF_num (f64_lt (.number (n < 0) n.natAbs 0)) (write_num (d := .number (n < 0) n.natAbs 0) rfl)
theorem order_isF {x y : Nat} {a b : Fl} (hx : IsF x a) (hy : IsF y b) : FloatKind.f64.format.order x y = ford a b := by
  obtain ⟨_, rfl⟩ := hx
  obtain ⟨_, rfl⟩ := hy
  exact order_cn x y

theorem isF_addL {x y : Nat} {b : Fl} (hy : IsF y b) (w : World) : IsF (aV Ieee.double.add x y w) (fadd (cn x) b) := by
  obtain ⟨_, rfl⟩ := hy
  show IsF _ (lift2 Ieee.double.add (cn x) (cn y))
  rw [← ar_cn .add]
  unfold aV
  cases h : Ieee.double.add x y with
  | some r => exact ⟨ar_lt .add h, by unfold cn; rw [Option.getD_some, ar_num .add h]; rfl⟩
  | none =>
    obtain ⟨h1, h2⟩ := nan_cut x y (w.tape w.drawn (.nanBits .f64 x y))
    exact ⟨h1, by unfold cn; rw [Option.getD_none, h2]; rfl⟩
theorem isF_eq {a b : Nat} {f : Fl} (h : a = b) (hf : IsF a f) : IsF b f := h ▸ hf
def flts (l : List Nat) : List Value := l.map (Value.float .f64)
/-- the slice v reads as the row l (of bits) -/
def Fls (w : World) (R : Nat → Prop) (v : Value) (l : List Nat) : Prop := Sl w R v l.length 1 (flts l) ∧ ∀ x ∈ l, x < bits64
section
variable {w w' : World} {R : Nat → Prop} {v : Value} {l : List Nat}
theorem Fls.grow (h : Fls w R v l) (hb : Below w.heap.size w w') : Fls w' R v l := ⟨h.1.grow hb, h.2⟩
theorem Fls.keep (h : Fls w R v l) (hs : w.heap.size ≤ w'.heap.size) (hk : ∀ b, b < w.heap.size → R b → w'.heap[b]? = w.heap[b]?) : Fls w' R v l := ⟨h.1.keep hs hk, h.2⟩
theorem Fls.form (h : Fls w R v l) : ∃ A c, v = .slice A l.length c ∧ l.length ≤ c ∧ c ≤ maxLen := by
  obtain ⟨⟨_, A', c', hv, h1, h2, _⟩, _⟩ := h
  exact ⟨A', c', hv, h1, h2⟩
theorem Fls.at_ {A : Option Addr} {n c k : Nat} {x : Nat} (h : Fls w R (.slice A n c) l) (hk : l[k]? = some x) :
    ∃ b off, A = some ⟨b, off, none⟩ ∧ R b ∧ b < w.heap.size ∧ w.cell? ⟨b, off + k, none⟩ = some (.float .f64 x) ∧ x < bits64 := by
  obtain ⟨⟨_, A', c', hv, _, _, hcs⟩, hb⟩ := h
  injection hv with hA _ _
  subst hA
  have hlt := (List.getElem?_eq_some_iff.1 hk).1
  obtain ⟨b, off, hA, hR, hlt2, hcc⟩ := hcs (by omega)
  exact ⟨b, off, hA, hR, hlt2, hcc _ _ (by unfold flts; rw [List.getElem?_map, hk]; rfl), hb x (List.mem_of_getElem? hk)⟩
theorem Fls.nil (w : World) (R : Nat → Prop) : Fls w R (.slice none 0 0) [] := ⟨⟨rfl, none, 0, rfl, Nat.le_refl _, Nat.zero_le _, fun h => absurd h (by decide)⟩, fun p hp => by cases hp⟩
theorem flts_length (l : List Nat) : (flts l).length = l.length := List.length_map ..
theorem flts_append (l r : List Nat) : flts (l ++ r) = flts l ++ flts r := List.map_append ..
theorem flts_one (l : List Nat) : ∀ u ∈ flts l, u.oneCell' = true := by
  intro u hu
  obtain ⟨x, _, rfl⟩ := List.mem_map.1 hu
  rfl
theorem fls_of_own {base : Nat} {e : TypeId} (h : w.ownsRow base e 1 v l.length (flts l)) (hb : ∀ x ∈ l, x < bits64) : Fls w (fun b => v.ownBlock = some b) v l := ⟨Sl.of_own h, hb⟩
end
theorem slBlk1 {w : World} {g n cap : Nat} {t : TypeId} {l : List Nat} (h : Blk w g t (flts l).toArray) (h1 : n ≤ cap) (h2 : cap ≤ maxLen) (h3 : l.length = n) (hb : ∀ x ∈ l, x < bits64) : Fls w (· = g) (.slice (some ⟨g, 0, none⟩) n cap) l := by
  subst h3
  refine ⟨⟨by simp [flts], some ⟨g, 0, none⟩, cap, rfl, h1, h2, fun _ => ⟨g, 0, rfl, rfl, h.lt, fun j u hj => ?_⟩⟩, hb⟩
  rw [show 0 + j = j from by omega]
  exact (h.cell j).trans (by simpa using hj)
end Go.Proofs.YtidejikolcgojaaGreat.St
