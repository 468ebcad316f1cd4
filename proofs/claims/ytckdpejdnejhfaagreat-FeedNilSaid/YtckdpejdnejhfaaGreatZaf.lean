/- Joined by program: DoH DoI BoA NowA. -/
import Derived.Test.YtckdpejdnejhfaaGreatZae
import Derived.Test.YtckdpejdnejhfaaGreatZl
import Derived.Test.YtckdpejdnejhfaaGreatZd
/- House: what holds of a house holds behind any orders. -/
set_option linter.all false
namespace Go.Proofs.YtckdpejdnejhfaaGreat.Ho
open Go.RowKit
open Go.Proofs.YtckdpejdnejhfaaGreat.Vb Go.Proofs.YtckdpejdnejhfaaGreat.Ac

end Go.Proofs.YtckdpejdnejhfaaGreat.Ho

/- House: what a copy wants holds behind any orders. -/
namespace Go.Proofs.YtckdpejdnejhfaaGreat.Ho
open Go.RowKit
open Go.Proofs.YtckdpejdnejhfaaGreat.Vb Go.Proofs.YtckdpejdnejhfaaGreat.Ac

/-- what a copy wants of a house, beside HInv -/
structure CInv (H : House) : Prop where
  nodup : H.names.Nodup
  names : ∀ s ∈ H.names, nameE s = 0
  now : coin H.now
  due : ∀ n x, H.due n = some x → H.now ≤ x
end Go.Proofs.YtckdpejdnejhfaaGreat.Ho

/- House: a house out of its book, plainly; what the law keeps in memory. -/
namespace Go.Proofs.YtckdpejdnejhfaaGreat.Ho
open Go.RowKit
open Go.Proofs.YtckdpejdnejhfaaGreat.Vb Go.Proofs.YtckdpejdnejhfaaGreat.Ac

/-- a new house behind these orders -/
noncomputable def stH (os : List OrderR) : House := os.foldl doH emptyH
/-- a house that its book makes -/
structure Reach (H : House) : Prop where
  inv : HInv H
  cinv : CInv H
  all : ∀ k o, H.book[k]? = some o → doE (stH (H.book.take k)) o = 0
  make : stH H.book = H
/-- what the law keeps: two houses, a box with the last order, a box for the answer, a box with the second house -/
structure LawAt (W0 : World) (xb rb gb h g : Nat) (mc : Array Value) (wr : World) (T Tg : Nat → Part) (K Kg : Nat) (H Hg : House) : Prop where
  hh : HouseIn wr T h K H
  gg : HouseIn wr Tg g Kg Hg
  apart : ∀ b, Tg b ≠ .no → T b = .no
  bx : Ac.Blk wr xb 61 mc
  rx : Ac.Blk wr rb 4 #[.bool false]
  gx : Ac.Blk wr gb 22 #[.pointer (some ⟨g, 0, none⟩)]
  tx : (T xb = .no ∧ Tg xb = .no) ∧ (T rb = .no ∧ Tg rb = .no) ∧ (T gb = .no ∧ Tg gb = .no)
  far : ∀ b, b < W0.heap.size → T b = .no ∧ Tg b = .no
  bel : Below W0.heap.size W0 wr
section
variable {W0 wr w' : World} {xb rb gb h g : Nat} {mc : Array Value} {T Tg T' : Nat → Part} {K Kg K' : Nat} {H Hg H' : House}
end
end Go.Proofs.YtckdpejdnejhfaaGreat.Ho

/- House: Now, Orders. -/
namespace Go.Proofs.YtckdpejdnejhfaaGreat.Ho
open Go.RowKit
open Go.Proofs.YtckdpejdnejhfaaGreat.Vb Go.Proofs.YtckdpejdnejhfaaGreat.Ac
attribute [local go_sem] Oper.semAt_some

section
variable {W : World} {T : Nat → Part} {h K : Nat} {H : House}
theorem hnow_any (hH : HouseIn W T h K H) : Calls Tryz.prog 101 #[.pointer (some ⟨h, 0, none⟩)] W fun e W' => e = .returned (.int .i64 H.now) ∧ W' = W := by
  obtain ⟨pn, pc, va, vl, vb, vs, hA⟩ := id hH
  have c3 := hA.cells.2.2.2.1
  have HC := Lib.hid hA.cal
  have HH := Lib.hid hH
  clear hH hA
  go_enter Tryz.func101, Tryz.ntmps101
  go_wp2_with fail
  refine (hnone_any HH.out).mono ?_
  rintro e w1 ⟨rfl, hw1⟩
  rw [hw1]
  clear hw1
  go_wp2_with fail
  refine (tnow_any HC.out).mono ?_
  rintro e w1 ⟨rfl, hw1⟩
  rw [hw1]
  clear hw1
  go_wp2_with fail
  go_ret
  exact ⟨rfl, rfl⟩
end
end Go.Proofs.YtckdpejdnejhfaaGreat.Ho
