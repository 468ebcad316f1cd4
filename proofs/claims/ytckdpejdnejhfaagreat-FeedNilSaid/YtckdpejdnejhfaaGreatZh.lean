/- Joined by program: HoN HoO AccO LayAcc AccA AccB AccC AccD AccE AccF AccH AccI AccJ. -/
import Derived.Test.YtckdpejdnejhfaaGreatZb
import Derived.Laws.EntriesVeiled
import Derived.Test.YtckdpejdnejhfaaGreatZg
import Derived.Test.YtckdpejdnejhfaaGreatRows
import Derived.Shelf.SlIterI.Nil
import Derived.Shelf.Slices.In.SortNone
import Derived.Shelf.Sort.Plain
import Derived.Shelf.SlMaps.Clone
import Derived.Shelf.SlMaps.Equal
import Derived.Test.YtckdpejdnejhfaaGreatZa
/- House: names: New, Check, Add, Find, Len, Name. -/
set_option linter.all false
namespace Go.Proofs.YtckdpejdnejhfaaGreat.Ho
open Go.RowKit
open Go.MapKept (IsKey)
open Go.Proofs.YtckdpejdnejhfaaGreat.Vb Go.Proofs.YtckdpejdnejhfaaGreat.Ac

theorem et_str : ElemT Tryz.prog 107 9 1 16 := elemT_of Tryz.underlying107 (by omega) (z := .string ⟨#[]⟩) (by kernel_rfl) rfl
instance decBA : DecidableEq ByteArray := fun a b => decidable_of_iff _ (MapKept.bytes_beq a b)
instance lawBA : LawfulBEq ByteArray where
  eq_of_beq h := (MapKept.bytes_beq _ _).1 h
  rfl := (MapKept.bytes_beq _ _).2 rfl
def strs (ns : List ByteArray) : List Value := ns.map .string
/-- a table of names -/
def NamesAt (W : World) (R : Nat → Prop) (p : Nat) (most : Int) (ns : List ByteArray) : Prop :=
  ∃ v m F, Blk W p 109 #[v, .map (some m), .int .i64 most] ∧ R p ∧ R m ∧ RowAt W (fun b => R b ∧ b ≠ p) 9 1 v ns.length (strs ns) ∧ MapK .string .string W m F ∧ IdxF ns F ∧ ns.length ≤ 1048576
section
variable {W W' : World} {R R' X : Nat → Prop} {p : Nat} {most : Int} {ns : List ByteArray}
theorem NamesAt.mono (h : NamesAt W R p most ns) (hR : ∀ b, b < W.heap.size → R b → R' b) : NamesAt W R' p most ns := by
  obtain ⟨v, m, F, h1, h2, h3, h4, h5, h6⟩ := h
  exact ⟨v, m, F, h1, hR _ h1.lt h2, hR _ h5.lt h3, h4.mono fun b hb h => ⟨hR b hb h.1, h.2⟩, h5, h6⟩
theorem NamesAt.chg (h : NamesAt W R p most ns) (hc : Chg X W W') (hX : ∀ b, b < W.heap.size → R b → ¬ X b) : NamesAt W' R p most ns := by
  obtain ⟨v, m, F, h1, h2, h3, h4, h5, h6⟩ := h
  exact ⟨v, m, F, h1.chg hc (hX _ h1.lt h2), h2, h3, h4.chg hc fun b hb h => hX b hb h.1, h5.chg hc (hX _ h5.lt h3), h6⟩
theorem NamesAt.grow (h : NamesAt W R p most ns) (hb : Below W.heap.size W W') : NamesAt W' R p most ns := h.chg (Chg.of (fun _ => False) hb) fun _ _ _ => id
theorem key_str : ∀ k : ByteArray, IsKey .string (.string k) := fun k => by simp [IsKey]
theorem str_inj : ∀ a b : ByteArray, Value.string a = .string b → a = b := fun a b h => by injection h
end

theorem nnone_any {W : World} {R : Nat → Prop} {p : Nat} {most : Int} {ns : List ByteArray} (h : NamesAt W R p most ns) :
    Calls Tryz.prog 86 #[.pointer (some ⟨p, 0, none⟩)] W fun e W' => e = .returned (.bool false) ∧ W' = W := by
  obtain ⟨v, m, F, h1, _⟩ := h
  have c1 := h1.cell 1
  have f1 := h1.frozen 1
  have hmap : ∀ W, (binOp .eql 106 (.map (some m)) (.map none)).run Tryz.prog W = .ok (.bool false) W := fun W => by kernel_rfl
  simp at c1
  clear h1
  go_enter Tryz.func86, Tryz.ntmps86
  go_wp2
  go_ret
  simp
set_option maxRecDepth 100000 in
theorem nnew_any {most : Int} (h0 : 0 ≤ most) (h1 : most ≤ 1048576) (W : World) : Calls Tryz.prog 19 #[.int .i64 most] W fun e W' => ∃ p, e = .returned (.tuple #[.pointer (some ⟨p, 0, none⟩), .int .i64 0]) ∧ NamesAt W' (fun b => W.heap.size ≤ b) p most [] ∧ Below W.heap.size W W' := by
  have hmm := @run_makeMap Tryz.prog
  have g0 : ¬ most < 0 := by omega
  have g1 : ¬ 1048576 < most := by omega
  go_enter Tryz.func19, Tryz.ntmps19
  go_wp2_with fail
  go_ret2
  refine ⟨_, rfl, ⟨.slice none 0 0, W.heap.size, fun _ => none, Blk.new' _ _ (by simp), by omega, Nat.le_refl _, RowAt.nil, (MapK.made W).grow ((Below.refl _ _).alloc (Nat.le_refl _) _), IdxF.nil, by simp⟩, ((Below.refl _ _).alloc (Nat.le_refl _) _).alloc (by simp) _⟩
def nameE (s : ByteArray) : Int := if s.size < 1 ∨ 64 < s.size then 2 else 0
theorem ncheck_any (s : ByteArray) (w : World) : Calls Tryz.prog 108 #[.string s] w fun e w' => e = .returned (.int .i64 (nameE s)) ∧ w' = w := by
  unfold nameE
  by_cases h1 : s.size < 1
  · rw [if_pos (.inl h1)]
    have g1 : (s.size : Int) < 1 := by omega
    go_enter Tryz.func108, Tryz.ntmps108
    go_wp2_with fail
    go_ret
    exact ⟨rfl, rfl⟩
  · have g1 : ¬ (s.size : Int) < 1 := by omega
    by_cases h2 : 64 < s.size
    · rw [if_pos (.inr h2)]
      have g2 : (64 : Int) < (s.size : Int) := by omega
      go_enter Tryz.func108, Tryz.ntmps108
      go_wp2_with fail
      go_ret
      exact ⟨rfl, rfl⟩
    · rw [if_neg (by omega)]
      have g2 : ¬ (64 : Int) < (s.size : Int) := by omega
      go_enter Tryz.func108, Tryz.ntmps108
      go_wp2_with fail
      go_ret
      exact ⟨rfl, rfl⟩
/-- what Add answers -/
def addE (ns : List ByteArray) (most : Int) (s : ByteArray) : Int := if nameE s ≠ 0 then 2 else if s ∈ ns then 5 else if (ns.length : Int) = most then 3 else 0
section
variable {W : World} {R : Nat → Prop} {p : Nat} {most : Int} {ns : List ByteArray}
end
end Go.Proofs.YtckdpejdnejhfaaGreat.Ho

/- House: names: Add. -/
namespace Go.Proofs.YtckdpejdnejhfaaGreat.Ho
open Go.RowKit
open Go.MapKept (IsKey)
open Go.Proofs.YtckdpejdnejhfaaGreat.Vb Go.Proofs.YtckdpejdnejhfaaGreat.Ac

set_option maxRecDepth 100000 in
set_option maxHeartbeats 2000000 in
theorem nadd_ok {W : World} {R : Nat → Prop} {p : Nat} {most : Int} {ns : List ByteArray} (h : NamesAt W R p most ns) {s : ByteArray} (he : addE ns most s = 0) (hn : ns.length < 1048576) : Calls Tryz.prog 87 #[.pointer (some ⟨p, 0, none⟩), .string s] W fun e W' =>
    e = .returned (.tuple #[.int .i64 ns.length, .int .i64 0]) ∧ NamesAt W' (fun b => R b ∨ W.heap.size ≤ b) p most (ns ++ [s]) ∧ Chg R W W' := by
  have H := Lib.hid h
  have HN := Lib.hid hn
  unfold addE at he
  have h1 : nameE s = 0 := by
    apply Decidable.byContradiction
    intro h1; rw [if_pos h1] at he; cases he
  rw [if_neg (by rw [h1]; simp)] at he
  have h3 : s ∉ ns := by
    intro h3; rw [if_pos h3] at he; cases he
  rw [if_neg h3] at he
  have h4 : ¬ (ns.length : Int) = most := by
    intro h4; rw [if_pos h4] at he; cases he
  have h5 : ((ns.length : Int) == most) = false := by simpa using h4
  obtain ⟨v, m, F, hb, hRp, hRm, hrow, hm, hi, hlen⟩ := h
  have hF : F s = none := (hi.no s).2 h3
  have hlook := (hm.look (P := Tryz.prog) (mty := 106) (kt := 9) (et := 3) key_str str_inj Tryz.underlying106 Tryz.underlying9 (by kernel_rfl) s).1
  rw [hF] at hlook
  simp only [Option.getD_none, Option.isSome_none] at hlook
  obtain ⟨A, cap, rfl⟩ := hrow.form
  have c0 : W.cell? ⟨p, 0, none⟩ = some (.slice A ns.length cap) := hb.cell 0
  have c1 : W.cell? ⟨p, 1, none⟩ = some (.map (some m)) := hb.cell 1
  have c2 : W.cell? ⟨p, 2, none⟩ = some (.int .i64 most) := hb.cell 2
  have npm : p ≠ m := hm.not_cells hb
  have nvm : ∀ b, (Value.slice A ns.length cap).ownBlock = some b → b ≠ m := fun b hb => hm.not_row hrow hb
  have nvp : ¬ (Value.slice A ns.length cap).ownBlock = some p := fun e => (hrow.blk p e).2 rfl
  have HB := Lib.hid hb
  have HROW := Lib.hid (hrow.grow ((Below.refl _ _).alloc (Nat.le_refl _) (.cells #[.string s] 9)))
  have HR0 := Lib.hid hrow
  have HM := Lib.hid hm
  have HI := Lib.hid hi
  have HF := Lib.hid hF
  have H1 := Lib.hid h1
  have NPM := Lib.hid npm
  have NVM := Lib.hid nvm
  have NVP := Lib.hid nvp
  have HRP := Lib.hid hRp
  have HRM := Lib.hid hRm
  clear h1 h3 h4 hb hrow hm hi hF npm nvm nvp hRp hRm hlen hn he
  go_enter Tryz.func87, Tryz.ntmps87
  go_wp2_with fail
  refine (nnone_any H.out).mono ?_
  rintro e w1 ⟨rfl, rfl⟩
  go_wp2_with fail
  refine (ncheck_any s _).mono ?_
  rintro e w1 ⟨rfl, rfl⟩
  rw [H1.out]
  go_wp2_with (at_builtin; go_must (refine wpList_row _ (.tmp 42) (.tmp 44) rfl et_str rfl (.slice A ns.length cap) ns.length (strs ns) rfl HROW.out (.slice (some ⟨w1.heap.size, 0, none⟩) 1 1) 1 [.string s] rfl (Sl.lit1 (Blk.new w1 9 #[.string s]) rfl) (by simp [Value.oneCell']) (by have := HN.out; omega) (by have := HN.out; unfold maxLen; omega) ?_); intro A3 c3 Z hrZ hcZ; have hbZ := (HB.out.alloc (.cells #[.string s] 9)).chg hcZ NVP.out; have f0 := hbZ.frozen 0; have z0 := hbZ.cell 0; have z1 := hbZ.cell 1; obtain ⟨U, hU⟩ : ∃ U, U = Z.setCell ⟨p, 0, none⟩ (.slice A3 (ns.length + 1) c3) := ⟨_, rfl⟩; have HU := Lib.hid hU; have hcU : Chg (· = p) Z U := (by rw [hU]; exact Chg.set Z ⟨p, 0, none⟩ _); have hbU : Blk U p 109 #[.slice A3 (ns.length + 1) c3, .map (some m), .int .i64 most] := (by rw [hU]; exact hbZ.set_ 0 _); have hmU := ((HM.out.grow ((Below.refl _ _).alloc (Nat.le_refl _) (.cells #[.string s] 9))).chg hcZ (fun e => NVM.out m e rfl)).chg hcU (fun e => NPM.out e.symm); obtain ⟨V, hput, hmV, hcV⟩ := hmU.put (P := Tryz.prog) (mty := 106) (kt := 9) (et := 3) key_str str_inj Tryz.underlying106 Tryz.underlying9 s (ns.length : Int); rw [hU] at hput; have HRZ := Lib.hid hrZ; have HCZ := Lib.hid hcZ; have HMV := Lib.hid hmV; have HCV := Lib.hid hcV; have HBU := Lib.hid hbU; have HCU := Lib.hid hcU; have u1 : (Z.setCell ⟨p, 0, none⟩ (.slice A3 (ns.length + 1) c3)).cell? ⟨p, 1, none⟩ = some (.map (some m)) := (by rw [← hU]; exact hbU.cell 1); clear hrZ hcZ hmV hcV hbU hcU hmU hU hbZ)
  go_ret2
  have hlt : p < w1.heap.size := HB.out.lt
  have hsz : (w1.alloc (.cells #[.string s] 9)).heap.size = w1.heap.size + 1 := by simp
  have opb : ∀ b, (Value.slice A3 (ns.length + 1) c3).ownBlock = some b → (R b ∧ b ≠ p ∧ b ≠ m) ∨ w1.heap.size < b := fun b hb => by
    rcases HRZ.out.blk b hb with h | h
    · by_cases e : b = m
      · exfalso
        have hz := HRZ.out.lt hb
        subst e
        exact MapK.not_row ((HM.out.grow ((Below.refl _ _).alloc (Nat.le_refl _) (.cells #[.string s] 9))).chg HCZ.out (fun e => NVM.out b e rfl)) HRZ.out hb rfl
      · exact .inl ⟨h.1, h.2, e⟩
    · exact .inr (by omega)
  have hmlt : m < w1.heap.size := HM.out.lt
  have hrowV := (HRZ.out.chgB HCU.out (fun b hb e => by
    rcases opb b hb with h | h
    · exact h.2.1 e
    · omega)).chgB HCV.out (fun b hb e => by
    rcases opb b hb with h | h
    · exact h.2.2 e
    · omega)
  refine ⟨rfl, ⟨.slice A3 (ns.length + 1) c3, m, upd F s (some (ns.length : Int)), HBU.out.chg HCV.out NPM.out, .inl HRP.out, .inl HRM.out, ?_, HMV.out, HI.out.snoc HF.out, by have := HN.out; simp; omega⟩, ?_⟩
  · rw [List.length_append]
    have : strs (ns ++ [s]) = strs ns ++ [.string s] := by simp [strs]
    rw [this]
    refine ⟨hrowV.own, fun b hb => ?_⟩
    rcases opb b hb with h | h
    · exact ⟨.inl h.1, h.2.1⟩
    · exact ⟨.inr (by omega), by omega⟩
  · exact ((((Chg.of R ((Below.refl _ _).alloc (Nat.le_refl _) (.cells #[.string s] 9))).step HCZ.out fun b _ h => (HR0.out.blk b h).1).step HCU.out fun b _ e => e ▸ HRP.out).step HCV.out fun b _ e => e ▸ HRM.out)
end Go.Proofs.YtckdpejdnejhfaaGreat.Ho

/- Account: holds for unlike lots in one order and in the other, plainly. -/
namespace Go.Proofs.YtckdpejdnejhfaaGreat.Ac

def coin (x : Int) : Prop := 0 ≤ x ∧ x ≤ 1099511627776
instance (x : Int) : Decidable (coin x) := inferInstanceAs (Decidable (_ ∧ _))
/-- what Hold answers, at an account of which nothing is spent -/
def holdE (bu sp : Int) (M : HM) (lot c : Int) : Int := if lot < 0 ∨ ¬ coin c then 2 else if bu - sp - sumM M + atM M lot < c then 8 else 0
theorem atM_cons (p : Int × Int) (r : HM) (k : Int) : atM (p :: r) k = if p.1 = k then p.2 else atM r k := by
  unfold atM
  by_cases h : p.1 = k
  · simp [List.find?_cons, h]
  · have : (p.1 == k) = false := by simpa using h
    rw [if_neg h, List.find?_cons, this]
theorem atM_mem : ∀ {r : HM} {p : Int × Int}, (r.map (·.1)).Nodup → p ∈ r → atM r p.1 = p.2
  | q :: r, p, hn, hp => by
    rw [List.map_cons, List.nodup_cons] at hn
    rw [atM_cons]
    rcases List.mem_cons.1 hp with rfl | hp
    · rw [if_pos rfl]
    · rw [if_neg (fun e => hn.1 (by rw [e]; exact List.mem_map.2 ⟨p, hp, rfl⟩))]
      exact atM_mem hn.2 hp
theorem sumM_append : ∀ (l r : HM), sumM (l ++ r) = sumM l + sumM r
  | [], r => by simp [sumM]
  | p :: l, r => by
    have := sumM_append l r
    simp only [List.cons_append, sumM_cons]
    omega
theorem sumM_nonneg : ∀ {l : HM}, (∀ p ∈ l, 0 ≤ p.2) → 0 ≤ sumM l
  | [], _ => Int.le_refl _
  | p :: l, h => by
    have := sumM_nonneg (l := l) fun q hq => h q (by simp [hq])
    have := h p (by simp)
    rw [sumM_cons]
    omega
theorem drop_at {l : HM} {i : Nat} {p : Int × Int} (h : l[i]? = some p) : l.drop i = p :: l.drop (i + 1) := by
  have hlt := (List.getElem?_eq_some_iff.1 h).1
  rw [List.drop_eq_getElem_cons hlt]
  rw [List.getElem?_eq_getElem hlt] at h
  injection h with h
  rw [h]
end Go.Proofs.YtckdpejdnejhfaaGreat.Ac

/- The layings of the library's functions that accounts use, as the kit's own tool lays them at this seat. -/
namespace Go.Proofs.YtckdpejdnejhfaaGreat.Ac
open Go.Shelf
def ac_keysA_ren : Go.Shelf.Ren := ⟨fun | 7 => 130 | 10 => 152 | n => n, fun | 23 => 183 | 26 => 3 | 3 => 2 | 28 => 236 | 0 => 0 | 27 => 235 | 33 => 260 | 4 => 4 | n => n, fun | n => n⟩
theorem ac_keysA : Go.Proofs.SlLaysZI.n7 Tryz.prog ac_keysA_ren := {
  mixed := by kernel_rfl
  f7 := ⟨Tryz.f130.name, by decide, Tryz.func130.trans (congrArg some (by kernel_rfl))⟩
  f10 := ⟨Tryz.f152.name, by decide, Tryz.func152.trans (congrArg some (by kernel_rfl))⟩
  t0 := Tryz.underlying0
  a0 := Tryz.isAgg0
  z0 := Tryz.sizeOf0
  v0 := Tryz.zeroValue0
  t4 := Tryz.underlying4
  a4 := Tryz.isAgg4
  z4 := Tryz.sizeOf4
  v4 := Tryz.zeroValue4
  t23 := Tryz.underlying183
  a23 := Tryz.isAgg183
  z23 := Tryz.sizeOf183
  v23 := Tryz.zeroValue183
  t26 := Tryz.underlying3
  a26 := Tryz.isAgg3
  z26 := Tryz.sizeOf3
  v26 := Tryz.zeroValue3
  t27 := Tryz.underlying235
  a27 := Tryz.isAgg235
  z27 := Tryz.sizeOf235
  v27 := Tryz.zeroValue235
  t28 := Tryz.underlying236
  a28 := Tryz.isAgg236
  z28 := Tryz.sizeOf236
  v28 := Tryz.zeroValue236
  t33 := Tryz.underlying260
  a33 := Tryz.isAgg260
  z33 := Tryz.sizeOf260
  v33 := Tryz.zeroValue260 }
def ac_sortedA_ren : Go.Shelf.Ren := ⟨fun | 6 => 129 | 8 => 150 | 9 => 151 | 11 => 167 | 13 => 132 | 12 => 168 | 23 => 161 | 24 => 162 | 14 => 175 | 15 => 176 | 16 => 177 | 17 => 178 | 18 => 179 | 19 => 180 | 20 => 181 | 21 => 182 | 22 => 183 | 25 => 185 | 26 => 170 | 27 => 171 | 28 => 186 | 29 => 187 | 30 => 188 | 31 => 189 | n => n, fun | 26 => 3 | 28 => 236 | 24 => 36 | 0 => 0 | 3 => 3 | 37 => 122 | 48 => 92 | 50 => 89 | 4 => 4 | 40 => 263 | 39 => 262 | 45 => 203 | 5 => 5 | 9 => 9 | 51 => 276 | 55 => 279 | 57 => 286 | 58 => 287 | 33 => 260 | n => n, fun | n => n⟩
theorem ac_sortedA : Go.Proofs.SlLaysZI.n6 Tryz.prog ac_sortedA_ren := {
  mixed := by kernel_rfl
  f6 := ⟨Tryz.f129.name, by decide, Tryz.func129.trans (congrArg some (by kernel_rfl))⟩
  f8 := ⟨Tryz.f150.name, by decide, Tryz.func150.trans (congrArg some (by kernel_rfl))⟩
  f11 := ⟨Tryz.f167.name, by decide, Tryz.func167.trans (congrArg some (by kernel_rfl))⟩
  t0 := Tryz.underlying0
  a0 := Tryz.isAgg0
  z0 := Tryz.sizeOf0
  v0 := Tryz.zeroValue0
  t24 := Tryz.underlying36
  a24 := Tryz.isAgg36
  z24 := Tryz.sizeOf36
  v24 := Tryz.zeroValue36
  t26 := Tryz.underlying3
  a26 := Tryz.isAgg3
  z26 := Tryz.sizeOf3
  v26 := Tryz.zeroValue3
  t28 := Tryz.underlying236
  a28 := Tryz.isAgg236
  z28 := Tryz.sizeOf236
  v28 := Tryz.zeroValue236
  i26 := by kernel_rfl }
def ac_sortA_ren : Go.Shelf.Ren := ⟨fun | 189 => 151 | 125 => 132 | 257 => 168 | 128 => 161 | 129 => 162 | 294 => 175 | 295 => 176 | 296 => 177 | 297 => 178 | 298 => 179 | 299 => 180 | 216 => 181 | 300 => 182 | 301 => 183 | 328 => 185 | 329 => 170 | 330 => 171 | 331 => 186 | 332 => 187 | 215 => 188 | 343 => 189 | n => n, fun | 28 => 36 | 3 => 3 | 46 => 122 | 0 => 0 | 51 => 92 | 53 => 89 | 4 => 4 | 183 => 263 | 182 => 262 | 131 => 203 | 5 => 5 | 9 => 9 | 218 => 276 | 222 => 279 | 228 => 286 | 229 => 287 | n => n, fun | n => n⟩
theorem ac_sortA : Go.Proofs.Lays.n189 Tryz.prog ac_sortA_ren := {
  mixed := by kernel_rfl
  f125 := Tryz.func132.trans (congrArg some (by kernel_rfl))
  f128 := Tryz.func161.trans (congrArg some (by kernel_rfl))
  f129 := Tryz.func162.trans (congrArg some (by kernel_rfl))
  f189 := Tryz.func151.trans (congrArg some (by kernel_rfl))
  f215 := Tryz.func188.trans (congrArg some (by kernel_rfl))
  f216 := Tryz.func181.trans (congrArg some (by kernel_rfl))
  f257 := Tryz.func168.trans (congrArg some (by kernel_rfl))
  f294 := Tryz.func175.trans (congrArg some (by kernel_rfl))
  f295 := Tryz.func176.trans (congrArg some (by kernel_rfl))
  f296 := Tryz.func177.trans (congrArg some (by kernel_rfl))
  f297 := Tryz.func178.trans (congrArg some (by kernel_rfl))
  f298 := Tryz.func179.trans (congrArg some (by kernel_rfl))
  f299 := Tryz.func180.trans (congrArg some (by kernel_rfl))
  f300 := Tryz.func182.trans (congrArg some (by kernel_rfl))
  f301 := Tryz.func183.trans (congrArg some (by kernel_rfl))
  f328 := Tryz.func185.trans (congrArg some (by kernel_rfl))
  f329 := Tryz.func170.trans (congrArg some (by kernel_rfl))
  f330 := Tryz.func171.trans (congrArg some (by kernel_rfl))
  f331 := Tryz.func186.trans (congrArg some (by kernel_rfl))
  f332 := Tryz.func187.trans (congrArg some (by kernel_rfl))
  f343 := Tryz.func189.trans (congrArg some (by kernel_rfl))
  t0 := Tryz.underlying0
  a0 := Tryz.isAgg0
  z0 := Tryz.sizeOf0
  v0 := Tryz.zeroValue0
  t3 := Tryz.underlying3
  a3 := Tryz.isAgg3
  z3 := Tryz.sizeOf3
  v3 := Tryz.zeroValue3
  t4 := Tryz.underlying4
  a4 := Tryz.isAgg4
  z4 := Tryz.sizeOf4
  v4 := Tryz.zeroValue4
  t5 := Tryz.underlying5
  a5 := Tryz.isAgg5
  z5 := Tryz.sizeOf5
  v5 := Tryz.zeroValue5
  t9 := Tryz.underlying9
  a9 := Tryz.isAgg9
  z9 := Tryz.sizeOf9
  v9 := Tryz.zeroValue9
  t28 := Tryz.underlying36
  a28 := Tryz.isAgg36
  z28 := Tryz.sizeOf36
  v28 := Tryz.zeroValue36
  t46 := Tryz.underlying122
  a46 := Tryz.isAgg122
  z46 := Tryz.sizeOf122
  v46 := Tryz.zeroValue122
  t51 := Tryz.underlying92
  a51 := Tryz.isAgg92
  z51 := Tryz.sizeOf92
  v51 := Tryz.zeroValue92
  t53 := Tryz.underlying89
  a53 := Tryz.isAgg89
  z53 := Tryz.sizeOf89
  v53 := Tryz.zeroValue89
  t131 := Tryz.underlying203
  a131 := Tryz.isAgg203
  z131 := Tryz.sizeOf203
  v131 := Tryz.zeroValue203
  t182 := Tryz.underlying262
  a182 := Tryz.isAgg262
  z182 := Tryz.sizeOf262
  v182 := Tryz.zeroValue262
  t183 := Tryz.underlying263
  a183 := Tryz.isAgg263
  z183 := Tryz.sizeOf263
  v183 := Tryz.zeroValue263
  t218 := Tryz.underlying276
  a218 := Tryz.isAgg276
  z218 := Tryz.sizeOf276
  v218 := Tryz.zeroValue276
  t222 := Tryz.underlying279
  a222 := Tryz.isAgg279
  z222 := Tryz.sizeOf279
  v222 := Tryz.zeroValue279
  t228 := Tryz.underlying286
  a228 := Tryz.isAgg286
  z228 := Tryz.sizeOf286
  v228 := Tryz.zeroValue286
  t229 := Tryz.underlying287
  a229 := Tryz.isAgg287
  z229 := Tryz.sizeOf287
  v229 := Tryz.zeroValue287 }
def ac_cloneA_ren : Go.Shelf.Ren := ⟨fun | 5 => 91 | 7 => 113 | n => n, fun | 23 => 183 | 25 => 3 | 3 => 2 | 4 => 4 | 20 => 20 | n => n, fun | n => n⟩
theorem ac_cloneA : Go.Proofs.SlLaysW.n5 Tryz.prog ac_cloneA_ren := {
  mixed := by kernel_rfl
  f5 := ⟨Tryz.f91.name, by decide, Tryz.func91.trans (congrArg some (by kernel_rfl))⟩
  f7 := Tryz.func113.trans (congrArg some (by kernel_rfl))
  t4 := Tryz.underlying4
  a4 := Tryz.isAgg4
  z4 := Tryz.sizeOf4
  v4 := Tryz.zeroValue4
  t20 := Tryz.underlying20
  a20 := Tryz.isAgg20
  z20 := Tryz.sizeOf20
  v20 := Tryz.zeroValue20
  t23 := Tryz.underlying183
  a23 := Tryz.isAgg183
  z23 := Tryz.sizeOf183
  v23 := Tryz.zeroValue183 }
end Go.Proofs.YtckdpejdnejhfaaGreat.Ac

/- Account: what an account is in memory; the library's functions over its map. -/
namespace Go.Proofs.YtckdpejdnejhfaaGreat.Ac
open Go.RowKit Go.Shelf
open Go.Proofs.YtckdpejdnejhfaaGreat.Vb
open Go.Maps (Keyed)
attribute [local go_sem] Oper.semAt_some

structure Acc where
  bud : Int
  sp : Int
  M : HM
def Acc.held (a : Acc) : Int := sumM a.M
def Acc.free (a : Acc) : Int := a.bud - a.sp - sumM a.M
/-- in order, but for what is spent being in the budget -/
structure Acc.Ok (a : Acc) : Prop where
  bud : coin a.bud
  sp : coin a.sp
  rise : Rising a.M
  each : ∀ p ∈ a.M, 0 ≤ p.1 ∧ p.1 ≤ 9223372036854775807 ∧ 1 ≤ p.2
  sum : sumM a.M ≤ 1099511627776
def Acc.Fine (a : Acc) : Prop := a.sp + sumM a.M ≤ a.bud

structure AccAt (W : World) (b m n : Nat) (a : Acc) : Prop where
  blk : Blk W b 185 #[.int .i64 a.bud, .int .i64 a.sp, .map (some m)]
  own : W.ownsMap Tryz.prog 3 (plainElem (H := Unit) Tryz.prog 2) m n (dM a.M)

/-- no account; a zero one; one that stands so -/
inductive Fm where
  | nil
  | zero
  | live (a : Acc)
def Fm.bud : Fm → Int | .live a => a.bud | _ => 0
def Fm.sp : Fm → Int | .live a => a.sp | _ => 0
def Fm.M : Fm → HM | .live a => a.M | _ => []
def Fm.there : Fm → Bool | .live _ => true | _ => false
def Fm.Ok : Fm → Prop | .live a => a.Ok | _ => True
def AtP (W : World) (v : Value) : Fm → Prop
  | .nil => v = .pointer none
  | .zero => ∃ b, v = .pointer (some ⟨b, 0, none⟩) ∧ Blk W b 185 #[.int .i64 0, .int .i64 0, .map none]
  | .live a => ∃ b m n, v = .pointer (some ⟨b, 0, none⟩) ∧ AccAt W b m n a

section
variable {W W' : World} {b m n : Nat} {a : Acc} {v : Value} {f : Fm}
theorem AccAt.ltb (h : AccAt W b m n a) : b < W.heap.size := h.blk.lt
theorem AccAt.ltm (h : AccAt W b m n a) : m < W.heap.size := h.own.lt
theorem AccAt.ne (h : AccAt W b m n a) : b ≠ m := by
  rintro rfl
  obtain ⟨es, clock, h1, _⟩ := h.own
  have := h.blk
  unfold Blk at this
  rw [h1] at this
  cases this
theorem AccAt.chg {X : Nat → Prop} (h : AccAt W b m n a) (hc : Chg X W W') (h1 : ¬ X b) (h2 : ¬ X m) : AccAt W' b m n a := ⟨h.blk.chg hc h1, hc.ownsMap h.own h2⟩
theorem AccAt.grow (h : AccAt W b m n a) (hb : Below W.heap.size W W') : AccAt W' b m n a := h.chg (Chg.of (fun _ => False) hb) id id
theorem AccAt.mono (h : AccAt W b m n a) {n' : Nat} (hn : n ≤ n') : AccAt W b m n' a := ⟨h.blk, h.own.mono hn⟩
theorem AtP.grow (h : AtP W v f) (hb : Below W.heap.size W W') : AtP W' v f := by
  cases f with
  | nil => exact h
  | zero => obtain ⟨b, h1, h2⟩ := h; exact ⟨b, h1, h2.grow hb⟩
  | live a => obtain ⟨b, m, n, h1, h2⟩ := h; exact ⟨b, m, n, h1, h2.grow hb⟩
theorem AtP.ptr (h : AtP W v f) : ∃ p, v = .pointer p := by
  cases f with
  | nil => exact ⟨_, h⟩
  | zero => obtain ⟨b, h1, h2⟩ := h; exact ⟨_, h1⟩
  | live a => obtain ⟨b, m, n, h1, h2⟩ := h; exact ⟨_, h1⟩
end

theorem int_keyed' : Keyed Tryz.prog 3 := Maps.int_keyed Tryz.underlying3
theorem i64wf {x : Int} (h : -9223372036854775808 ≤ x ∧ x ≤ 9223372036854775807) : (Lit.int .i64 x).wf = true := WalkArith.wf_i64 (by omega)
theorem AccAt.look {W : World} {b m n : Nat} {a : Acc} (h : AccAt W b m n a) {x : Int} (hx : -9223372036854775808 ≤ x ∧ x ≤ 9223372036854775807) :
    (Instr.lookup 183 (.map (some m)) (.int .i64 x) false).run Tryz.prog W = .ok (.int .i64 (atM a.M x)) W := by
  obtain ⟨c, hrun, hat, _⟩ := h.own.lookup_int int_keyed' Tryz.underlying183 Tryz.underlying2 (Tryz.zeroValue2 _) (Maps.keyOf_int_mk Tryz.underlying3 (i64wf hx))
  rw [dM_at] at hat
  exact hrun.trans (by rw [(Lit.int.inj (DataW.lit.inj hat)).2])
theorem AccAt.put {W : World} {b m n : Nat} {a : Acc} (h : AccAt W b m n a) (hn : n < maxLen) {x v : Int} (hx : -9223372036854775808 ≤ x ∧ x ≤ 9223372036854775807) (hv : -9223372036854775808 ≤ v ∧ v ≤ 9223372036854775807) :
    ∃ W', (Instr.mapUpdate 183 (.map (some m)) (.int .i64 x) (.int .i64 v)).run Tryz.prog W = .ok () W' ∧ AccAt W' b m (n + 1) { a with M := putM a.M x v } ∧ Chg (· = m) W W' := by
  obtain ⟨W', hrun, h1, h2⟩ := h.own.update int_keyed' Tryz.underlying183 hn (Maps.keyOf_int_mk Tryz.underlying3 (i64wf hx)) (plainElem_int Tryz.underlying2 (i64wf hv))
  rw [dM_put] at h1
  have hc : Chg (· = m) W W' := (Chg.grown h2).mono fun k _ e => by injection e
  exact ⟨W', hrun, ⟨h.blk.chg hc h.ne, h1⟩, hc⟩
theorem AccAt.del {W : World} {b m n : Nat} {a : Acc} (h : AccAt W b m n a) {x : Int} (hx : -9223372036854775808 ≤ x ∧ x ≤ 9223372036854775807) (ty : TypeId) :
    ∃ W', (Builtin.delete_ #[183, 3] ty #[.map (some m), .int .i64 x]).run Tryz.prog W = .ok (.tuple #[]) W' ∧ AccAt W' b m n { a with M := delM a.M x } ∧ Chg (· = m) W W' := by
  obtain ⟨W', hrun, h1, h2⟩ := h.own.drop int_keyed' Tryz.underlying183 (Maps.keyOf_int_mk Tryz.underlying3 (i64wf hx)) ty
  rw [dM_del] at h1
  have hc : Chg (· = m) W W' := (Chg.grown h2.grown).mono fun k _ e => by injection e
  exact ⟨W', hrun, ⟨h.blk.chg hc h.ne, h1⟩, hc⟩
theorem look_nil {W : World} {x : Int} (hx : -9223372036854775808 ≤ x ∧ x ≤ 9223372036854775807) :
    (Instr.lookup 183 (.map none) (.int .i64 x) false).run Tryz.prog W = .ok (.int .i64 0) W :=
  Maps.look_nil false int_keyed' Tryz.underlying183 (Tryz.zeroValue2 _) (Maps.keyOf_int_mk Tryz.underlying3 (i64wf hx))
end Go.Proofs.YtckdpejdnejhfaaGreat.Ac

/- Account: maps.Clone, slices.Sorted(maps.Keys), maps.Equal at its map. -/
namespace Go.Proofs.YtckdpejdnejhfaaGreat.Ac
open Go.RowKit Go.Shelf Go.Maps
open Go.Proofs.YtckdpejdnejhfaaGreat.Vb
attribute [local go_sem] Oper.semAt_some

theorem rising_keys {M : HM} (h : Rising M) : (M.map (·.1)).Pairwise (· < ·) := List.pairwise_map.2 h
theorem sorted_keys {M : HM} (h : Rising M) {ss : List Int} (hp : ss.Perm (M.map (·.1))) : ss.mergeSort (fun x y => decide (x ≤ y)) = M.map (·.1) := by
  refine List.Perm.eq_of_pairwise (le := fun x y => x ≤ y) (fun a b _ _ h1 h2 => Int.le_antisymm h1 h2) ?_ ?_ ((List.mergeSort_perm _ _).trans hp)
  · have := List.pairwise_mergeSort (le := fun (x y : Int) => decide (x ≤ y)) (fun a b c h1 h2 => by simp at *; omega) (fun a b => by simp; omega) ss
    exact this.imp fun h => by simpa using h
  · exact (rising_keys h).imp fun h => Int.le_of_lt h

theorem clone_any {W : World} {b m n : Nat} {a : Acc} (h : AccAt W b m n a) :
    Calls Tryz.prog 91 #[.map (some m)] W fun e w' => e = .returned (.map (some W.heap.size)) ∧ w'.ownsMap Tryz.prog 3 (plainElem (H := Unit) Tryz.prog 2) W.heap.size n (dM a.M) ∧ Below W.heap.size W w' :=
  (show Calls Tryz.prog 91 #[.map (some m)] W _ from AnyW.maps_Clone_owns ac_cloneA 3 (plainElem (H := Unit) Tryz.prog 2) m n (dM a.M) W h.own).mono fun _ _ ⟨h1, h2, _, h4⟩ => ⟨h1, h2, h4⟩

theorem keys_any (mb : Option Nat) (W : World) :
    Calls Tryz.prog 130 #[.map mb] W fun e w' => e = .returned (.func (.func 152) #[] #[.pointer (some ⟨W.heap.size, 0, none⟩)]) ∧ w' = W.alloc (.cells #[.map mb] 183) :=
  (callsIn_wide (n := 5)).1 (AnyZI.keys_in ac_keysA Fence.wide 5 trivial rfl mb W)
theorem sorts_in (m : Nat) : AnyZI.SortsIn Tryz.prog ac_sortedA_ren Fence.wide m :=
  ⟨fun blk off cap ss W hH hblk hsz => callsIn_wide.2 (Any.slices_Sort_int ac_sortA blk off cap ss W hH hblk hsz),
   fun p cap W => callsIn_wide.2 (Any.slices_Sort_int_none ac_sortA p cap W)⟩
theorem sorted_any {W : World} {g m n : Nat} {M : HM} (hr : Rising M) (hl : M.length ≤ 1099511627776) (hg : W.cell? ⟨g, 0, none⟩ = some (.map (some m))) (hown : W.ownsMap Tryz.prog 3 (plainElem (H := Unit) Tryz.prog 2) m n (dM M)) :
    Calls Tryz.prog 129 #[.func (.func 152) #[] #[.pointer (some ⟨g, 0, none⟩)]] W fun e w' => ∃ v, e = .returned v ∧ w'.ownsRow W.heap.size 3 1 v M.length ((M.map (·.1)).map (Value.int .i64)) ∧ Below W.heap.size W w' := by
  have hseq : SeqGives Fence.wide 2 Tryz.prog 152 #[.pointer (some ⟨g, 0, none⟩)] encZ (fun ss => ss.Perm (intKeys (dM M))) (Maps.size (dM M)) W :=
    AnyZI.keys_gives (ρ := ac_keysA_ren) { ac_keysA with } Fence.wide _ trivial rfl (by omega) g m n (dM M) _ (World.block_lt_of_cell? W ⟨g, 0, none⟩ hg) hg hown
  refine (callsIn_wide (n := 5)).1 ((show CallsIn Fence.wide 5 Tryz.prog 129 #[.func (.func 152) #[] #[.pointer (some ⟨g, 0, none⟩)]] W _ from
    AnyZI.sorted_in ac_sortedA Fence.wide 5 trivial trivial trivial trivial rfl (by omega) (sorts_in _) (enters_of Tryz.func151 (by kernel_rfl) rfl) 152 #[.pointer (some ⟨g, 0, none⟩)] trivial (enters_of Tryz.func152 (by kernel_rfl) rfl) _ _ (by rw [dM_size]; unfold maxLen; omega) (by rw [dM_size]; omega) W hseq).mono ?_)
  rintro e w' ⟨v, ss, rfl, hS, hrow, _, hb⟩
  rw [dM_keys] at hS
  have hlen : ss.length = M.length := by rw [hS.length_eq]; simp
  rw [sorted_keys hr hS, hlen] at hrow
  exact ⟨v, rfl, hrow, hb⟩
end Go.Proofs.YtckdpejdnejhfaaGreat.Ac

/- Account: its small functions. -/
namespace Go.Proofs.YtckdpejdnejhfaaGreat.Ac
open Go.RowKit Go.Shelf Go.Maps
open Go.Proofs.YtckdpejdnejhfaaGreat.Vb
attribute [local go_sem] Oper.semAt_some

theorem coins_any (x : Int) (w : World) : Calls Tryz.prog 137 #[.int .i64 x] w fun e w' => e = .returned (.bool (decide (coin x))) ∧ w' = w := by
  obtain ⟨z, hz⟩ : ∃ z, z = decide (coin x) := ⟨_, rfl⟩
  rw [← hz]
  have HZ := Lib.hid hz
  clear hz
  unfold coin at HZ
  go_enter Tryz.func137, Tryz.ntmps137
  by_cases h1 : 0 ≤ x
  · by_cases h2 : x ≤ 1099511627776
    · have HE := Lib.hid (HZ.out.trans (decide_eq_true ⟨h1, h2⟩))
      go_wp2
      go_ret
      exact ⟨by rw [HE.out]; rfl, rfl⟩
    · have HE := Lib.hid (HZ.out.trans (decide_eq_false fun h => h2 h.2))
      go_wp2
      go_ret
      exact ⟨by rw [HE.out]; rfl, rfl⟩
  · have HE := Lib.hid (HZ.out.trans (decide_eq_false fun h => h1 h.1))
    go_wp2
    go_ret
    exact ⟨by rw [HE.out]; rfl, rfl⟩

theorem neq_map (W : World) (p : Option Nat) : (binOp .neq 183 (.map p) (.map none)).run Tryz.prog W = .ok (.bool (!p.isNone)) W := by
  exact run_neq_map_nil W 183 _ _ p Tryz.underlying183

theorem there_any {v : Value} {f : Fm} {w : World} (h : AtP w v f) : Calls Tryz.prog 90 #[v] w fun e w' => e = .returned (.bool f.there) ∧ w' = w := by
  have hq := neq_map w
  cases f with
  | nil =>
    subst h
    go_enter Tryz.func90, Tryz.ntmps90
    go_wp2
    go_ret
    exact ⟨rfl, rfl⟩
  | zero =>
    obtain ⟨b, rfl, hb⟩ := h
    have c2 : w.cell? ⟨b, 2, none⟩ = some (.map none) := hb.cell 2
    clear hb
    go_enter Tryz.func90, Tryz.ntmps90
    go_wp2
    go_ret
    exact ⟨rfl, rfl⟩
  | live a =>
    obtain ⟨b, m, n, rfl, hb⟩ := h
    have c2 : w.cell? ⟨b, 2, none⟩ = some (.map (some m)) := hb.blk.cell 2
    clear hb
    go_enter Tryz.func90, Tryz.ntmps90
    go_wp2
    go_ret
    exact ⟨rfl, rfl⟩

theorem budget_any {v : Value} {f : Fm} {w : World} (h : AtP w v f) : Calls Tryz.prog 78 #[v] w fun e w' => e = .returned (.int .i64 f.bud) ∧ w' = w := by
  cases f with
  | nil =>
    subst h
    go_enter Tryz.func78, Tryz.ntmps78
    go_wp2
    go_ret
    exact ⟨rfl, rfl⟩
  | zero =>
    obtain ⟨b, rfl, hb⟩ := h
    have c2 : w.cell? ⟨b, 0, none⟩ = some (.int .i64 0) := hb.cell 0
    clear hb
    go_enter Tryz.func78, Tryz.ntmps78
    go_wp2
    go_ret
    exact ⟨rfl, rfl⟩
  | live a =>
    obtain ⟨b, m, n, rfl, hb⟩ := h
    have c2 : w.cell? ⟨b, 0, none⟩ = some (.int .i64 a.bud) := hb.blk.cell 0
    clear hb
    go_enter Tryz.func78, Tryz.ntmps78
    go_wp2
    go_ret
    exact ⟨rfl, rfl⟩

theorem spent_any {v : Value} {f : Fm} {w : World} (h : AtP w v f) : Calls Tryz.prog 80 #[v] w fun e w' => e = .returned (.int .i64 f.sp) ∧ w' = w := by
  cases f with
  | nil =>
    subst h
    go_enter Tryz.func80, Tryz.ntmps80
    go_wp2
    go_ret
    exact ⟨rfl, rfl⟩
  | zero =>
    obtain ⟨b, rfl, hb⟩ := h
    have c2 : w.cell? ⟨b, 1, none⟩ = some (.int .i64 0) := hb.cell 1
    clear hb
    go_enter Tryz.func80, Tryz.ntmps80
    go_wp2
    go_ret
    exact ⟨rfl, rfl⟩
  | live a =>
    obtain ⟨b, m, n, rfl, hb⟩ := h
    have c2 : w.cell? ⟨b, 1, none⟩ = some (.int .i64 a.sp) := hb.blk.cell 1
    clear hb
    go_enter Tryz.func80, Tryz.ntmps80
    go_wp2
    go_ret
    exact ⟨rfl, rfl⟩

theorem at_any {v : Value} {f : Fm} {w : World} (h : AtP w v f) {x : Int} (hx : -9223372036854775808 ≤ x ∧ x ≤ 9223372036854775807) : Calls Tryz.prog 143 #[v, .int .i64 x] w fun e w' => e = .returned (.int .i64 (atM f.M x)) ∧ w' = w := by
  cases f with
  | nil =>
    subst h
    go_enter Tryz.func143, Tryz.ntmps143
    go_wp2
    go_ret
    exact ⟨rfl, rfl⟩
  | zero =>
    obtain ⟨b, rfl, hb⟩ := h
    have c2 : w.cell? ⟨b, 2, none⟩ = some (.map none) := hb.cell 2
    have hl := look_nil (W := w) hx
    clear hb hx
    go_enter Tryz.func143, Tryz.ntmps143
    go_wp2
    go_ret
    exact ⟨rfl, rfl⟩
  | live a =>
    obtain ⟨b, m, n, rfl, hb⟩ := h
    have c2 : w.cell? ⟨b, 2, none⟩ = some (.map (some m)) := hb.blk.cell 2
    have hl := hb.look hx
    clear hb hx
    go_enter Tryz.func143, Tryz.ntmps143
    go_wp2
    go_ret
    exact ⟨rfl, rfl⟩

def allV (b : Nat) : Value := .func (.func 128) #[] #[.pointer (some ⟨b, 0, none⟩)]
theorem all_any {v : Value} (hv : ∃ p, v = .pointer p) (w : World) : Calls Tryz.prog 107 #[v] w fun e w' => e = .returned (allV w.heap.size) ∧ w' = w.alloc (.cells #[v] 136) := by
  obtain ⟨p, rfl⟩ := hv
  go_enter Tryz.func107, Tryz.ntmps107
  go_wp2
  go_ret
  exact ⟨rfl, rfl⟩
end Go.Proofs.YtckdpejdnejhfaaGreat.Ac

/- Account: All's iterator. -/
namespace Go.Proofs.YtckdpejdnejhfaaGreat.Ac
open Go.RowKit Go.Shelf Go.Maps
open Go.Proofs.YtckdpejdnejhfaaGreat.Vb
attribute [local go_sem] Oper.semAt_some

def ints (l : List Int) : List Value := l.map (Value.int .i64)
theorem sl_int_at {w : World} {R : Nat → Prop} {A : Option Addr} {n c k : Nat} {l : List Int} (h : Sl w R (.slice A n c) n 1 (ints l)) (hk : k < n) :
    ∃ b off x, A = some ⟨b, off, none⟩ ∧ b < w.heap.size ∧ l[k]? = some x ∧ w.cell? ⟨b, off + k, none⟩ = some (.int .i64 x) := by
  obtain ⟨hl, A', c', hv, _, _, hc⟩ := h
  injection hv with hA _ _
  subst hA
  obtain ⟨b, off, hA, _, hlt, hcs⟩ := hc (by omega)
  have hl' : k < l.length := by simp [ints] at hl; omega
  exact ⟨b, off, l[k], hA, hlt, List.getElem?_eq_getElem hl', hcs k _ (by simp [ints, hl'])⟩
theorem at_get {M : HM} (h : Rising M) {j : Nat} {x : Int × Int} (hx : M[j]? = some x) : atM M x.1 = x.2 := atM_mem ((rising_keys h).imp fun h => Int.ne_of_lt h) (List.mem_of_getElem? hx)

/-- what the iterator has laid: the clone, the sorted lots -/
structure AllI (lo hi m A : Nat) (n cap : Nat) (a : Option Addr) (M : HM) (W : World) : Prop where
  row : Sl W (fun b => lo ≤ b ∧ b < hi) (.slice a M.length cap) M.length 1 (ints (M.map (·.1)))
  own : W.ownsMap Tryz.prog 3 (plainElem (H := Unit) Tryz.prog 2) m n (dM M)
  lom : lo ≤ m
  him : m < hi
theorem AllI.keep {lo hi m A n cap : Nat} {a : Option Addr} {M : HM} {W W' : World} (h : AllI lo hi m A n cap a M W) (hk : KeepR lo hi W W') : AllI lo hi m A n cap a M W' := by
  refine ⟨hk.sl h.row, ?_, h.lom, h.him⟩
  obtain ⟨es, clock, h1, h2⟩ := h.own
  exact ⟨es, clock, (hk.same _ h.lom h.him).trans h1, h2⟩
theorem map_look {W : World} {m n : Nat} {M : HM} (h : W.ownsMap Tryz.prog 3 (plainElem (H := Unit) Tryz.prog 2) m n (dM M)) {x : Int} (hx : -9223372036854775808 ≤ x ∧ x ≤ 9223372036854775807) :
    (Instr.lookup 183 (.map (some m)) (.int .i64 x) false).run Tryz.prog W = .ok (.int .i64 (atM M x)) W := by
  obtain ⟨c, hrun, hat, _⟩ := h.lookup_int int_keyed' Tryz.underlying183 Tryz.underlying2 (Tryz.zeroValue2 _) (Maps.keyOf_int_mk Tryz.underlying3 (i64wf hx))
  rw [dM_at] at hat
  exact hrun.trans (by rw [(Lit.int.inj (DataW.lit.inj hat)).2])

set_option maxRecDepth 100000 in
set_option maxHeartbeats 2000000 in
theorem all1_in (nn : Nat) (hn : 1 ≤ nn) (l g : Nat) (v : Value) (f : Fm) (hr : Rising f.M) (hl : f.M.length ≤ 1099511627776) (hkw : ∀ p ∈ f.M, -9223372036854775808 ≤ p.1 ∧ p.1 ≤ 9223372036854775807) (J Jx : Nat → List (Int × Int) → World → Prop) (W : World) (hg : W.cell? ⟨g, 0, none⟩ = some v) (hv : AtP W v f)
    (hY : ∀ hi pre x W1, hi ≤ W1.heap.size → J hi pre W1 → pre ++ [x] <+: f.M → pre.length < f.M.length → YieldAt Fence.wide (nn - 1) Tryz.prog l #[.int .i64 x.1, .int .i64 x.2] W1 fun e W' =>
      (e = .returned (.bool true) ∧ J hi (pre ++ [x]) W' ∧ KeepR W.heap.size hi W1 W') ∨ (e = .returned (.bool false) ∧ Jx hi (pre ++ [x]) W'))
    (h0 : ∀ W0, Below W.heap.size W W0 → J W0.heap.size [] W0) :
    CallsIn Fence.wide nn Tryz.prog 128 #[.func (.yield l) #[] #[], .pointer (some ⟨g, 0, none⟩)] W fun e W' => (∃ v, e = .returned v) ∧
      ∃ hi, W.heap.size ≤ hi ∧ ((∃ xs, xs = f.M ∧ J hi xs W') ∨ (∃ pre, pre <+: f.M ∧ Jx hi pre W')) := by
  refine callsIn_of_wp Tryz.func128 rfl trivial ?_ rfl
  have HV := Lib.hid hv
  have HR := Lib.hid hr
  have HKW := Lib.hid hkw
  have HY := Lib.hid hY
  have H0 := Lib.hid h0
  clear hr hkw hY h0
  simp only [Tryz.ntmps128, List.size_toArray, List.length_cons, List.length_nil, Nat.reduceAdd, Nat.reduceSub, Array.replicate_succ, Array.replicate_zero, List.push_toArray, List.append_toArray, List.nil_append, List.cons_append]
  have done : ∀ W1, Below W.heap.size W W1 → f.M = [] → (∃ v : Value, (Ending.returned (.tuple #[]) : Ending) = .returned v) ∧ ∃ hi, W.heap.size ≤ hi ∧ ((∃ xs, xs = f.M ∧ J hi xs W1) ∨ (∃ pre, pre <+: f.M ∧ Jx hi pre W1)) :=
    fun W1 hb he => ⟨⟨_, rfl⟩, W1.heap.size, hb.size, .inl ⟨[], he.symm, H0.out W1 hb⟩⟩
  have HD := Lib.hid done
  clear done
  cases f with
  | nil =>
    subst hv
    gi_wp2
    refine ⟨trivial, (callsIn_wide.2 (there_any (f := .nil) HV.out)).mono ?_⟩
    rintro e w1 ⟨rfl, rfl⟩
    unfold Fm.there
    gi_wp2
    refine bodyPost_ret (results_none rfl _ _ _) rfl ?_
    exact HD.out _ (Below.refl _ _) rfl
  | zero =>
    obtain ⟨b, rfl, hb⟩ := hv
    gi_wp2
    refine ⟨trivial, (callsIn_wide.2 (there_any (f := .zero) HV.out)).mono ?_⟩
    rintro e w1 ⟨rfl, rfl⟩
    unfold Fm.there
    gi_wp2
    refine bodyPost_ret (results_none rfl _ _ _) rfl ?_
    exact HD.out _ (Below.refl _ _) rfl
  | live a =>
    obtain ⟨b, m, n, rfl, hb⟩ := hv
    have c2 : W.cell? ⟨b, 2, none⟩ = some (.map (some m)) := hb.blk.cell 2
    have HB := Lib.hid hb
    clear hb
    gi_wp2
    refine ⟨trivial, (callsIn_wide.2 (there_any (f := .live a) HV.out)).mono ?_⟩
    rintro e w1 ⟨rfl, rfl⟩
    obtain ⟨tt, htt⟩ : ∃ z, z = (Fm.live a).there := ⟨_, rfl⟩
    rw [← htt]
    unfold Fm.there at htt
    gi_wp2
    refine ⟨trivial, (callsIn_wide.2 (clone_any HB.out)).mono ?_⟩
    rintro e w2 ⟨rfl, hown, hb2⟩
    have HOW := Lib.hid hown
    have HB2 := Lib.hid hb2
    clear c2 hown hb2
    gi_wp2
    refine ⟨trivial, (callsIn_wide.2 (keys_any (some w1.heap.size) w2)).mono ?_⟩
    rintro e w3 ⟨rfl, rfl⟩
    gi_wp2
    refine ⟨trivial, (callsIn_wide.2 (sorted_any (g := w2.heap.size) (M := a.M) HR.out hl ((Blk.new w2 183 #[.map (some w1.heap.size)]).cell 0) (HOW.out.alloc _))).mono ?_⟩
    rintro e w4 ⟨v4, rfl, hrow, hb4⟩
    obtain ⟨A4, cap4, rfl⟩ := own_form hrow
    have hall : AllI w1.heap.size w4.heap.size w1.heap.size 0 n cap4 A4 a.M w4 := by
      have hs2 := HB2.out.size
      have hs4 := hb4.size
      have hlt := HOW.out.lt
      simp at hs4
      refine ⟨(Sl.of_own hrow).mono fun b hb h => ⟨?_, hb⟩, Chg.ownsMap (HOW.out.alloc _) (Chg.of (fun _ => False) hb4) id, Nat.le_refl _, by omega⟩
      rcases hrow.2 with ⟨hnil, _⟩ | ⟨g', cp, cur, hv, hgb, _⟩
      · rw [hnil] at h; cases h
      · rw [hv] at h
        injection h with h
        simp at hgb h
        omega
    have hb14 : Below w1.heap.size w1 w4 := by
      have hs2 := HB2.out.size
      exact (HB2.out.trans ((Below.refl _ w2).alloc hs2 _)).trans (hb4.mono (by simp; omega))
    have HALL := Lib.hid hall
    have HB4 := Lib.hid hb14
    have e4 : (0 : Int) ≤ (a.M.length : Int) := by omega
    have hl4 : a.M.length ≤ 1099511627776 := hl
    clear hrow hb4 hall hb14
    gi_wp2
    gi_loopw [18] (fun i wr => ∃ j : Nat, j ≤ a.M.length ∧ i = .int .i64 j ∧ J w4.heap.size (a.M.take j) wr ∧ KeepR w1.heap.size w4.heap.size w4 wr) (fun i _ => a.M.length - (intOf i).toNat)
    case atStart => exact ⟨0, Nat.zero_le _, rfl, H0.out w4 HB4.out, KeepR.refl _ _ _⟩
    case round =>
      obtain ⟨j, hj, rfl, hJs, hnx⟩ := hrel
      have hA := HALL.out.keep hnx
      have HJ := Lib.hid hJs
      have HNX := Lib.hid hnx
      have hsz := hnx.size
      clear hJs hnx
      by_cases hlt : j < a.M.length
      · obtain ⟨gb, go, x, rfl, _, hx, hc⟩ := sl_int_at hA.row hlt
        obtain ⟨p, hp⟩ : ∃ p, a.M[j]? = some p := ⟨_, List.getElem?_eq_getElem hlt⟩
        have hpx : p.1 = x := by rw [List.getElem?_map, hp] at hx; simpa using hx
        subst hpx
        have hlk := map_look hA.own (HKW.out p (List.mem_of_getElem? hp))
        rw [at_get (M := a.M) HR.out hp] at hlk
        have hsu : a.M.take (j + 1) = a.M.take j ++ [p] := by rw [List.take_add_one, hp]; rfl
        have hlj : (a.M.take j).length < a.M.length := by rw [List.length_take]; omega
        have HSU := Lib.hid hsu
        obtain ⟨fn, tmps, assign, body, hy, hRR⟩ := HY.out w4.heap.size _ p wr hsz HJ.out (by show _ <+: a.M; rw [← hsu]; exact List.take_prefix _ _) hlj
        obtain ⟨p1, p2⟩ := p
        dsimp only at hy hlk hc
        have HRR := Lib.hid hRR
        have e0 : (0 : Int) ≤ (j : Int) := by omega
        have e1 : (j : Int) < (a.M.length : Int) := by omega
        clear hx hp hsu hlj hRR hA
        gi_wp2
        refine HRR.out.mono ?_
        rintro e W3 (⟨rfl, hJ3, hk3⟩ | ⟨rfl, hJx3⟩)
        · gi_wp2
          go_roundw
          case rel => exact ⟨j + 1, by omega, by go_num, by rw [HSU.out]; exact hJ3, HNX.out.trans hk3⟩
          case measure => simp [intOf]; omega
        · gi_wp2
          refine bodyPost_ret (results_none rfl _ _ _) rfl ?_
          exact ⟨⟨_, rfl⟩, w4.heap.size, HB4.out.size, .inr ⟨_, by rw [← HSU.out]; exact List.take_prefix _ _, hJx3⟩⟩
      · obtain rfl : j = a.M.length := by omega
        clear hA
        gi_wp2
        go_end0
        have := HJ.out
        rw [List.take_of_length_le (Nat.le_refl _)] at this
        exact ⟨⟨_, rfl⟩, w4.heap.size, HB4.out.size, .inl ⟨_, rfl, this⟩⟩

theorem all1_stops (nn : Nat) (hn : 1 ≤ nn) (g : Nat) (v : Value) (f : Fm) (hr : Rising f.M) (hl : f.M.length ≤ 1099511627776) (hkw : ∀ p ∈ f.M, -9223372036854775808 ≤ p.1 ∧ p.1 ≤ 9223372036854775807) (w : World) (hg : w.cell? ⟨g, 0, none⟩ = some v) (hv : AtP w v f) :
    SeqStopsH Fence.wide nn Tryz.prog 128 #[.pointer (some ⟨g, 0, none⟩)] (fun x : Int × Int => #[Value.int .i64 x.1, Value.int .i64 x.2]) (fun ys => ys = f.M) (fun pre => pre <+: f.M) f.M.length w := fun l J Jx W hW _ _ hY h0 =>
  all1_in nn hn l g v f hr hl hkw J Jx W ((hW.cell (p := ⟨g, 0, none⟩) (World.block_lt_of_cell? w ⟨g, 0, none⟩ hg)).trans hg) (hv.grow hW) hY h0
end Go.Proofs.YtckdpejdnejhfaaGreat.Ac

/- Account: Held, Free. -/
namespace Go.Proofs.YtckdpejdnejhfaaGreat.Ac
open Go.RowKit Go.Shelf Go.Maps
open Go.Proofs.YtckdpejdnejhfaaGreat.Vb
attribute [local go_sem] Oper.semAt_some

theorem len_le_sum : ∀ {M : HM}, (∀ p ∈ M, 1 ≤ p.2) → (M.length : Int) ≤ sumM M
  | [], _ => by simp [sumM]
  | x :: r, h => by
    have := len_le_sum (M := r) fun p hp => h p (by simp [hp])
    have h1 := h x (by simp)
    rw [sumM_cons]
    simp
    omega
/-- what the functions that go over what is held ask -/
structure HOk (M : HM) : Prop where
  rise : Rising M
  each : ∀ p ∈ M, 0 ≤ p.1 ∧ p.1 ≤ 9223372036854775807 ∧ 1 ≤ p.2
  sum : sumM M ≤ 1099511627776
theorem Acc.Ok.h {a : Acc} (h : a.Ok) : HOk a.M := ⟨h.rise, h.each, h.sum⟩
theorem Fm.Ok.h {f : Fm} (h : f.Ok) : HOk f.M := by
  cases f with
  | live a => exact Acc.Ok.h h
  | nil => exact ⟨List.Pairwise.nil, fun p hp => (by cases hp), by decide⟩
  | zero => exact ⟨List.Pairwise.nil, fun p hp => (by cases hp), by decide⟩
theorem HOk.len {M : HM} (h : HOk M) : M.length ≤ 1099511627776 := by
  have := len_le_sum fun p hp => (h.each p hp).2.2
  have := h.sum
  omega
theorem HOk.pre {M pre : HM} (h : HOk M) (hp : pre <+: M) : 0 ≤ sumM pre ∧ sumM pre ≤ 1099511627776 := by
  obtain ⟨t, rfl⟩ := hp
  have h1 : 0 ≤ sumM t := sumM_nonneg fun p hp => by have := h.each p (by simp [hp]); omega
  have h2 : 0 ≤ sumM pre := sumM_nonneg fun p hp => by have := h.each p (by simp [hp]); omega
  have h3 := h.sum
  rw [sumM_append] at h3
  omega
theorem sumM_snoc (pre : HM) (x : Int × Int) : sumM (pre ++ [x]) = sumM pre + x.2 := by
  rw [sumM_append, sumM_cons]
  show _ = _
  simp [sumM]

set_option maxRecDepth 100000 in
set_option maxHeartbeats 4000000 in
theorem held_any {v : Value} {f : Fm} {w : World} (h : AtP w v f) (ho : f.Ok) : Calls Tryz.prog 79 #[v] w fun e w' => e = .returned (.int .i64 (sumM f.M)) ∧ Below w.heap.size w w' := by
  have HV := Lib.hid h
  have HO := Lib.hid ho.h
  have hp := h.ptr
  clear h ho
  refine (callsIn_wide (n := 3)).1 (callsIn_of_wp_marks Tryz.func79 rfl trivial ((wpIn_wide (n := 3)).2 ?_))
  simp only [Tryz.ntmps79, List.size_toArray, List.length_cons, List.length_nil, Nat.reduceAdd, Nat.reduceSub, Array.replicate_succ, Array.replicate_zero, List.push_toArray, List.append_toArray, List.nil_append, List.cons_append]
  go_wp2_with fail
  refine (all_any hp _).mono ?_
  rintro e w1 ⟨rfl, rfl⟩
  unfold allV
  go_wp2_with fail
  obtain ⟨U0, hU0⟩ : ∃ U, U = ((w.alloc (.cells #[.int .i64 0] 2)).alloc (.cells #[v] 136)) := ⟨_, rfl⟩
  have hB : Below w.heap.size w U0 := by rw [hU0]; exact ((Below.refl _ _).alloc (Nat.le_refl _) _).alloc (by simp) _
  have hS : Blk U0 w.heap.size 2 #[.int .i64 0] := by rw [hU0]; exact (Blk.new w _ _).alloc _
  have hA : Blk U0 (w.heap.size + 1) 136 #[v] := by rw [hU0]; exact Blk.new' _ _ (by simp)
  rw [← hU0]
  have HB := Lib.hid hB
  have HS := Lib.hid hS
  have HA := Lib.hid hA
  clear hU0 hB hS hA
  refine (wpIn_wide (n := 3)).1 ?_
  refine' wpIn_rangeFunc_H (F := Fence.wide) (n := 3) rfl (by omega) (gf := 128) (lb := #[.pointer (some ⟨w.heap.size + 1, 0, none⟩)]) rfl trivial (enters_of Tryz.func128 (by kernel_rfl) rfl)
    (all1_stops 2 (by omega) (w.heap.size + 1) v f HO.out.rise HO.out.len (fun p hp => by have := HO.out.each p hp; omega) U0 (HA.out.cell 0) (HV.out.grow HB.out)) (Below.refl _ _) (fun _ => rfl)
    (fun _ pre W => Blk W w.heap.size 2 #[.int .i64 (sumM pre)] ∧ Below w.heap.size w W)
    (fun _ _ _ _ => False)
    (fun _ => OwnFrom.and (Own.from (fun _ _ _ _ h hg hr => h.cells hg hr) _) (ownFrom_below (Nat.le_refl _) HB.out.size))
    (fun _ _ => fun _ _ _ _ h _ _ => h)
    (fun W0 hW0 => ⟨HS.out.grow hW0, HB.out.trans (hW0.mono HB.out.size)⟩) _ ?assign ?body ?done ?stop
  case assign =>
    intro l x W K hK
    gi_wp2
    exact hK
  case body =>
    rintro hi l pre x W _ ⟨hI, hB⟩ hsp hlt
    obtain ⟨hx0, hx1⟩ := HO.out.pre hsp
    rw [sumM_snoc] at hx0 hx1
    have hsn := sumM_snoc pre x
    obtain ⟨xa, xb⟩ := x
    obtain ⟨z, hz⟩ : ∃ z, z = sumM pre := ⟨_, rfl⟩
    rw [← hz] at hx0 hx1 hI hsn
    simp only at hx0 hx1 hsn
    have p0 : W.cell? ⟨w.heap.size, 0, none⟩ = some (.int .i64 z) := hI.cell 0
    have p1 : W.frozen? ⟨w.heap.size, 0, none⟩ = false := hI.frozen 0
    have hwr : IntKind.i64.wrap (z + xb) = z + xb := IntWalk.i64_in _ (by omega)
    have HI := Lib.hid hI
    have HSN := Lib.hid hsn
    have HBB := Lib.hid hB
    have hs0 := HB.out.size
    clear hI hB hsp hz hsn
    dsimp only
    gi_wp2
    refine ⟨KeepsOthers.setCell _ _ _, KeepR.set W (.inl (by simp; omega)) _, ?_, HBB.out.setCell (p := ⟨w.heap.size, 0, none⟩) (by simp) _⟩
    rw [HSN.out]
    exact HI.out.set_ 0 (.int .i64 (z + xb))
  case done =>
    rintro hi D ys W hD hys ⟨hI, hB⟩ hK
    subst hys
    have p0 : W.cell? ⟨w.heap.size, 0, none⟩ = some (.int .i64 (sumM f.M)) := hI.cell 0
    have HBB := Lib.hid hB
    have HK := Lib.hid hK
    have hD' : w.heap.size ≤ D := by have := HB.out.size; omega
    clear hI hB hK
    go_wp2_with fail
    refine ⟨by simp, .inl ⟨_, _, rfl, run_takeDeferred HK.out, ?_⟩⟩
    exact ⟨.int .i64 (sumM f.M), by simp [results, Tryz.results79, go_sem], rfl, HBB.out.trans (belowK_b (w := w) (Nat.le_refl _) W D _ _ hD' HK.out rfl rfl)⟩
  case stop =>
    rintro hi D c pre W hD hpre2 hf hK
    exact hf.elim
end Go.Proofs.YtckdpejdnejhfaaGreat.Ac

/- Account: Free, set. -/
namespace Go.Proofs.YtckdpejdnejhfaaGreat.Ac
open Go.RowKit Go.Shelf Go.Maps
open Go.Proofs.YtckdpejdnejhfaaGreat.Vb
attribute [local go_sem] Oper.semAt_some

def Fm.free (f : Fm) : Int := f.bud - f.sp - sumM f.M
theorem Fm.Ok.b {f : Fm} (h : f.Ok) : coin f.bud ∧ coin f.sp := by
  cases f with
  | live a => exact ⟨Acc.Ok.bud h, Acc.Ok.sp h⟩
  | nil => exact ⟨by decide, by decide⟩
  | zero => exact ⟨by decide, by decide⟩
theorem HOk.nn {M : HM} (h : HOk M) : 0 ≤ sumM M := (h.pre (List.prefix_refl _)).1

set_option maxHeartbeats 1000000 in
theorem free_any {v : Value} {f : Fm} {w : World} (h : AtP w v f) (ho : f.Ok) : Calls Tryz.prog 164 #[v] w fun e w' => e = .returned (.int .i64 f.free) ∧ Below w.heap.size w w' := by
  obtain ⟨⟨b1, b2⟩, s1, s2⟩ := ho.b
  have h1 := ho.h.nn
  have h2 := ho.h.sum
  have HV := Lib.hid h
  have HO := Lib.hid ho
  have HF := Lib.hid (show f.free = f.bud - f.sp - sumM f.M from rfl)
  obtain ⟨fr, hfr⟩ : ∃ z, z = f.free := ⟨_, rfl⟩
  rw [← hfr] at HF ⊢
  obtain ⟨x, hx⟩ : ∃ z, z = f.bud := ⟨_, rfl⟩
  obtain ⟨y, hy⟩ : ∃ z, z = f.sp := ⟨_, rfl⟩
  obtain ⟨z, hz⟩ : ∃ z, z = sumM f.M := ⟨_, rfl⟩
  have HX := Lib.hid hx
  have HY := Lib.hid hy
  have HZ := Lib.hid hz
  rw [← hx, ← hy, ← hz] at HF
  rw [← hx] at b1 b2
  rw [← hy] at s1 s2
  rw [← hz] at h1 h2
  have w1 : IntKind.i64.wrap (x - y) = x - y := IntWalk.i64_in _ (by omega)
  have w2 : IntKind.i64.wrap (x - y - z) = x - y - z := IntWalk.i64_in _ (by omega)
  clear h ho hfr hx hy hz
  go_enter Tryz.func164, Tryz.ntmps164
  go_wp2_with fail
  refine (budget_any HV.out).mono ?_
  rintro e w3 ⟨rfl, rfl⟩
  rw [← HX.out]
  go_wp2_with fail
  refine (spent_any HV.out).mono ?_
  rintro e w4 ⟨rfl, rfl⟩
  rw [← HY.out]
  go_wp2_with fail
  refine (held_any HV.out HO.out).mono ?_
  rintro e w5 ⟨rfl, hb5⟩
  rw [← HZ.out]
  have HB := Lib.hid hb5
  clear hb5
  go_wp2_with fail
  go_ret
  exact ⟨by rw [HF.out]; rfl, HB.out⟩

theorem setM_zero (M : HM) (x : Int) : setM M x 0 = delM M x := if_pos rfl
theorem setM_put (M : HM) (x : Int) {v : Int} (h : v ≠ 0) : setM M x v = putM M x v := if_neg h
def Acc.set (a : Acc) (x v : Int) : Acc := { a with M := setM a.M x v }

set_option maxHeartbeats 1000000 in
theorem set_any {b m n : Nat} {a : Acc} {w : World} (h : AccAt w b m n a) (hn : n < maxLen) {x v : Int} (hx : -9223372036854775808 ≤ x ∧ x ≤ 9223372036854775807) (hv : -9223372036854775808 ≤ v ∧ v ≤ 9223372036854775807) :
    Calls Tryz.prog 146 #[.pointer (some ⟨b, 0, none⟩), .int .i64 x, .int .i64 v] w fun e w' => e = .returned (.tuple #[]) ∧ AccAt w' b m (n + 1) (a.set x v) ∧ Chg (· = m) w w' := by
  have c2 : w.cell? ⟨b, 2, none⟩ = some (.map (some m)) := h.blk.cell 2
  have HA := Lib.hid h
  have HX := Lib.hid hx
  have HV := Lib.hid hv
  by_cases h0 : v = 0
  · subst h0
    have HS := Lib.hid (show a.set x 0 = { a with M := delM a.M x } from by unfold Acc.set; rw [setM_zero])
    obtain ⟨W', hrun, h1, h2⟩ := h.del hx 0
    have H1 := Lib.hid h1
    have H2 := Lib.hid h2
    clear h h1 h2
    go_enter Tryz.func146, Tryz.ntmps146
    go_wp2_with fail
    refine bodyPost_ret (results_none rfl _ _ _) rfl ?_
    exact ⟨rfl, by rw [HS.out]; exact H1.out.mono (Nat.le_succ _), H2.out⟩
  · have HS := Lib.hid (show a.set x v = { a with M := putM a.M x v } from by unfold Acc.set; rw [setM_put _ _ h0])
    obtain ⟨W', hrun, h1, h2⟩ := h.put hn hx hv
    have H1 := Lib.hid h1
    have H2 := Lib.hid h2
    have hb : (v == 0) = false := by simpa using h0
    clear h h1 h2 h0
    go_enter Tryz.func146, Tryz.ntmps146
    go_wp2_with fail
    go_end0
    exact ⟨rfl, by rw [HS.out]; exact H1.out, H2.out⟩
end Go.Proofs.YtckdpejdnejhfaaGreat.Ac

/- Account: may, what is done by function values. -/
namespace Go.Proofs.YtckdpejdnejhfaaGreat.Ac
open Go.RowKit Go.Shelf Go.Maps
open Go.Proofs.YtckdpejdnejhfaaGreat.Vb
attribute [local go_sem] Oper.semAt_some

set_option maxHeartbeats 1000000 in
theorem may_live {b m n : Nat} {a : Acc} {w : World} (h : AccAt w b m n a) (right : Bool) (gm gd : Nat) (am bm bd : Array Value) (x mv : Int)
    (egm : ∀ args W, (callFunc gm args).run Tryz.prog W = .ok (.enter gm args) W) (egd : ∀ args W, (callFunc gd args).run Tryz.prog W = .ok (.enter gd args) W)
    (hm : Calls Tryz.prog gm (am ++ bm) w fun e W' => e = .returned (.int .i64 mv) ∧ Below w.heap.size w W') (Q : World → Prop)
    (hd : right = true → coin x → x ≤ mv → ∀ W, Below w.heap.size w W → Calls Tryz.prog gd bd W fun e W' => e = .returned (.tuple #[]) ∧ Q W') :
    Calls Tryz.prog 136 #[.pointer (some ⟨b, 0, none⟩), .bool right, .func (.func gm) am bm, .int .i64 x, .func (.func gd) #[] bd] w fun e w' =>
      (right = false ∨ ¬ coin x) ∧ e = .returned (.int .i64 2) ∧ w' = w ∨ right = true ∧ coin x ∧ mv < x ∧ e = .returned (.int .i64 8) ∧ Below w.heap.size w w' ∨ right = true ∧ coin x ∧ x ≤ mv ∧ e = .returned (.int .i64 0) ∧ Q w' := by
  have HV := Lib.hid (show AtP w (.pointer (some ⟨b, 0, none⟩)) (.live a) from ⟨b, m, n, rfl, h⟩)
  have HM := Lib.hid hm
  have HD := Lib.hid hd
  clear h hm hd
  have HT := Lib.hid (show (Fm.live a).there = true from rfl)
  cases right with
  | false =>
    go_enter Tryz.func136, Tryz.ntmps136
    go_wp2_with fail
    refine (there_any HV.out).mono ?_
    rintro e w3 ⟨rfl, rfl⟩
    rw [HT.out]
    go_wp2_with fail
    go_ret
    exact .inl ⟨.inl trivial, rfl, rfl⟩
  | true =>
    by_cases hc : coin x
    · have HC := Lib.hid hc
      have HDC := Lib.hid (decide_eq_true hc)
      clear hc
      go_enter Tryz.func136, Tryz.ntmps136
      go_wp2_with fail
      refine (there_any HV.out).mono ?_
      rintro e w3 ⟨rfl, rfl⟩
      rw [HT.out]
      go_wp2_with fail
      refine (coins_any x w3).mono ?_
      rintro e w4 ⟨rfl, rfl⟩
      rw [HDC.out]
      go_wp2_with fail
      refine HM.out.mono ?_
      rintro e w5 ⟨rfl, hb5⟩
      have HB := Lib.hid hb5
      clear hb5
      by_cases hlt : mv < x
      · go_wp2_with fail
        go_ret
        exact .inr (.inl ⟨trivial, HC.out, hlt, rfl, HB.out⟩)
      · have HLE := Lib.hid (show x ≤ mv by omega)
        go_wp2_with fail
        refine (HD.out trivial HC.out HLE.out w5 HB.out).mono ?_
        rintro e w6 ⟨rfl, hq⟩
        have HQ := Lib.hid hq
        clear hq
        go_wp2_with fail
        go_ret
        exact .inr (.inr ⟨trivial, HC.out, HLE.out, rfl, HQ.out⟩)
    · have HC := Lib.hid hc
      have HDC := Lib.hid (decide_eq_false hc)
      clear hc
      go_enter Tryz.func136, Tryz.ntmps136
      go_wp2_with fail
      refine (there_any HV.out).mono ?_
      rintro e w3 ⟨rfl, rfl⟩
      rw [HT.out]
      go_wp2_with fail
      refine (coins_any x w3).mono ?_
      rintro e w4 ⟨rfl, rfl⟩
      rw [HDC.out]
      go_wp2_with fail
      go_ret
      exact .inl ⟨.inr HC.out, rfl, rfl⟩
end Go.Proofs.YtckdpejdnejhfaaGreat.Ac

/- Account: the function values that may is handed. -/
namespace Go.Proofs.YtckdpejdnejhfaaGreat.Ac
open Go.RowKit Go.Shelf Go.Maps
open Go.Proofs.YtckdpejdnejhfaaGreat.Vb
attribute [local go_sem] Oper.semAt_some

theorem at_bound {M : HM} (h : HOk M) (k : Int) : 0 ≤ atM M k ∧ atM M k ≤ sumM M := by
  have h1 := sum_del k h.rise
  have h2 : 0 ≤ sumM (delM M k) := sumM_nonneg fun p hp => by have := h.each p (List.mem_filter.1 hp).1; omega
  refine ⟨?_, by omega⟩
  unfold atM
  cases hf : M.find? (fun p => p.1 == k) with
  | none => exact Int.le_refl _
  | some p => have := h.each p (List.mem_of_find?_eq_some hf); simp only; omega
def Acc.mostH (a : Acc) (x : Int) : Int := a.free + atM a.M x
theorem release1_any (w : World) : Calls Tryz.prog 144 #[] w fun e w' => e = .returned (.int .i64 0) ∧ w' = w := by
  go_enter Tryz.func144, Tryz.ntmps144
  go_wp2_with fail
  go_ret
  exact ⟨rfl, rfl⟩

set_option maxHeartbeats 1000000 in
theorem release2_any {b m n g0 g1 : Nat} {a : Acc} {w : World} (h : AccAt w b m n a) (hn : n < maxLen) {x : Int} (hx : -9223372036854775808 ≤ x ∧ x ≤ 9223372036854775807) (h0 : Blk w g0 136 #[.pointer (some ⟨b, 0, none⟩)]) (h1 : Blk w g1 3 #[.int .i64 x]) :
    Calls Tryz.prog 145 #[.pointer (some ⟨g0, 0, none⟩), .pointer (some ⟨g1, 0, none⟩)] w fun e w' => e = .returned (.tuple #[]) ∧ AccAt w' b m (n + 1) (a.set x 0) ∧ Chg (· = m) w w' := by
  have k0 : w.cell? ⟨g0, 0, none⟩ = some (.pointer (some ⟨b, 0, none⟩)) := h0.cell 0
  have k1 : w.cell? ⟨g1, 0, none⟩ = some (.int .i64 x) := h1.cell 0
  have HA := Lib.hid h
  have HX := Lib.hid hx
  have HN := Lib.hid hn
  clear h hx hn h0 h1
  go_enter Tryz.func145, Tryz.ntmps145
  go_wp2_with fail
  refine (set_any HA.out HN.out HX.out (by omega)).mono ?_
  rintro e w1 ⟨rfl, h1, h2⟩
  have H1 := Lib.hid h1
  have H2 := Lib.hid h2
  clear h1 h2
  go_wp2_with fail
  go_end0
  exact ⟨rfl, H1.out, H2.out⟩

end Go.Proofs.YtckdpejdnejhfaaGreat.Ac

/- Account: Hold, Can, Release. -/
namespace Go.Proofs.YtckdpejdnejhfaaGreat.Ac
open Go.RowKit Go.Shelf Go.Maps
open Go.Proofs.YtckdpejdnejhfaaGreat.Vb
attribute [local go_sem] Oper.semAt_some

def Acc.holdE (a : Acc) (x v : Int) : Int := Ac.holdE a.bud a.sp a.M x v
set_option maxRecDepth 100000 in
set_option maxHeartbeats 2000000 in
theorem release_live {b m n : Nat} {a : Acc} {w : World} (h : AccAt w b m n a) (hn : n < maxLen) {x : Int} (hx : -9223372036854775808 ≤ x ∧ x ≤ 9223372036854775807) :
    Calls Tryz.prog 123 #[.pointer (some ⟨b, 0, none⟩), .int .i64 x] w fun e w' =>
      (x < 0 ∧ e = .returned (.tuple #[.int .i64 (atM a.M x), .int .i64 2]) ∧ Below w.heap.size w w') ∨ (0 ≤ x ∧ e = .returned (.tuple #[.int .i64 (atM a.M x), .int .i64 0]) ∧ AccAt w' b m (n + 1) (a.set x 0) ∧ Chg (· = m) w w') := by
  obtain ⟨U, hU⟩ : ∃ U, U = (w.alloc (.cells #[.pointer (some ⟨b, 0, none⟩)] 136)).alloc (.cells #[.int .i64 x] 3) := ⟨_, rfl⟩
  have hB : Below w.heap.size w U := by rw [hU]; exact ((Below.refl _ _).alloc (Nat.le_refl _) _).alloc (by simp) _
  have b0 : Blk U w.heap.size 136 #[.pointer (some ⟨b, 0, none⟩)] := by rw [hU]; exact (Blk.new w _ _).alloc _
  have b1 : Blk U (w.heap.size + 1) 3 #[.int .i64 x] := by rw [hU]; exact Blk.new' _ _ (by simp)
  have HU := Lib.hid hU
  have HB := Lib.hid hB
  have HA := Lib.hid (h.grow hB)
  have HX := Lib.hid hx
  have may := fun right => may_live HA.out right 144 145 #[] #[] #[.pointer (some ⟨w.heap.size, 0, none⟩), .pointer (some ⟨w.heap.size + 1, 0, none⟩)] 0 0
    (enters_of Tryz.func144 (by kernel_rfl) rfl) (enters_of Tryz.func145 (by kernel_rfl) rfl) (by rw [Array.empty_append]; exact (release1_any U).mono fun e w' ⟨h1, h2⟩ => ⟨h1, by rw [h2]; exact Below.refl _ _⟩)
    (fun W => AccAt W b m (n + 1) (a.set x 0) ∧ Chg (· = m) w W) (fun _ _ _ W hW => (release2_any (HA.out.grow hW) hn hx (b0.grow hW) (b1.grow hW)).mono fun e w' ⟨h1, h2, h3⟩ => ⟨h1, h2, ((Chg.of _ hB).grow hW).step h3 fun _ _ h => h⟩)
  have MAY := Lib.hid may
  obtain ⟨was, hwas⟩ : ∃ z, z = atM a.M x := ⟨_, rfl⟩
  rw [← hwas]
  have HW := Lib.hid hwas
  have k0 : U.cell? ⟨w.heap.size, 0, none⟩ = some (.pointer (some ⟨b, 0, none⟩)) := b0.cell 0
  have k1 : U.cell? ⟨w.heap.size + 1, 0, none⟩ = some (.int .i64 x) := b1.cell 0
  clear h hU hB b0 b1 may hx hwas
  go_enter Tryz.func123, Tryz.ntmps123
  by_cases h0 : 0 ≤ x
  · have H0 := Lib.hid h0
    go_wp2_with fail
    rw [← HU.out]
    refine (at_any (f := .live a) ⟨b, m, n, rfl, HA.out⟩ HX.out).mono ?_
    rintro e w5 ⟨rfl, hw5⟩
    rw [hw5]
    clear hw5
    rw [show atM (Fm.live a).M x = was from HW.out.symm]
    clear HU
    go_wp2_with fail
    refine (MAY.out true).mono ?_
    rintro e w5 (⟨hr, rfl, rfl⟩ | ⟨_, hc, hlt, rfl, hb⟩ | ⟨_, hc, hle, rfl, hq1, hq2⟩)
    · exact absurd (by decide) (hr.resolve_left (by simp))
    · exact absurd hlt (by decide)
    · have HQ1 := Lib.hid hq1
      have HQ2 := Lib.hid hq2
      clear hc hle hq1 hq2
      go_wp2_with fail
      exact bodyPost_ret (v := .tuple #[.int .i64 was, .int .i64 0]) (by simp [results, Tryz.results123, go_sem]) rfl (.inr ⟨H0.out, rfl, HQ1.out, HQ2.out⟩)
  · have H0 := Lib.hid h0
    go_wp2_with fail
    rw [← HU.out]
    refine (at_any (f := .live a) ⟨b, m, n, rfl, HA.out⟩ HX.out).mono ?_
    rintro e w5 ⟨rfl, hw5⟩
    rw [hw5]
    clear hw5
    rw [show atM (Fm.live a).M x = was from HW.out.symm]
    clear HU
    have hd : decide (x ≥ 0) = false := by simp; omega
    have h00 : ¬ 0 ≤ x := by omega
    go_wp2_with fail
    refine (MAY.out false).mono ?_
    rintro e w5 (⟨hr, rfl, rfl⟩ | ⟨hf, _⟩ | ⟨hf, _⟩)
    · clear hr
      go_wp2_with fail
      exact bodyPost_ret (v := .tuple #[.int .i64 was, .int .i64 2]) (by simp [results, Tryz.results123, go_sem]) rfl (.inl ⟨by have := H0.out; omega, rfl, HB.out⟩)
    · cases hf
    · cases hf
end Go.Proofs.YtckdpejdnejhfaaGreat.Ac
