/- Joined by program. -/
import Derived.Test.YtckdpejdnejhfaaGreatZp
set_option linter.all false
namespace Go.Proofs.YtckdpejdnejhfaaGreat
namespace Ho
open Go.RowKit Vb Ac
theorem zaJ {P:Program} {fn:Func} {p q:Tmp} {a:TypeId} (h:fn.results=#[.cell p a,.tmp q]) (tmps:Array Value) (w:World) (g:Nat) (t:TypeId) (cs:Array Value) (c:Nat×Nat) (d:TypeDesc)
  (j:tmps.getD p undef=.pointer (some ⟨g,0,none⟩)) (f:w.heap[g]? =some (.cells cs t c))
  (k:P.underlying a=some d) (e:(match d with| .struct _| .array _ _=>true|_=>false)=true) (i:(P.info? a).map (·.size)=some cs.size):
  (results fn tmps).run P w=.ok (.tuple #[.agg cs,tmps.getD q undef]) w:=by
 have b:tmps[p]?.getD undef=.pointer (some ⟨g,0,none⟩):=by simpa using j
 simp[results,h,b,asAddr,run_loadVar_row w g t a cs c d f k e i]
theorem below_setRow {B:Nat} {a w:World} (h:Below B a w) {g:Nat} (hg:B≤g) (cs:Array Value):Below B a (w.setRow g cs):=
 ⟨h.os,h.tape,h.output,by rw[setRow_size];exact h.size,fun k hk=>(setRow_other w g k cs (by omega)).trans (h.block k hk)⟩
theorem zcz {p:LotR} (h:zbO p=true):(1≤p.kind∧p.kind≤5)∧(p.kind=2→zbd p=true):=by
 unfold zbO zl1 at h;simp only[Bool.and_eq_true] at h;have a:=h.2
 split at a
 ·exact ⟨by omega,by omega⟩
 ·split at a
  ·exact ⟨by omega,fun _=>a⟩
  ·split at a
   ·exact ⟨by omega,by omega⟩
   ·split at a
    ·exact ⟨by omega,by omega⟩
    ·split at a
     ·exact ⟨by omega,by omega⟩
     ·cases a
end Ho
end Go.Proofs.YtckdpejdnejhfaaGreat
