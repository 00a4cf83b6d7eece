/- What stands within query: the boxes, the query that is read; the closure comma. -/
import Derived.Test.YtinmiekbhoemjaaDoorPack21
import Derived.Test.YtinmiekbhoemjaaDoorQryPar6
import Derived.Test.YtinmiekbhoemjaaDoorQryPar4
set_option linter.unusedVariables false
namespace Go.Proofs.YtinmiekbhoemjaaDoor.Qry
open Go.RowKit Words Tree QryP Kit Sch SchP Owned

def zeroQ : Array Value := #[.int .i64 0, .int .i64 0, .string ⟨#[]⟩, .string ⟨#[]⟩, .string ⟨#[]⟩, .slice none 0 0, .slice none 0 0, .int .i64 0, .int .i64 0, .slice none 0 0]
/-- Within query: the boxes of p, of above, of the result; q's box holds q, its rows lie in the blocks bs. -/
structure Fr (s : ByteArray) (gp : Nat) (w0 : World) (gq above j : Nat) (q : QT) (us : List Value) (bs : List Nat) (w : World) : Prop where
  pa : Pa s gp j w
  grown : w0.grownBy w (some gp)
  bp : Blk w w0.heap.size 53 #[.pointer (some ⟨gp, 0, none⟩)]
  ba : Blk w (w0.heap.size + 1) 3 #[.int .i64 above]
  br : Blk w (w0.heap.size + 2) 25 zeroQ
  bq : Blk w gq 25 us.toArray
  oq : OQ w (gq + 1) q us bs
  nd : bs.Nodup
  hq : w0.heap.size + 2 < gq
  hp : gp < w0.heap.size
section
variable {s : ByteArray} {gp gq above j j' : Nat} {w0 w w' : World} {q q' : QT} {us : List Value} {bs bs' : List Nat}
/-- A method of the parser has run. -/
theorem Fr.same (h : Fr s gp w0 gq above j q us bs w) (hg : w.grownBy w' (some gp)) (hp : Pa s gp j' w') : Fr s gp w0 gq above j' q us bs w' :=
  ⟨hp, grown_trans' h.grown hg, h.bp.grown hg (fun e => by injection e with e; have := h.hp; omega), h.ba.grown hg (fun e => by injection e with e; have := h.hp; omega), h.br.grown hg (fun e => by injection e with e; have := h.hp; omega),
    h.bq.grown hg (fun e => by injection e with e; have := h.hp; have := h.hq; omega), h.oq.grown hg (fun g hm e => by injection e with e; have := (h.oq.mem g hm).1; have := h.hp; have := h.hq; omega), h.nd, h.hq, h.hp⟩
theorem Fr.drewN (h : Fr s gp w0 gq above j q us bs w) (n : Nat) : Fr s gp w0 gq above j q us bs (w.drewN n) := h.same (only_drewN (World.grownBy.refl w _) n) (h.pa.drewN n)
/-- A cell of q's box is written. -/
theorem Fr.set (h : Fr s gp w0 gq above j q us bs w) (i : Nat) (u : Value) (hoq : OQ w (gq + 1) q' (us.set i u) bs') (hnd : bs'.Nodup) : Fr s gp w0 gq above j q' (us.set i u) bs' (w.setCell ⟨gq, i, none⟩ u) := by
  have hp := h.hp
  have hq := h.hq
  refine ⟨⟨h.pa.blk.far (by show gp ≠ gq; omega) u, h.pa.le⟩, only_setCell h.grown (.inr (by show w0.heap.size ≤ gq; omega)) u, h.bp.far (by show w0.heap.size ≠ gq; omega) u, h.ba.far (by show w0.heap.size + 1 ≠ gq; omega) u, h.br.far (by show w0.heap.size + 2 ≠ gq; omega) u, ?_, ?_, hnd, h.hq, h.hp⟩
  · have := h.bq.set_ i u
    simpa using this
  · exact hoq.keep fun g hm => Below.heap_setCell _ _ _ _ (by have := (hoq.mem g hm).1; show g ≠ gq; omega)
theorem Fr.lt (h : Fr s gp w0 gq above j q us bs w) : ∀ g ∈ bs, g < w.heap.size := fun g hm => (h.oq.mem g hm).2
end
/-- What a method answers within query: q has become another. -/
def OutF (s : ByteArray) (gp : Nat) (w0 : World) (gq above j : Nat) (x : E (QT × R)) (e : Ending) (w' : World) : Prop := match x with
  | .ok (q, r) => e = .returned (.tuple #[]) ∧ ∃ j' us bs, j ≤ j' ∧ rem s j' = r ∧ Fr s gp w0 gq above j' q us bs w'
  | .error (p, c) => e = faultE ((s.size - p : Nat) : Int) c ∧ w0.grownBy w' (some gp)
set_option maxRecDepth 100000 in
set_option maxHeartbeats 4000000 in
theorem comma_any (bp : Nat) (s : ByteArray) (gp k : Nat) (w : World) (h : Pa s gp k w) (hs : s.size ≤ 4096) (hb : w.cell? ⟨bp, 0, none⟩ = some (.pointer (some ⟨gp, 0, none⟩))) : Calls Tryd.prog 63 #[.pointer (some ⟨bp, 0, none⟩)] w (OutU s gp k w (wantS 44 (rem s k))) := by
  have HW := Lib.hid (want_any 44 s gp k w h hs)
  obtain ⟨x, hx⟩ : ∃ x, wantS 44 (rem s k) = x := ⟨_, rfl⟩
  rw [hx] at HW ⊢
  clear hx
  go_enter Tryd.func63, Tryd.ntmps63
  go_wp2_with fail
  refine HW.out.mono ?_
  match x with
  | .error (p, c) =>
    intro e w2 ho
    obtain ⟨rfl, hg⟩ := ho
    exact ⟨rfl, rfl, hg⟩
  | .ok r =>
    intro e w2 ho
    obtain ⟨rfl, hat⟩ := ho
    have HAT := Lib.hid hat
    clear hat
    go_wp2_with fail
    go_end0
    exact ⟨rfl, HAT.out⟩
end Go.Proofs.YtinmiekbhoemjaaDoor.Qry
