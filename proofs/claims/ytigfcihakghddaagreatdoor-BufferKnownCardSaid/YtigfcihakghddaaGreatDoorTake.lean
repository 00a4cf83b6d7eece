/- Lemmas that the last text leans on. -/
import Derived.Deep.RegionHeld
import Derived.WalkKit
import Derived.Lib.Hide
set_option linter.all false
namespace Go.Proofs.YtigfcihakghddaaGreatDoor
open Go Go.RowKit
theorem hX {p:Prop} (x:p):Hid p:=Lib.hid x
theorem tkA {α:Type _} (l:List α) (i:Nat) (a:α):l.toArray.setIfInBounds i a=(l.set i a).toArray:=List.setIfInBounds_toArray ..
theorem tkB {α:Type _} (x:α) (xs:List α) (a:α):(x::xs).set 0 a=a::xs:=List.set_cons_zero ..
theorem tkC {α:Type _} (x:α) (xs:List α) (i:Nat) (a:α):(x::xs).set (i+1) a=x::xs.set i a:=List.set_cons_succ ..
theorem tkD {α:Type _} (l:List α) (i:Nat):l.toArray[i]?=l[i]?:=List.getElem?_toArray ..
theorem tkE {α:Type _} (a:α) (l:List α) (i:Nat):(a::l)[i+1]?=l[i]?:=List.getElem?_cons_succ ..
theorem tkG {α:Type _} (a:α) (l:List α):(a::l)[0]?=some a:=List.getElem?_cons_zero ..
theorem b10 {w:World} {g:Nat} {t:TypeId} {v0 v1 v2 v3 v4 v5 v6 v7 v8 v9:Value} (h:w.heap[g]?=some (.cells #[v0,v1,v2,v3,v4,v5,v6,v7,v8,v9] t)):w.cell? ⟨g,0,none⟩=some v0∧w.cell? ⟨g,1,none⟩=some v1∧w.cell? ⟨g,2,none⟩=some v2∧w.cell? ⟨g,3,none⟩=some v3∧w.cell? ⟨g,4,none⟩=some v4∧w.cell? ⟨g,5,none⟩=some v5∧w.cell? ⟨g,6,none⟩=some v6∧w.cell? ⟨g,7,none⟩=some v7∧w.cell? ⟨g,8,none⟩=some v8∧w.cell? ⟨g,9,none⟩=some v9:=
 have b:=fun i=>cell_of_row w g i _ t (0,0) h
 ⟨b 0,b 1,b 2,b 3,b 4,b 5,b 6,b 7,b 8,b 9⟩
theorem z10 {w:World} {g:Nat} {t:TypeId} {cs:Array Value} (h:w.heap[g]?=some (.cells cs t)):w.frozen? ⟨g,0,none⟩=false∧w.frozen? ⟨g,1,none⟩=false∧w.frozen? ⟨g,2,none⟩=false∧w.frozen? ⟨g,3,none⟩=false∧w.frozen? ⟨g,4,none⟩=false∧w.frozen? ⟨g,5,none⟩=false∧w.frozen? ⟨g,6,none⟩=false∧w.frozen? ⟨g,7,none⟩=false∧w.frozen? ⟨g,8,none⟩=false∧w.frozen? ⟨g,9,none⟩=false:=
 have b:∀i,w.frozen? ⟨g,i,none⟩=false:=fun i=>by simp[World.frozen?,h]
 ⟨b 0,b 1,b 2,b 3,b 4,b 5,b 6,b 7,b 8,b 9⟩
section
variable {P:Program} {ops:Array Oper} {Q:Exit→Act→World→Prop} {md:Region.Mode} {S:World→Prop} {fuel:Nat} {listed:Array Bool} {a:Act} {w:World}
theorem tk {oi:Oper} {v:Value} (i:Nat) (hi:ops[i]?=some oi) (hk:(Region.noSelect ops && Region.free md ops listed i && (Region.ready md ops listed).contains i)=true)
 (hQ:∀c a w,Q (.panic c) (a.put oi.dst v) w→Q (.panic c) a w) (hw:Region.wanted oi (yielded ops a.tmps)=true) (hS:S w) (hy:∀w,S w→(execOp a.eval oi).run P w = .ok (.value v) w)
 (h:wpAnyH P md ops Q S fuel (listed.setIfInBounds i true) (a.put oi.dst v) w):wpAnyH P md ops Q S (fuel+1) listed a w:=by
 simp only[Bool.and_eq_true] at hk;exact wpAnyH_take hi hk.1.1 hk.1.2 hk.2 hQ (.inl ⟨hw,hy⟩) hS h
end
end Go.Proofs.YtigfcihakghddaaGreatDoor
