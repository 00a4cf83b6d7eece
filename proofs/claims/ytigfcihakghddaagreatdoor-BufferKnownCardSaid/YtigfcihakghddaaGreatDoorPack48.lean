/- Lemmas that the last text leans on. -/
import Derived.Test.YtigfcihakghddaaGreatDoorTake
import Derived.Test.YtigfcihakghddaaGreatDoorPack40
import Derived.Test.YtigfcihakghddaaGreatDoorPack42
import Derived.Test.YtigfcihakghddaaGreatDoorPack25
import Derived.Test.YtigfcihakghddaaGreatDoorBufCret
import Derived.Test.YtigfcihakghddaaGreatDoorBufBuild
import Derived.Test.YtigfcihakghddaaGreatDoorPack11
import Derived.Outline
set_option linter.all false
set_option maxRecDepth 100000
set_option maxHeartbeats 8000000
section
namespace Go.Proofs.YtigfcihakghddaaGreatDoor.BufT
open Go Go.RowKit Words Tree Owned MapV BufP Sch SchP AnaP Kit
def hasB (l:List FT) (d:List ET) (name text:ByteArray):Bool:=match findF l name with
 | none=>false
 | some i=>match cellsF decO runO l d with
  | .error _=>false
  | .ok cs=>decide ((l[i]?.map (·.kind))=some 2) && cs.any fun c=>decide (c.field=(i:Int)∧c.text=text)
theorem find_two (u:Value) (l:List FT) (s:ByteArray) (w:World) (hu:T.At bare w (fun g=>g<w.heap.size) (fieldsT l) u) (hl:l.length*72≤140737488351232) :
 Calls Tryz.prog 57 #[.agg #[u],.string s] w fun e w'=>(match findF l s with
  | none=>e = .returned (.tuple #[.int .i64 0,.bool false])
  | some i=>e = .returned (.tuple #[.int .i64 i,.bool true]))∧Below w.heap.size w w':=
 (find_any u l s w hu hl).mono fun e w' ⟨h1,h2⟩=>by
   refine ⟨?_,h2⟩;unfold findZ at h1
   cases hf:findF l s with
   | none=>rw[hf] at h1;exact h1
   | some i=>
    rw[hf] at h1;dsimp only at h1 ⊢;rw[h1,show max (0:Int) i=i by omega,show decide ((0:Int)≤i)=true from decide_eq_true (by omega)]
theorem any_c3 {w:World} {S:Nat→Prop} {cs:List CT} {ys:List C3} (h:C3s w S cs ys) (i:Int) (t:ByteArray):ys.any (fun y=>y.f == i && y.t.toList == t.toList)=cs.any fun c=>decide (c.field=i∧c.text=t):=by
 induction h with
 | nil=>rfl
 | @cons c cs y ys hf ht hn _ ih=>
  rw[List.any_cons,List.any_cons,ih,hf,ht];congr 1
  rw[Bool.eq_iff_iff];simp only[Bool.and_eq_true,beq_iff_eq,decide_eq_true_eq];constructor
  ·rintro ⟨h1,h2⟩
   refine ⟨h1,?_⟩
   rcases Sch.str_cases c.text t with h3 | h3
   ·exact h3.1
   ·rw[h2] at h3;simp at h3
  ·rintro ⟨h1,h2⟩;exact ⟨h1,by rw[h2]⟩
theorem has_any (w:World) (sv dv:Value) (l:List FT) (d:List ET) (nm tx:ByteArray) (hu:T.At bare w (fun g=>g<w.heap.size) (fieldsT l) sv) (hl:l.length*72≤140737488351232) (hf:∀f∈l,FOk f) (hx:T.At bare w (fun g=>g<w.heap.size) (entriesT d) dv) (hd:d.length*56≤140737488351232) (he:∀e∈d,EOk e) (hes:∀e∈d,e.text.size<4294967281) (hT:FoldNext.Tabs w) (hO:OrdLib.OTabs w) :
 Calls Tryz.prog 22 #[.agg #[sv],.agg #[dv],.string nm,.string tx] w (AnsC (hasB l d nm tx) w):=by
 obtain ⟨SA,scap,rfl,_,_,hrow⟩:=at_row fcells_len hu;obtain ⟨DA,dcap,rfl,_,_,_⟩:=at_row ecells_len hx;have HROW:=hX hrow;have hW:∀o1 o2 o3:Obj,Below w.heap.size w (((w.alloc o1).alloc o2).alloc o3):=fun o1 o2 o3=>(((Below.refl _ _).alloc (Nat.le_refl _) _).alloc (by simp) _).alloc (by simp;omega) _;have HW:=hX hW;have HFI:=hX (fun (V:World) (hV:Below w.heap.size w V)=>find_two (.slice SA l.length scap) l nm V (At.below hu hV (fun g hg=>Nat.lt_of_lt_of_le hg hV.size)) hl);have HCE:=hX (fun (V:World) (hV:Below w.heap.size w V)=>(cells_any (.slice SA l.length scap) (.slice DA d.length dcap) l d V (At.below hu hV (fun g hg=>Nat.lt_of_lt_of_le hg hV.size)) hl hf (At.below hx hV (fun g hg=>Nat.lt_of_lt_of_le hg hV.size)) hd he hes (hT.next hV) (hO.next hV)).mono fun e w' h=>cells_ret h);have HBS:=hX (Blk.new w 24 #[.slice SA l.length scap]);have HOKS:=hX (fun (cs:List CT) (hc:cellsF decO runO l d = .ok cs)=>cellsF_ok hl he hc);clear hu hf hx he hes hT hO hW hrow
 have HHB:Hid (hasB l d nm tx=match findF l nm with
  | none=>false
  | some i=>match cellsF decO runO l d with
   | .error _=>false
   | .ok cs=>decide ((l[i]?.map (·.kind))=some 2) && cs.any fun c=>decide (c.field=(i:Int)∧c.text=tx)):=hX rfl
 generalize hasB l d nm tx=hb at *
 obtain ⟨fr,hfr⟩:∃fr,findF l nm=fr:=⟨_,rfl⟩
 obtain ⟨cr,hcr⟩:∃cr,cellsF decO runO l d=cr:=⟨_,rfl⟩
 have HFS:Hid (∀i,fr=some i→i<l.length):=hX (fun i hi=>by rw[hi] at hfr;obtain ⟨h1,_⟩:=findF_some hfr;exact h1);have HEZ:Hid (∀n,cr = .error n→n≠0):=hX (fun n hn=>by rw[hn] at hcr;exact cellsF_errB hcr);have HC64:Hid (∀cs,cr = .ok cs→cs.length≤64):=hX (fun cs hn=>by rw[hn] at hcr;exact (HOKS.out cs hcr).1);rw[hfr] at HFI HHB;rw[hcr] at HCE HHB;clear hfr hcr HOKS;go_enter Tryz.func22,Tryz.ntmps22;go_upto_region 1 with fail;have hb3:=HW.out (.cells #[.slice SA l.length scap] 24) (.cells #[.slice DA d.length dcap] 67) (.cells #[.string tx] 9);have hz1:(w.alloc (.cells #[.slice SA l.length scap] 24)).heap.size=w.heap.size+1:=by simp
 have hz2:((w.alloc (.cells #[.slice SA l.length scap] 24)).alloc (.cells #[.slice DA d.length dcap] 67)).heap.size=w.heap.size+1+1:=by simp
 have BS:Blk (((w.alloc (.cells #[.slice SA l.length scap] 24)).alloc (.cells #[.slice DA d.length dcap] 67)).alloc (.cells #[.string tx] 9)) w.heap.size 24 #[.slice SA l.length scap]:=(HBS.out.alloc _).alloc _;have BD:Blk (((w.alloc (.cells #[.slice SA l.length scap] 24)).alloc (.cells #[.slice DA d.length dcap] 67)).alloc (.cells #[.string tx] 9)) (w.heap.size+1) 67 #[.slice DA d.length dcap]:=by rw[←hz1];exact (Blk.new _ _ _).alloc _
 have BT:Blk (((w.alloc (.cells #[.slice SA l.length scap] 24)).alloc (.cells #[.slice DA d.length dcap] 67)).alloc (.cells #[.string tx] 9)) (w.heap.size+1+1) 9 #[.string tx]:=by rw[←hz2];exact Blk.new _ _ _
 clear hz1 hz2 HBS HW;generalize ((w.alloc (.cells #[.slice SA l.length scap] 24)).alloc (.cells #[.slice DA d.length dcap] 67)).alloc (.cells #[.string tx] 9)=W3 at *;have HB3:=hX hb3;have HBS:=hX BS;have HBD:=hX BD;have HBT:=hX BT;have HF3:=hX (HFI.out W3 hb3);have HNE:Hid (w.heap.size≠w.heap.size+1+1):=hX (by omega);generalize hgb:w.heap.size=gs at *;generalize gs+1+1=gt at *;generalize gs+1=gd at *;have bs:=HBS.out.cell 0;have HGB:=hX hgb;clear hgb hb3 BS BD BT HFI
 cases fr with
 | none=>
  go_wp2_with fail;refine HF3.out.mono ?_;clear HF3;rintro e W4 ⟨rfl,hb4⟩;have HB4:Hid (Below gs w W4):=hX (HB3.out.trans (hb4.mono (by have:=HBS.out.lt;omega)));have HBS4:=hX (HBS.out.below hb4 HBS.out.lt);have HBD4:=hX (HBD.out.below hb4 HBD.out.lt);have HBT4:=hX (HBT.out.below hb4 HBT.out.lt);clear hb4 bs HB3
  obtain ⟨O5,hO5⟩:∃O5:Obj,O5 = .cells #[.int .i64 0] 3:=⟨_,rfl⟩
  have h5:Below W4.heap.size W4 (W4.alloc (.cells #[.int .i64 0] 3)):=(Below.refl _ _).alloc (Nat.le_refl _) _;have HB5:Hid (Below gs w (W4.alloc (.cells #[.int .i64 0] 3))):=hX (HB4.out.trans (h5.mono (by have:=HBS4.out.lt;omega)));have HBS5:=hX (HBS4.out.below h5 HBS4.out.lt);have HBD5:=hX (HBD4.out.below h5 HBD4.out.lt);have HBT5:=hX (HBT4.out.below h5 HBT4.out.lt);have HBI5:=hX (Blk.new W4 3 #[.int .i64 0]);have HC5:=hX (HCE.out _ HB5.out);have HTI:Hid (gt<W4.heap.size):=hX HBT4.out.lt;go_upto_region 2 with fail;generalize W4.heap.size=gi at *;generalize W4.alloc (.cells #[.int .i64 0] 3)=W5 at *;have b5:=HBS5.out.cell 0;have d5:=HBD5.out.cell 0;clear HCE hO5 h5
  cases cr with
  | error n=>
   have hnz:=HEZ.out n rfl;have hne:((n:Int) == 0)=false:=by simpa using hnz
   have hne2:((n:Int) != 0)=true:=by simpa using hnz
   have HHE:Hid (hb=false):=hX HHB.out;clear hnz HHB;go_wp2_with fail;refine HC5.out.mono ?_;clear HC5;rintro e W6 ⟨hb6,rfl⟩;have HB6:Hid (Below gs w W6):=hX (HB5.out.trans (hb6.mono (by have:=HBS5.out.lt;omega)));clear hb6;go_wp2_with fail;go_ret;exact ⟨by rw[HHE.out];rfl,by rw[HGB.out];exact HB6.out⟩
  | ok cs=>
   go_wp2_with fail;refine HC5.out.mono ?_;clear HC5;rintro e W6 ⟨hb6,CA,cc,rfl,hct⟩;have HB6:Hid (Below gs w W6):=hX (HB5.out.trans (hb6.mono (by have:=HBS5.out.lt;omega)));have HBS6:=hX (HBS5.out.below hb6 HBS5.out.lt);have HBT6:=hX (HBT5.out.below hb6 HBT5.out.lt);have HBI6:=hX (HBI5.out.below hb6 HBI5.out.lt);have HCT:=hX hct;clear hb6 b5 d5 hct;have HHE:Hid (hb=false):=hX HHB.out;clear HHB;go_wp2_with fail;go_ret;exact ⟨by rw[HHE.out];rfl,by rw[HGB.out];exact HB6.out⟩
 | some i=>
  go_wp2_with fail;refine HF3.out.mono ?_;clear HF3;rintro e W4 ⟨rfl,hb4⟩;have HB4:Hid (Below gs w W4):=hX (HB3.out.trans (hb4.mono (by have:=HBS.out.lt;omega)));have HBS4:=hX (HBS.out.below hb4 HBS.out.lt);have HBD4:=hX (HBD.out.below hb4 HBD.out.lt);have HBT4:=hX (HBT.out.below hb4 HBT.out.lt);clear hb4 bs HB3
  obtain ⟨O5,hO5⟩:∃O5:Obj,O5 = .cells #[.int .i64 i] 3:=⟨_,rfl⟩
  have h5:Below W4.heap.size W4 (W4.alloc (.cells #[.int .i64 i] 3)):=(Below.refl _ _).alloc (Nat.le_refl _) _;have HB5:Hid (Below gs w (W4.alloc (.cells #[.int .i64 i] 3))):=hX (HB4.out.trans (h5.mono (by have:=HBS4.out.lt;omega)));have HBS5:=hX (HBS4.out.below h5 HBS4.out.lt);have HBD5:=hX (HBD4.out.below h5 HBD4.out.lt);have HBT5:=hX (HBT4.out.below h5 HBT4.out.lt);have HBI5:=hX (Blk.new W4 3 #[.int .i64 i]);have HC5:=hX (HCE.out _ HB5.out);have HTI:Hid (gt<W4.heap.size):=hX HBT4.out.lt;go_upto_region 2 with fail;generalize W4.heap.size=gi at *;generalize W4.alloc (.cells #[.int .i64 i] 3)=W5 at *;have b5:=HBS5.out.cell 0;have d5:=HBD5.out.cell 0;clear HCE hO5 h5
  cases cr with
  | error n=>
   have hnz:=HEZ.out n rfl;have hne:((n:Int) == 0)=false:=by simpa using hnz
   have hne2:((n:Int) != 0)=true:=by simpa using hnz
   have HHE:Hid (hb=false):=hX HHB.out;clear hnz HHB;go_wp2_with fail;refine HC5.out.mono ?_;clear HC5;rintro e W6 ⟨hb6,rfl⟩;have HB6:Hid (Below gs w W6):=hX (HB5.out.trans (hb6.mono (by have:=HBS5.out.lt;omega)));clear hb6;go_wp2_with fail;go_ret;exact ⟨by rw[HHE.out];rfl,by rw[HGB.out];exact HB6.out⟩
  | ok cs=>
   go_wp2_with fail;refine HC5.out.mono ?_;clear HC5;rintro e W6 ⟨hb6,CA,cc,rfl,hct⟩;have HB6:Hid (Below gs w W6):=hX (HB5.out.trans (hb6.mono (by have:=HBS5.out.lt;omega)));have HBS6:=hX (HBS5.out.below hb6 HBS5.out.lt);have HBT6:=hX (HBT5.out.below hb6 HBT5.out.lt);have HBI6:=hX (HBI5.out.below hb6 HBI5.out.lt);have HCT:=hX hct;clear hb6 b5 d5 hct;have hil:=HFS.out i rfl;obtain ⟨ad,us,rfl,hab,hus,hul,hcl⟩:=HROW.out i hil
   have hkind:W6.cell? ⟨(ad.add (i*7)).block,(ad.add (i*7)).off+1,none⟩=some (.int .i64 l[i].kind):=by
    have hck:w.cell? ⟨(ad.add (i*7)).block,(ad.add (i*7)).off+1,none⟩=some (.int .i64 l[i].kind):=by
     simp only[fcells] at hus
     match us,hus with
     | u0::u1::us,hus=>
      simp only[T.AtL,T.At] at hus;obtain ⟨_,rfl,_⟩:=hus;exact hcl.at_ 1 _ rfl (by omega)
    exact (HB6.out.cell (by show (ad.add (i*7)).block<gs;rw[block_of_add];exact hab)).trans hck
   have hget:l[i]?=some l[i]:=List.getElem?_eq_getElem hil;have HHE:Hid (hb=(decide (l[i].kind=2) && cs.any fun c=>decide (c.field=(i:Int)∧c.text=tx))):=hX (by rw[HHB.out];show (decide ((l[i]?.map (·.kind))=some 2) && _)=_;rw[hget];simp);have h4:(0:Int)≤(i:Int):=by omega
   have h5:(i:Int)<(l.length:Int):=by omega
   have s6:=HBS6.out.cell 0;have i6:=HBI6.out.cell 0;clear HHB hget hus hcl hul;by_cases hk:l[i].kind=2
   ·have hk1:((l[i].kind:Int) == 2)=true:=by simpa using hk
    have hk2:((l[i].kind:Int) != 2)=false:=by simpa using hk
    have HHE2:Hid (hb=cs.any fun c=>decide (c.field=(i:Int)∧c.text=tx)):=hX (by rw[HHE.out,decide_eq_true hk,Bool.true_and])
    obtain ⟨ys,hys,hrc⟩:∃ys,C3s W6 (fun g=>W5.heap.size≤g∧CellsAt W6 g) cs ys∧RowC3 W6 W6.heap.size CA cc ys:=by
     have h:=HCT.out;simp only[rowT,T.At] at h;obtain ⟨A',cap',vs,hv,h1,h2,h3,h4,h5⟩:=h;injection hv with e1 e2 e3;subst e1 e3;obtain ⟨ys,rfl,h6,h7⟩:=c3_of h5;refine ⟨ys,C3s.of h6 h7,by rw[h6];simpa [bare] using h1,h2,?_,fun hn=>?_⟩
     ·rw[flat_len c3V_len]
     ·obtain ⟨ad',e,hs,hc⟩:=h4 (by rw[h6] at hn;simpa [bare] using hn);exact ⟨ad',e,hs.2.lt,fun j u hu=>hc j u (by simpa [bare] using hu)⟩
    have hE59:∀args w,(callFunc 59 args).run Tryz.prog w = .ok (.enter 59 args) w:=enters_of Tryz.func59 (by kernel_rfl) rfl;have hcon:=containsC_any (fun y=>y.f == (i:Int) && y.t.toList == tx.toList) 59 #[.pointer (some ⟨gi,0,none⟩),.pointer (some ⟨gt,0,none⟩)] ys CA cc W6 hrc hE59 (fun y W hW=>such_any W gi gt i y.f y.t tx y.a y.n y.c ((hW.cell (p:=⟨gi,0,none⟩) HBI6.out.lt).trans (HBI6.out.cell 0)) ((hW.cell (p:=⟨gt,0,none⟩) HBT6.out.lt).trans (HBT6.out.cell 0)) (Nat.lt_of_lt_of_le HBI6.out.lt hW.size) (Nat.lt_of_lt_of_le HBT6.out.lt hW.size));rw[any_c3 hys,hys.len,←HHE2.out] at hcon;have HCON:=hX hcon;clear hcon hys hrc hE59 hk;go_wp2_with fail;refine HCON.out.mono ?_;clear HCON;rintro e W7 ⟨rfl,hb7⟩;have HB7:Hid (Below gs w W7):=hX (HB6.out.trans (hb7.mono (by have:=HBS6.out.lt;omega)));clear hb7;go_wp2_with fail;go_ret;exact ⟨rfl,by rw[HGB.out];exact HB7.out⟩
   ·have hk1:((l[i].kind:Int) == 2)=false:=by simpa using hk
    have hk2:((l[i].kind:Int) != 2)=true:=by simpa using hk
    have HHF:Hid (hb=false):=hX (by rw[HHE.out,decide_eq_false hk,Bool.false_and]);clear hk HHE;go_wp2_with fail;go_ret;exact ⟨by rw[HHF.out];rfl,by rw[HGB.out];exact HB6.out⟩
end Go.Proofs.YtigfcihakghddaaGreatDoor.BufT
end
section
namespace Go.Proofs.YtigfcihakghddaaGreatDoor.BufT
open Go Go.RowKit Words Tree Owned BufP Sch SchP AnaP Kit
def i0D:ID:=⟨[[97],[98]],[[(0,[0,2])],[(0,[1])]],[3,0],[],[],[]⟩
def i1D:ID:=⟨[[120],[121]],[[(0,[0]),(1,[0])],[(1,[0])]],[],[[[120]],[[120],[121]]],[],[]⟩
def i2D:ID:=⟨[],[],[],[],[[5],[2,2]],[(0,[5]),(1,[2]),(1,[2])]⟩
def FieldC (w:World) (S:Nat→Prop) (x:ID) (ad:Addr) (a0:Option Addr) (c0:Nat) (a1:Option Addr) (c1:Nat) (a2:Option Addr) (c2:Nat) (a3:Option Addr) (c3:Nat) (a4:Option Addr) (c4:Nat) (a5:Option Addr) (c5:Nat):Prop:=
 Cells w ad [.slice a0 x.terms.length c0,.slice a1 x.posts.length c1,.slice a2 x.lens.length c2,.slice a3 x.texts.length c3,.slice a4 x.nums.length c4,.slice a5 x.pts.length c5]∧
  InvR w S x (.slice a0 x.terms.length c0) (.slice a1 x.posts.length c1) (.slice a2 x.lens.length c2) (.slice a3 x.texts.length c3) (.slice a4 x.nums.length c4) (.slice a5 x.pts.length c5)
def KnownMem (w:World) (S:Nat→Prop) (gm:Nat):Prop:=
 ∃aq nq cq ad nd cd af cf,Blk w gm 47 #[.slice aq nq cq,.slice ad nd cd,.slice (some af) 3 cf]∧S af.block∧
  (∃a0 c0 a1 c1 a2 c2 a3 c3 a4 c4 a5 c5,FieldC w S i0D af a0 c0 a1 c1 a2 c2 a3 c3 a4 c4 a5 c5)∧(∃a0 c0 a1 c1 a2 c2 a3 c3 a4 c4 a5 c5,FieldC w S i1D (af.add 6) a0 c0 a1 c1 a2 c2 a3 c3 a4 c4 a5 c5)∧(∃a0 c0 a1 c1 a2 c2 a3 c3 a4 c4 a5 c5,FieldC w S i2D (af.add 12) a0 c0 a1 c1 a2 c2 a3 c3 a4 c4 a5 c5)
theorem mem_known {w:World} {S:Nat→Prop} {gm:Nat} (h:MemR w S gm itemsL [x0F,x1F,x2F]):KnownMem w S gm:=by
 obtain ⟨aq,nq,cq,ad,nd,cd,af,nf,cf,h1,_,_,h4⟩:=h
 have e:[x0F,x1F,x2F].map doneF=[i0D,i1D,i2D]:=(by simp only[List.map_cons,List.map_nil,kb_done0,kb_done1,kb_done2];rfl)
 unfold fieldsI at h4;rw[e] at h4;obtain ⟨f0,a0,c0,a1,c1,a2,c2,a3,c3,a4,c4,a5,c5,rfl,hs,rfl,hc,hi⟩:=field_at h4 (i:=0) (by decide);obtain ⟨f1,b0,d0,b1,d1,b2,d2,b3,d3,b4,d4,b5,d5,e1,_,_,hc1,hi1⟩:=field_at h4 (i:=1) (by decide);obtain ⟨f2,k0,l0,k1,l1,k2,l2,k3,l3,k4,l4,k5,l5,e2,_,_,hc2,hi2⟩:=field_at h4 (i:=2) (by decide);injection e1 with e1;injection e2 with e2;subst e1 e2;have e0:f0.add (0*6)=f0:=by simp[Addr.add]
 rw[e0] at hc;exact ⟨aq,nq,cq,ad,nd,cd,f0,cf,h1,hs,⟨_,_,_,_,_,_,_,_,_,_,_,_,hc,hi⟩,⟨_,_,_,_,_,_,_,_,_,_,_,_,hc1,hi1⟩,⟨_,_,_,_,_,_,_,_,_,_,_,_,hc2,hi2⟩⟩
theorem reads_newB (w:World) (t:TypeId) (cs:List Value) (n:Nat) (hn:cs.length=n):Reads (w.alloc (.cells cs.toArray t)) (w.alloc (.cells cs.toArray t)).heap.size 1 (some ⟨w.heap.size,0,none⟩) n cs:=by
 refine ⟨by omega,fun _=>⟨_,rfl,by simp,fun j u hu=>?_⟩⟩;have hadd:(⟨w.heap.size,0,none⟩:Addr).add j=⟨w.heap.size,j,none⟩:=by unfold Addr.add;split <;> simp_all
 rw[hadd,(Blk.new w t cs.toArray).cell j];simpa using hu
theorem below_alloc (V:World) (o:Obj):Below V.heap.size V (V.alloc o):=(Below.refl _ _).alloc (Nat.le_refl _) _
theorem field0_rows {w:World} {S:Nat→Prop} {a0 a1 a2:Option Addr} {c0 c1 c2:Nat} {v3 v4 v5:Value} (h:InvR w S i0D (.slice a0 2 c0) (.slice a1 2 c1) (.slice a2 2 c2) v3 v4 v5) :
 ∃pa pb qa pc qc,a1=some pa∧S pa.block∧w.cell? pa=some (.slice (some pb) 1 pc)∧S pb.block∧w.cell? ⟨pb.block,pb.off+1,none⟩=some (.slice qa 2 qc)∧T.At bare w S (intsT [0,2]) (.slice qa 2 qc):=by
 obtain ⟨A,cap,e,_,_,hr⟩:=at_rows h.posts;injection e with e1 e2 e3;subst e1 e3;obtain ⟨ad,u,rfl,hs,hc,hu⟩:=hr 0 (by decide);obtain ⟨pb',pc,rfl,_,_⟩:=at_slice hu;obtain ⟨pb,qa,qc,rfl,hs2,_,h2,h3⟩:=pair_at (ps:=[(0,[0,2])]) hu (i:=0) (by decide);have e0:∀a:Addr,a.add 0=a:=fun a=>by simp[Addr.add]
 rw[show 0*2=0 from rfl,e0] at h2;rw[e0] at hc;exact ⟨ad,pb,qa,pc,qc,rfl,hs,hc,hs2,h2,h3⟩
theorem FieldC.keep {w w':World} {S S':Nat→Prop} {x:ID} {ad:Addr} {a0 c0 a1 c1 a2 c2 a3 c3 a4 c4 a5 c5} (h:FieldC w S x ad a0 c0 a1 c1 a2 c2 a3 c3 a4 c4 a5 c5) (had:S ad.block) (hk:∀p:Addr,S p.block→w'.cell? p=w.cell? p) (hS:∀g,S g→S' g):FieldC w' S' x ad a0 c0 a1 c1 a2 c2 a3 c3 a4 c4 a5 c5:=
 ⟨fun j u hu=>(hk _ (by rw[block_of_add];exact had)).trans (h.1 j u hu),h.2.keep hk hS⟩
theorem its_ok:∀it∈itemsL,ItOk it:=by
 intro it hit;simp only[itemsL,List.mem_cons,List.not_mem_nil,or_false] at hit
 have hn:NumsOk []:=⟨by decide,fun z hz=>by simp at hz⟩
 have hn5:NumsOk [5]:=⟨by decide,fun z hz=>by simp at hz;unfold I64;omega⟩
 have hn2:NumsOk [2]:=⟨by decide,fun z hz=>by simp at hz;unfold I64;omega⟩
 rcases hit with rfl | rfl
 ·refine ⟨by decide,fun e he=>?_,fun e he=>?_⟩
  ·simp only[firstE,List.mem_cons,List.not_mem_nil,or_false] at he;rcases he with rfl | rfl | rfl
   ·exact ⟨by decide,by decide,hn⟩
   ·exact ⟨by decide,by decide,hn⟩
   ·exact ⟨by decide,by decide,hn5⟩
  ·simp only[firstE,List.mem_cons,List.not_mem_nil,or_false] at he;rcases he with rfl | rfl | rfl <;> decide
 ·refine ⟨by decide,fun e he=>?_,fun e he=>?_⟩
  ·simp only[secondE,List.mem_cons,List.not_mem_nil,or_false] at he;rcases he with rfl | rfl | rfl | rfl
   ·exact ⟨by decide,by decide,hn⟩
   ·exact ⟨by decide,by decide,hn⟩
   ·exact ⟨by decide,by decide,hn2⟩
   ·exact ⟨by decide,by decide,hn2⟩
  ·simp only[secondE,List.mem_cons,List.not_mem_nil,or_false] at he;rcases he with rfl | rfl | rfl | rfl <;> decide
def KnownRet (w:World) (e:Ending) (w':World):Prop:=Below w.heap.size w w'∧∃gm,e = .returned (.tuple #[.pointer (some ⟨gm,0,none⟩),.int .i64 0])∧KnownMem w' (fun g=>w.heap.size≤g∧CellsAt w' g) gm
theorem build_known (w:World) (sv iv:Value) (hu:T.At bare w (fun g=>g<w.heap.size) (fieldsT givenL) sv) (hx:T.At bare w (fun g=>g<w.heap.size) (itemsT itemsL) iv) (hT:FoldNext.Tabs w) (hO:OrdLib.OTabs w) :
 Calls Tryz.prog 12 #[.agg #[sv],iv] w (KnownRet w):=
 (build_any w sv iv givenL itemsL hu (by decide) kb_ok hx (by decide) its_ok hT hO).mono fun e w' ⟨hb,h⟩=>by rw[kb_build] at h;obtain ⟨gm,he,hm⟩:=h;exact ⟨hb,gm,he,mem_known hm.read⟩
theorem awake_any (w:World) (hT:FoldNext.Tabs w) (hO:OrdLib.OTabs w):Calls Tryz.prog 9 #[] w (AnsC true w):=by
 have HT:=hX hT;have HO:=hX hO;clear hT hO;go_enter Tryz.func9,Tryz.ntmps9;go_wp2_with fail;refine (given_any w).mono ?_;rintro e W1 ⟨A,n,c,rfl,ht,hb⟩;have HG:=hX ht;have HB1:=hX hb;clear ht hb;go_wp2_with fail;refine (items_any W1).mono ?_;rintro e W2 ⟨IA,m,ic,rfl,ht,hb⟩;have HI:=hX ht;have HB2:=hX (HB1.out.trans (hb.mono HB1.out.size));have HG2:Hid (T.At bare W2 (fun g=>g<W2.heap.size) (fieldsT givenL) (.slice A n c)):=hX (At.keep (fun p hp=>hb.cell hp.2.lt) (fun g h=>Nat.lt_of_lt_of_le h.2.lt hb.size) HG.out);have HI2:Hid (T.At bare W2 (fun g=>g<W2.heap.size) (itemsT itemsL) (.slice IA m ic)):=hX (At.keep (fun _ _=>rfl) (fun g h=>h.2.lt) HI.out);have HC:=hX (build_known W2 _ _ HG2.out HI2.out (HT.out.next HB2.out) (HO.out.next HB2.out));clear ht hb HI HG HG2 HI2;go_wp2_with fail;refine HC.out.mono ?_;clear HC;rintro e W3 ⟨hb,gm,rfl,hk⟩;have HB3:=hX (HB2.out.trans (hb.mono HB2.out.size));have HL:=hX (HB2.out.size);clear hb HB2 HB1;obtain ⟨aq,nq,cq,ad,nd,cd,af,cf,hblk,hsa,⟨a0,c0,a1,c1,a2,c2,a3,c3,a4,c4,a5,c5,hF⟩,-,-⟩:=hk;have HBK:=hX hblk;have m2:=hblk.cell 2;have k0:=hF.1.zero;have k1:=hF.1.at_ 1 _ rfl (by omega);have k2:=hF.1.at_ 2 _ rfl (by omega);have k3:=hF.1.at_ 3 _ rfl (by omega);have k4:=hF.1.at_ 4 _ rfl (by omega);have k5:=hF.1.at_ 5 _ rfl (by omega);have HF:=hX hF;have HS:=hX hsa;clear hF hsa hblk;simp only[i0D,List.length_cons,List.length_nil,Nat.zero_add,Nat.reduceAdd] at k0 k1 k2 k3 k4 k5;go_upto_region 5 with fail
 have HA4:Below W3.heap.size W3 (W3.alloc (.cells #[.slice a0 2 c0,.slice a1 2 c1,.slice a2 2 c2,.slice a3 0 c3,.slice a4 0 c4,.slice a5 0 c5] 53)):=below_alloc _ _;have HN4:Blk (W3.alloc (.cells #[.slice a0 2 c0,.slice a1 2 c1,.slice a2 2 c2,.slice a3 0 c3,.slice a4 0 c4,.slice a5 0 c5] 53)) W3.heap.size 53 #[.slice a0 2 c0,.slice a1 2 c1,.slice a2 2 c2,.slice a3 0 c3,.slice a4 0 c4,.slice a5 0 c5]:=Blk.new _ _ _;generalize W3.alloc (.cells #[.slice a0 2 c0,.slice a1 2 c1,.slice a2 2 c2,.slice a3 0 c3,.slice a4 0 c4,.slice a5 0 c5] 53)=W4 at *
 have hI:InvR W4 (fun g=>g<W4.heap.size) i0D (.slice a0 2 c0) (.slice a1 2 c1) (.slice a2 2 c2) (.slice a3 0 c3) (.slice a4 0 c4) (.slice a5 0 c5):=
  InvR.keep HF.out.2 (fun p hp=>HA4.cell hp.2.lt) (fun g h=>Nat.lt_of_lt_of_le h.2.lt HA4.size)
 obtain ⟨pa,pb,qa,pc,qc,rfl,hpa,hca,hpb,hcb,hq⟩:=field0_rows hI;have HB4:=hX (HB3.out.trans (HA4.mono (HB3.out.size)));have HN:=hX HN4
 have HK:Hid (∀V:World,Below W4.heap.size W4 V→V.cell? ⟨W3.heap.size,0,none⟩=some (.slice a0 2 c0)∧V.cell? ⟨W3.heap.size,1,none⟩=some (.slice (some pa) 2 c1)∧V.cell? ⟨W3.heap.size,2,none⟩=some (.slice a2 2 c2)∧V.cell? pa=some (.slice (some pb) 1 pc)∧V.cell? ⟨pb.block,pb.off+1,none⟩=some (.slice qa 2 qc)):=hX fun V hV=>by
  have hlt:=HN.out.lt;refine ⟨?_,?_,?_,(hV.cell hpa).trans hca,(hV.cell (p:=⟨pb.block,pb.off+1,none⟩) hpb).trans hcb⟩
  ·exact (hV.cell hlt).trans (HN.out.cell 0)
  ·exact (hV.cell hlt).trans (HN.out.cell 1)
  ·exact (hV.cell hlt).trans (HN.out.cell 2)
 have HST:Hid (∀V:World,Below W4.heap.size W4 V→Calls Tryz.prog 27 #[.slice a0 2 c0,.slice (some ⟨V.heap.size,0,none⟩) 2 2] (V.alloc (.cells #[.string ⟨#[97]⟩,.string ⟨#[98]⟩] 9)) (AnsB true (V.alloc (.cells #[.string ⟨#[97]⟩,.string ⟨#[98]⟩] 9)))):=hX fun V hV=>by have hb:=hV.trans (a:=W4) ((below_alloc V (.cells #[.string ⟨#[97]⟩,.string ⟨#[98]⟩] 9)).mono hV.size);obtain ⟨A',cap',e1,_,_,q1⟩:=at_strs (At.below hI.terms hb (fun g hg=>Nat.lt_of_lt_of_le hg hb.size));injection e1 with e3 _ e4;subst e3 e4;exact strings_any _ _ _ _ [[97],[98]] [[97],[98]] _ q1 (reads_newB V 9 [.string ⟨#[97]⟩,.string ⟨#[98]⟩] 2 rfl) (by decide) (by decide) true (by simp)
 have HIN:Hid (∀V:World,Below W4.heap.size W4 V→Calls Tryz.prog 28 #[.slice qa 2 qc,.slice (some ⟨V.heap.size,0,none⟩) 2 2] (V.alloc (.cells #[.int .i64 0,.int .i64 2] 3)) (AnsB true (V.alloc (.cells #[.int .i64 0,.int .i64 2] 3)))):=hX fun V hV=>by have hb:=hV.trans (a:=W4) ((below_alloc V (.cells #[.int .i64 0,.int .i64 2] 3)).mono hV.size);obtain ⟨A',cap',e1,_,_,q1⟩:=at_intsT (At.below hq hb (fun g hg=>Nat.lt_of_lt_of_le hg hb.size));injection e1 with e3 _ e4;subst e3 e4;exact ints_any _ _ _ _ [0,2] [0,2] _ q1 (reads_newB V 3 [.int .i64 0,.int .i64 2] 2 rfl) (by decide) (by decide) true (by simp)
 have HI6:Hid (∀V:World,Below W4.heap.size W4 V→Calls Tryz.prog 31 #[.slice a2 2 c2,.slice (some ⟨V.heap.size,0,none⟩) 2 2] (V.alloc (.cells #[.int .i64 3,.int .i64 0] 2)) (AnsB true (V.alloc (.cells #[.int .i64 3,.int .i64 0] 2)))):=hX fun V hV=>by have hb:=hV.trans (a:=W4) ((below_alloc V (.cells #[.int .i64 3,.int .i64 0] 2)).mono hV.size);obtain ⟨A',cap',e1,_,_,q1⟩:=at_intsT (At.below hI.lens hb (fun g hg=>Nat.lt_of_lt_of_le hg hb.size));injection e1 with e3 _ e4;subst e3 e4;exact int64s_any _ _ _ _ [3,0] [3,0] _ q1 (reads_newB V 2 [.int .i64 3,.int .i64 0] 2 rfl) (by decide) (by decide) true (by simp)
 have HZ:Hid (w.heap.size≤W4.heap.size):=hX HB4.out.size;clear hI hpa hca hpb hcb hq k0 k1 k2 k3 k4 k5 m2 HF HS HA4 HN4 HN HBK HB3 HL;generalize hg:W3.heap.size=g3 at *;clear hg;have HV4:Hid (Below W4.heap.size W4 W4):=hX (Below.refl _ _);obtain ⟨x0,x1,x2,x3,x4⟩:=HK.out _ HV4.out;have HCL:=hX (HST.out _ HV4.out);go_wp2_with fail;refine HCL.out.mono ?_;rintro e V5 ⟨rfl,hb⟩;have HV5:Hid (Below W4.heap.size W4 V5):=hX (HV4.out.trans ((below_alloc _ _).trans (hb.mono (by simp))));clear hb x0 x1 x2 x3 x4 HCL;obtain ⟨x0,x1,x2,x3,x4⟩:=HK.out _ HV5.out;have HCL:=hX (HIN.out _ HV5.out);go_wp2_with fail;refine HCL.out.mono ?_;rintro e V6 ⟨rfl,hb⟩;have HV6:Hid (Below W4.heap.size W4 V6):=hX (HV5.out.trans ((below_alloc _ _).mono HV5.out.size |>.trans (hb.mono (Nat.le_trans HV5.out.size (by simp)))));clear hb x0 x1 x2 x3 x4 HCL;obtain ⟨x0,x1,x2,x3,x4⟩:=HK.out _ HV6.out;have HCL:=hX (HI6.out _ HV6.out);go_wp2_with fail;refine HCL.out.mono ?_;rintro e V7 ⟨rfl,hb⟩;have HV7:Hid (Below W4.heap.size W4 V7):=hX (HV6.out.trans ((below_alloc _ _).mono HV6.out.size |>.trans (hb.mono (Nat.le_trans HV6.out.size (by simp)))));clear hb x0 x1 x2 x3 x4 HCL;go_wp2_with fail;refine (given_any V7).mono ?_;rintro e V8 ⟨A8,n8,c8,rfl,ht,hb⟩;have HG:=hX ht;have HV8:Hid (Below W4.heap.size W4 V8):=hX (HV7.out.trans (hb.mono HV7.out.size));clear ht hb;go_wp2_with fail;refine (second_any V8).mono ?_;rintro e V9 ⟨A9,n9,c9,rfl,ht,hb⟩
 have HV9:Hid (Below W4.heap.size W4 V9):=hX (HV8.out.trans (hb.mono HV8.out.size));have HB9:Hid (Below w.heap.size w V9):=hX (HB4.out.trans (HV9.out.mono HZ.out));have HG9:Hid (T.At bare V9 (fun g=>g<V9.heap.size) (fieldsT givenL) (.slice A8 n8 c8)):=hX (At.keep (fun p hp=>hb.cell hp.2.lt) (fun g h=>Nat.lt_of_lt_of_le h.2.lt hb.size) HG.out);have HE9:Hid (T.At bare V9 (fun g=>g<V9.heap.size) (entriesT secondE) (.slice A9 n9 c9)):=hX (At.keep (fun _ _=>rfl) (fun g h=>h.2.lt) ht);have hbt:hasB givenL secondE ⟨#[107]⟩ ⟨#[121]⟩=true:=by kernel_rfl
 have hsec:=its_ok ⟨7,secondE⟩ (by simp[itemsL]);have HCL:=hX (has_any V9 _ _ givenL secondE ⟨#[107]⟩ ⟨#[121]⟩ HG9.out (by decide) kb_ok HE9.out hsec.len hsec.ok hsec.text (HT.out.next HB9.out) (HO.out.next HB9.out));rw[hbt] at HCL;clear ht hb HG HG9 HE9 hbt hsec;go_wp2_with fail;refine HCL.out.mono ?_;rintro e V10 ⟨rfl,hb⟩;have HB10:Hid (Below w.heap.size w V10):=hX (HB9.out.trans (hb.mono HB9.out.size));clear hb;go_wp2_with fail;go_ret;exact ⟨rfl,HB10.out⟩
end Go.Proofs.YtigfcihakghddaaGreatDoor.BufT
end
section
namespace Go.Proofs.YtigfcihakghddaaGreatDoor.BufT
open Go Go.RowKit Words Tree Owned BufP Sch SchP AnaP Kit
def badI:IT:=⟨1,[⟨⟨#[122]⟩,⟨#[]⟩,[]⟩]⟩
theorem kb_e1:buildD toksF cellsO givenL [⟨7,secondE⟩,⟨3,firstE⟩] = .error 1:=by kernel_rfl
theorem kb_e2:buildD toksF cellsO givenL [⟨0,[]⟩] = .error 1:=by kernel_rfl
theorem kb_e3:buildD toksF cellsO givenL [badI] = .error 81:=by kernel_rfl
theorem kb_e4:buildD toksF cellsO givenL [badI,⟨3,firstE⟩,⟨3,firstE⟩] = .error 1:=by kernel_rfl
theorem kb_e5:buildD toksF cellsO [] [] = .error 80:=by kernel_rfl
theorem kb_e6:buildD toksF cellsO givenL [] = .ok [FD.zero,FD.zero,FD.zero]:=by kernel_rfl
theorem kb_h1:hasB givenL secondE ⟨#[116]⟩ ⟨#[97]⟩=false:=by kernel_rfl
theorem kb_h2:hasB givenL secondE ⟨#[107]⟩ ⟨#[122]⟩=false:=by kernel_rfl
theorem kb_h3:hasB [] secondE ⟨#[107]⟩ ⟨#[121]⟩=false:=by kernel_rfl
theorem nil_at {X:Type} {f:X→List T} {s:Nat} {w:World} {S:Nat→Prop}:T.At bare w S (rowT s f []) (.slice none 0 0):=by
 simp only[rowT,T.At];exact ⟨none,0,[],rfl,by simp[bare],by unfold maxLen;omega,by simp,fun hn=>by simp[bare] at hn,by simp[T.AtL]⟩
theorem built_any (w:World) (iv:Value) (its:List IT) (n:Int) (hn:buildD toksF cellsO givenL its = .error n) (hne:n≠0) (hx:T.At bare w (fun g=>g<w.heap.size) (itemsT its) iv) (hi:its.length≤1099511627776) (hit:∀it∈its,ItOk it) (hT:FoldNext.Tabs w) (hO:OrdLib.OTabs w):Calls Tryz.prog 32 #[iv] w (IntC n w):=by
 obtain ⟨IA,ic,rfl,_,_,_⟩:=at_row icells_len hx;have HC:Hid (∀(V:World) (A:Option Addr) (m c:Nat),Below w.heap.size w V→T.At bare V (fun g=>g<V.heap.size) (fieldsT givenL) (.slice A m c)→Calls Tryz.prog 12 #[.agg #[.slice A m c],.slice IA its.length ic] V fun e w'=>Below V.heap.size V w'∧e = .returned (.tuple #[.pointer none,.int .i64 n])):=hX fun V A m c hV hu=>by refine (build_any V _ _ givenL its hu (by decide) kb_ok (At.below hx hV (fun g hg=>Nat.lt_of_lt_of_le hg hV.size)) hi hit (hT.next hV) (hO.next hV)).mono ?_;rintro e w' ⟨hb,h⟩;rw[hn] at h;exact ⟨hb,h⟩
 have h1:(n != 0)=true:=by simpa using hne
 clear hn hne hx hi hit hT hO;go_enter Tryz.func32,Tryz.ntmps32;go_wp2_with fail;refine (given_any w).mono ?_;rintro e W1 ⟨A,m,c,rfl,ht,hb⟩;have HB1:=hX hb;have HC1:=hX (HC.out W1 A m c hb (At.keep (fun _ _=>rfl) (fun g h=>h.2.lt) ht));clear ht hb HC;go_wp2_with fail;refine HC1.out.mono ?_;clear HC1;rintro e W2 ⟨hb,rfl⟩;have HB2:=hX (HB1.out.trans (hb.mono HB1.out.size));clear hb;go_wp2_with fail;go_ret;exact ⟨rfl,HB2.out⟩
end Go.Proofs.YtigfcihakghddaaGreatDoor.BufT
end
