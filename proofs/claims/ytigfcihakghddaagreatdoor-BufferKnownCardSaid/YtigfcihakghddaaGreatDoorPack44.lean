/- Lemmas that the last text leans on. -/
import Derived.Test.YtigfcihakghddaaGreatDoorTake
import Derived.Test.YtigfcihakghddaaGreatDoorPack15
import Derived.Test.YtigfcihakghddaaGreatDoorPack30
import Derived.Test.YtigfcihakghddaaGreatDoorPack13
import Derived.Test.YtigfcihakghddaaGreatDoorPack43
import Derived.Deep.RegionHeld3
set_option linter.all false
set_option maxRecDepth 100000
set_option maxHeartbeats 4000000
section
namespace Go.Proofs.YtigfcihakghddaaGreatDoor.Sch
open Go.RowKit Words Tree SchP Kit Owned AnaP
section
variable (f:FT) (e:ET) (k t gc gt i:Nat) (cs:Array Value) (w:World)
 (X Y:Option Addr) (z1 z2:Nat)
theorem value_1 (hv:T.At bare w (fun g=>g<w.heap.size) (numsT .i64 f.chain) (.slice X f.chain.length z1))
 (ef:EOk e) (hc:Blk w gc 103 #[.int .i64 k,.string ⟨#[]⟩,.slice none 0 0]) (ht:Blk w gt 3 cs) (hti:cs[i]?=some (.int .i64 t)) (htb:t≤1048576) (h1:f.kind=1) (hT:FoldNext.Tabs w) :
 Calls Tryz.prog 69 #[.agg #[.string f.name,.int .i64 f.kind,.slice X f.chain.length z1,.int .i64 f.scale,.int .i64 f.dims,.bool f.many,.bool f.stored],.agg #[.string e.field,.string e.text,.slice Y e.nums.length z2],.pointer (some ⟨gc,0,none⟩),.pointer (some ⟨gt,i,none⟩)] w
  (ValPost (valueF decO runO f k e) 1 t gc gt i cs w):=by
 obtain ⟨_,_,he,hz,hm,hrd⟩:=at_nums hv;injection he with e1 _ e3;subst e1 e3;have HRUN:=hX (fun (V:World) (hV:Below w.heap.size w V)=>Ana.run_any X f.chain.length z1 f.chain e.text V rfl ((hrd.below hV).more hV.size) hz hm (by have:=ef.text;omega) (hT.next hV))
 obtain ⟨r,hr⟩:∃r,runF f.chain e.text=r:=⟨_,rfl⟩
 rw[hr] at HRUN;have hrl:r.1.length≤4096:=by rw[←hr];exact runF_len _ _
 have hrc:r.2=0∨((r.2 == 0)=false∧r.2≠0):=by
  by_cases h:r.2=0
  ·exact .inl h
  ·exact .inr ⟨by simpa using h,h⟩
 have HVF:Hid (valueF decO runO f k e=if r.2=0 then some (⟨k,e.text,[]⟩,r.1.length) else none):=hX (by
  unfold valueF runO;rw[if_pos h1,hr]
  split <;> rfl)
 have hcl:=hc.lt;have htl:=ht.lt;have hne:gc≠gt:=fun h=>by subst h;exact Blk.ne_ hc ht (by decide) rfl
 have HC:=hX hc;have HT:=hX ht;have HTI:=hX hti;clear hv hrd hr ef hT hc ht hti hm hz;rw[h1];obtain ⟨f0,f1,f2,f3,f4,f5,f6⟩:=f;obtain ⟨e0,e1,e2⟩:=e;obtain ⟨ts,er⟩:=r;dsimp only at *;subst h1;go_enter Tryz.func69,Tryz.ntmps69;go_wp2_with fail;refine (HRUN.out _ (below2 _ _)).mono ?_;rintro e' W1 ⟨ao,c0,rfl,hown,hb⟩;have HB1:=hX ((below2 _ _).trans (hb.mono (by simp;omega)):Below w.heap.size w W1);have BE:=hX ((blk_b w _ _ _ _).below hb (by simp));have HC1:=hX (HC.out.below HB1.out hcl);have HT1:=hX (HT.out.below HB1.out htl);have hz1:w.heap.size+2≤W1.heap.size:=by have:=hb.size;simpa using this
 have cT:W1.cell? ⟨gt,i,none⟩=some (.int .i64 t):=(HT1.out.cell i).trans HTI.out;have fT:W1.frozen? ⟨gt,i,none⟩=false:=HT1.out.frozen i;clear hb hown;go_upto_region 5 with fail;have HT2:Hid (Blk (W1.setCell ⟨gt,i,none⟩ (.int .i64 ((t:Int)+ts.length))) gt 3 (cs.setIfInBounds i (.int .i64 ((t:Int)+ts.length)))):=hX (HT1.out.set_ i _);have HC2:Hid (Blk (W1.setCell ⟨gt,i,none⟩ (.int .i64 ((t:Int)+ts.length))) gc 103 #[.int .i64 k,.string ⟨#[]⟩,.slice none 0 0]):=hX (HC1.out.far (p:=⟨gt,i,none⟩) hne _);have BE2:Hid (Blk (W1.setCell ⟨gt,i,none⟩ (.int .i64 ((t:Int)+ts.length))) (w.heap.size+1) 82 #[.string e0,.string e1,.slice Y e2.length z2]):=hX (BE.out.far (p:=⟨gt,i,none⟩) (by show w.heap.size+1≠gt;omega) _);have HB2:Hid (But (fun g=>g=gc∨g=gt) w (W1.setCell ⟨gt,i,none⟩ (.int .i64 ((t:Int)+ts.length)))):=hX ((But.of_below HB1.out).set (p:=⟨gt,i,none⟩) (.inl (.inr rfl)) _);have hti:i<cs.size:=(Array.getElem?_eq_some_iff.1 HTI.out).1;clear HC1 HT1 BE cT fT;generalize W1.setCell ⟨gt,i,none⟩ (.int .i64 ((t:Int)+ts.length))=W2 at *;have c1:W2.cell? ⟨w.heap.size+1,1,none⟩=some (.string e1):=BE2.out.cell 1;have c2:W2.cell? ⟨gc,1,none⟩=some (.string ⟨#[]⟩):=HC2.out.cell 1;have c3:W2.frozen? ⟨gc,1,none⟩=false:=HC2.out.frozen 1;go_upto_region 6 with fail
 have HT3:Hid (Blk (W2.setCell ⟨gc,1,none⟩ (.string e1)) gt 3 (cs.setIfInBounds i (.int .i64 ((t:Int)+ts.length)))):=hX (HT2.out.far (p:=⟨gc,1,none⟩) (fun h=>hne h.symm) _);have HC3:Hid (Blk (W2.setCell ⟨gc,1,none⟩ (.string e1)) gc 103 #[.int .i64 k,.string e1,.slice none 0 0]):=hX (HC2.out.set_ 1 _);have HB3:Hid (But (fun g=>g=gc∨g=gt) w (W2.setCell ⟨gc,1,none⟩ (.string e1))):=hX (HB2.out.set (p:=⟨gc,1,none⟩) (.inl (.inl rfl)) _);clear HT2 HC2 BE2 HB2 c1 c2 c3;generalize W2.setCell ⟨gc,1,none⟩ (.string e1)=W3 at *;have c4:W3.cell? ⟨gt,i,none⟩=some (.int .i64 ((t:Int)+ts.length)):=(HT3.out.cell i).trans (by simp[hti])
 rcases hrc with rfl | ⟨hr1,hr2⟩
 ·rcases (show t+ts.length≤4096∨¬t+ts.length≤4096 by omega) with hle | hle
  ·have hd:decide ((t:Int)+ts.length≤4096)=true:=decide_eq_true (by omega);have HLE:=hX hle;go_wp2_with fail;go_ret;refine ⟨true,rfl,HB3.out,fun _=>⟨⟨k,e1,[]⟩,ts.length,by rw[HVF.out];rfl,fun _=>HLE.out,?_,.slice none 0 0,HC3.out,NumsIn.none_⟩,fun h=>by cases h⟩;have:=HT3.out;rwa [←Int.natCast_add] at this
  ·have hd:decide ((t:Int)+ts.length≤4096)=false:=decide_eq_false (by omega);have HLE:=hX hle;go_wp2_with fail;go_ret;refine ⟨false,rfl,HB3.out,(fun h=>by cases h),fun _ c n h=>?_⟩;rw[HVF.out] at h;cases h;exact ⟨rfl,by have:=HLE.out;omega⟩
 ·have HR2:=hX hr2;clear hr2;go_wp2_with fail;go_ret;refine ⟨false,rfl,HB3.out,(fun h=>by cases h),fun _ c n h=>?_⟩;rw[HVF.out,if_neg HR2.out] at h;cases h
theorem value_2 (ef:EOk e) (hc:Blk w gc 103 #[.int .i64 k,.string ⟨#[]⟩,.slice none 0 0]) (ht:Blk w gt 3 cs) (hti:cs[i]?=some (.int .i64 t)) (h2:f.kind=2) :
 Calls Tryz.prog 69 #[.agg #[.string f.name,.int .i64 f.kind,.slice X f.chain.length z1,.int .i64 f.scale,.int .i64 f.dims,.bool f.many,.bool f.stored],.agg #[.string e.field,.string e.text,.slice Y e.nums.length z2],.pointer (some ⟨gc,0,none⟩),.pointer (some ⟨gt,i,none⟩)] w
  (ValPost (valueF decO runO f k e) f.kind t gc gt i cs w):=by
 have HVF:Hid (valueF decO runO f k e=if e.text.size≤256 then some (⟨k,e.text,[]⟩,0) else none):=hX (by
  unfold valueF
  rw[if_neg (by omega),if_pos h2])
 have hcl:=hc.lt;have htl:=ht.lt;have hne:gc≠gt:=fun h=>by subst h;exact Blk.ne_ hc ht (by decide) rfl
 have HT0:Hid (cs.setIfInBounds i (.int .i64 ((t+0:Nat):Int))=cs):=hX (set_same hti);have HC:=hX hc;have HT:=hX ht;have HSZ:=hX ef.text;clear ef hc ht hti;rw[h2];obtain ⟨f0,f1,f2,f3,f4,f5,f6⟩:=f;obtain ⟨e0,e1,e2⟩:=e;dsimp only at *;subst h2;have c2:w.cell? ⟨gc,1,none⟩=some (.string ⟨#[]⟩):=HC.out.cell 1;have c3:w.frozen? ⟨gc,1,none⟩=false:=HC.out.frozen 1;have BW:=hX (blk_b w #[.string f0,.int .i64 2,.slice X f2.length z1,.int .i64 f3,.int .i64 f4,.bool f5,.bool f6] #[.string e0,.string e1,.slice Y e2.length z2] 86 82);have BV:=hX (blk_a w #[.string f0,.int .i64 2,.slice X f2.length z1,.int .i64 f3,.int .i64 f4,.bool f5,.bool f6] #[.string e0,.string e1,.slice Y e2.length z2] 86 82);have HB1:=hX (below2 (w:=w) (.cells #[.string f0,.int .i64 2,.slice X f2.length z1,.int .i64 f3,.int .i64 f4,.bool f5,.bool f6] 86) (.cells #[.string e0,.string e1,.slice Y e2.length z2] 82));go_enter Tryz.func69,Tryz.ntmps69;go_upto_region 1 with fail;generalize (w.alloc (.cells #[.string f0,.int .i64 2,.slice X f2.length z1,.int .i64 f3,.int .i64 f4,.bool f5,.bool f6] 86)).alloc (.cells #[.string e0,.string e1,.slice Y e2.length z2] 82)=W1 at *;have HC1:=hX (HC.out.below HB1.out hcl);have HT1:=hX (HT.out.below HB1.out htl);have c1:W1.cell? ⟨w.heap.size+1,1,none⟩=some (.string e1):=BW.out.cell 1;have c0:W1.cell? ⟨w.heap.size,1,none⟩=some (.int .i64 2):=BV.out.cell 1;replace c2:W1.cell? ⟨gc,1,none⟩=some (.string ⟨#[]⟩):=HC1.out.cell 1
 replace c3:W1.frozen? ⟨gc,1,none⟩=false:=HC1.out.frozen 1;go_upto_region 9 with fail;have HT3:Hid (Blk (W1.setCell ⟨gc,1,none⟩ (.string e1)) gt 3 cs):=hX (HT1.out.far (p:=⟨gc,1,none⟩) (fun h=>hne h.symm) _);have HC3:Hid (Blk (W1.setCell ⟨gc,1,none⟩ (.string e1)) gc 103 #[.int .i64 k,.string e1,.slice none 0 0]):=hX (HC1.out.set_ 1 _);have HB3:Hid (But (fun g=>g=gc∨g=gt) w (W1.setCell ⟨gc,1,none⟩ (.string e1))):=hX ((But.of_below HB1.out).set (p:=⟨gc,1,none⟩) (.inl (.inl rfl)) _);have c4:(W1.setCell ⟨gc,1,none⟩ (.string e1)).cell? ⟨w.heap.size+1,1,none⟩=some (.string e1):=(BW.out.far (p:=⟨gc,1,none⟩) (by show w.heap.size+1≠gc;omega) _).cell 1;clear HC1 HT1 c0 c1 c2 c3 BW BV HB1;generalize W1.setCell ⟨gc,1,none⟩ (.string e1)=W3 at *;rcases (show e1.size≤256∨¬e1.size≤256 by omega) with hle | hle
 ·have hd:decide ((e1.size:Int)≤256)=true:=decide_eq_true (by omega);have HLE:=hX hle;go_wp2_with fail;go_ret;refine ⟨true,rfl,HB3.out,fun _=>⟨⟨k,e1,[]⟩,0,by rw[HVF.out,if_pos HLE.out],(fun h=>by cases h),?_,.slice none 0 0,HC3.out,NumsIn.none_⟩,fun h=>by cases h⟩;rw[HT0.out];exact HT3.out
 ·have hd:decide ((e1.size:Int)≤256)=false:=decide_eq_false (by omega);have HLE:=hX hle;go_wp2_with fail;go_ret;refine ⟨false,rfl,HB3.out,(fun h=>by cases h),fun _ c n h=>?_⟩;rw[HVF.out,if_neg HLE.out] at h;cases h
theorem nums_one (w:World) (n:Int):NumsIn 2 .i64 w.heap.size (w.heap.size+1) (w.alloc (.cells #[.int .i64 n] 2)) [n] (.slice (some ⟨w.heap.size,0,none⟩) 1 1):=
 ⟨⟨rfl,.inr ⟨w.heap.size,1,#[.int .i64 n],rfl,Nat.le_refl _,heap_alloc_new w _,by simp,by unfold maxLen;omega,by simp,by simp⟩⟩,fun g hg=>by
  have:w.heap.size=g:=by simpa [Value.ownBlock] using hg
  omega⟩
theorem value_4 (ef:EOk e) (hc:Blk w gc 103 #[.int .i64 k,.string ⟨#[]⟩,.slice none 0 0]) (ht:Blk w gt 3 cs) (hti:cs[i]?=some (.int .i64 t)) (h4:f.kind=4) (hs:e.text.size<4294967281) (hO:OrdLib.OTabs w) :
 Calls Tryz.prog 69 #[.agg #[.string f.name,.int .i64 f.kind,.slice X f.chain.length z1,.int .i64 f.scale,.int .i64 f.dims,.bool f.many,.bool f.stored],.agg #[.string e.field,.string e.text,.slice Y e.nums.length z2],.pointer (some ⟨gc,0,none⟩),.pointer (some ⟨gt,i,none⟩)] w
  (ValPost (valueF decO runO f k e) f.kind t gc gt i cs w):=by
 have HVF:Hid (valueF decO runO f k e=(decO f e.text).map fun n=>(⟨k,⟨#[]⟩,[n]⟩,0)):=hX (by
  unfold valueF
  rw[if_neg (by omega),if_neg (by omega),if_pos h4])
 have hcl:=hc.lt;have htl:=ht.lt;have hne:gc≠gt:=fun h=>by subst h;exact Blk.ne_ hc ht (by decide) rfl
 have HT0:Hid (cs.setIfInBounds i (.int .i64 ((t+0:Nat):Int))=cs):=hX (set_same hti);have HC:=hX hc;have HT:=hX ht;have HDC:=hX (fun (V:World) (hV:Below w.heap.size w V)=>OrdLib.dec_any e.text f.scale V hs (hO.next hV));have HWY:=hX (decO_ways f e.text);clear ef hc ht hti hs hO;rw[h4];obtain ⟨f0,f1,f2,f3,f4,f5,f6⟩:=f;obtain ⟨e0,e1,e2⟩:=e;dsimp only at *;subst h4;have BW:=hX (blk_b w #[.string f0,.int .i64 4,.slice X f2.length z1,.int .i64 f3,.int .i64 f4,.bool f5,.bool f6] #[.string e0,.string e1,.slice Y e2.length z2] 86 82);have BV:=hX (blk_a w #[.string f0,.int .i64 4,.slice X f2.length z1,.int .i64 f3,.int .i64 f4,.bool f5,.bool f6] #[.string e0,.string e1,.slice Y e2.length z2] 86 82);have HB1:=hX (below2 (w:=w) (.cells #[.string f0,.int .i64 4,.slice X f2.length z1,.int .i64 f3,.int .i64 f4,.bool f5,.bool f6] 86) (.cells #[.string e0,.string e1,.slice Y e2.length z2] 82));have hz1:w.heap.size+2≤((w.alloc (.cells #[.string f0,.int .i64 4,.slice X f2.length z1,.int .i64 f3,.int .i64 f4,.bool f5,.bool f6] 86)).alloc (.cells #[.string e0,.string e1,.slice Y e2.length z2] 82)).heap.size:=by simp
 go_enter Tryz.func69,Tryz.ntmps69;go_upto_region 1 with fail;generalize (w.alloc (.cells #[.string f0,.int .i64 4,.slice X f2.length z1,.int .i64 f3,.int .i64 f4,.bool f5,.bool f6] 86)).alloc (.cells #[.string e0,.string e1,.slice Y e2.length z2] 82)=W1 at *;have HC1:=hX (HC.out.below HB1.out hcl);have HT1:=hX (HT.out.below HB1.out htl);have c0:W1.cell? ⟨w.heap.size,1,none⟩=some (.int .i64 4):=BV.out.cell 1;have c1:W1.cell? ⟨w.heap.size,3,none⟩=some (.int .i64 f3):=BV.out.cell 3;have c2:W1.cell? ⟨w.heap.size+1,1,none⟩=some (.string e1):=BW.out.cell 1;go_wp2_with fail;refine (HDC.out _ HB1.out).mono ?_;rintro e' W2 ⟨rfl,b2⟩;have HB2:=hX (HB1.out.trans (b2.mono HB1.out.size));have HC2:=hX (HC1.out.below b2 HC1.out.lt);have HT2:=hX (HT1.out.below b2 HT1.out.lt);have hz2:w.heap.size+2≤W2.heap.size:=by have:=b2.size;omega
 have hcl2:gc<W2.heap.size:=by omega
 obtain ⟨dn,hdn⟩:∃dn,OrdRef.decN e1.data.toList f3=dn:=⟨_,rfl⟩
 obtain ⟨de,hde⟩:∃de,OrdRef.decE e1.data.toList f3=de:=⟨_,rfl⟩
 have HDN:=hX hdn;have HDE:=hX hde;rw[hdn,hde];have c3:W2.cell? ⟨gc,2,none⟩=some (.slice none 0 0):=HC2.out.cell 2;have c4:W2.frozen? ⟨gc,2,none⟩=false:=HC2.out.frozen 2;clear b2 HC1 HT1 c0 c1 c2 BW BV HB1 hdn hde;go_upto_region 13 with fail;have hse:(W2.setCell ⟨gc,2,none⟩ (.slice (some ⟨W2.heap.size,0,none⟩) 1 1)).heap.size=W2.heap.size:=by simp[World.setCell]
 have hA:=nums_one (W2.setCell ⟨gc,2,none⟩ (.slice (some ⟨W2.heap.size,0,none⟩) 1 1)) dn;rw[hse] at hA;have HT3:Hid (Blk ((W2.setCell ⟨gc,2,none⟩ (.slice (some ⟨W2.heap.size,0,none⟩) 1 1)).alloc (.cells #[.int .i64 dn] 2)) gt 3 cs):=hX ((HT2.out.far (p:=⟨gc,2,none⟩) (fun h=>hne h.symm) _).alloc _);have HC3:Hid (Blk ((W2.setCell ⟨gc,2,none⟩ (.slice (some ⟨W2.heap.size,0,none⟩) 1 1)).alloc (.cells #[.int .i64 dn] 2)) gc 103 #[.int .i64 k,.string ⟨#[]⟩,.slice (some ⟨W2.heap.size,0,none⟩) 1 1]):=hX ((HC2.out.set_ 2 _).alloc _);have HB3:Hid (But (fun g=>g=gc∨g=gt) w ((W2.setCell ⟨gc,2,none⟩ (.slice (some ⟨W2.heap.size,0,none⟩) 1 1)).alloc (.cells #[.int .i64 dn] 2))):=hX (((But.of_below HB2.out).set (p:=⟨gc,2,none⟩) (.inl (.inl rfl)) _).alloc _)
 have HA3:Hid (NumsIn 2 .i64 w.heap.size ((W2.setCell ⟨gc,2,none⟩ (.slice (some ⟨W2.heap.size,0,none⟩) 1 1)).alloc (.cells #[.int .i64 dn] 2)).heap.size ((W2.setCell ⟨gc,2,none⟩ (.slice (some ⟨W2.heap.size,0,none⟩) 1 1)).alloc (.cells #[.int .i64 dn] 2)) [dn] (.slice (some ⟨W2.heap.size,0,none⟩) 1 1)):=
  hX ((hA.from_ (by omega)).more (by simp[World.setCell]))
 clear HT2 HC2 HB2 hA c3 c4 hse;generalize ((W2.setCell ⟨gc,2,none⟩ (.slice (some ⟨W2.heap.size,0,none⟩) 1 1)).alloc (.cells #[.int .i64 dn] 2))=W3 at *
 rcases HWY.out with ⟨n,h1,h2,h3⟩ | ⟨h1,h2⟩
 ·rw[HDN.out] at h2;rw[HDE.out] at h3;have H1:=hX h1;have H2:=hX h2;subst h3;clear h1 h2;go_wp2_with fail;go_ret;refine ⟨true,rfl,HB3.out,fun _=>⟨⟨k,⟨#[]⟩,[dn]⟩,0,by rw[HVF.out,H1.out,H2.out];rfl,(fun h=>by cases h),?_,_,HC3.out,HA3.out⟩,fun h=>by cases h⟩;rw[HT0.out];exact HT3.out
 ·rw[HDE.out] at h2;have H1:=hX h1;clear h1;go_wp2_with fail;go_ret;refine ⟨false,rfl,HB3.out,(fun h=>by cases h),fun _ c n h=>?_⟩;rw[HVF.out,H1.out] at h;cases h
theorem value_x (he:T.At bare w (fun g=>g<w.heap.size) (numsT .i64 e.nums) (.slice Y e.nums.length z2)) (ef:EOk e) (hc:Blk w gc 103 #[.int .i64 k,.string ⟨#[]⟩,.slice none 0 0]) (ht:Blk w gt 3 cs) (hti:cs[i]?=some (.int .i64 t)) (h1:f.kind≠1) (h2:f.kind≠2) (h4:f.kind≠4) :
 Calls Tryz.prog 69 #[.agg #[.string f.name,.int .i64 f.kind,.slice X f.chain.length z1,.int .i64 f.scale,.int .i64 f.dims,.bool f.many,.bool f.stored],.agg #[.string e.field,.string e.text,.slice Y e.nums.length z2],.pointer (some ⟨gc,0,none⟩),.pointer (some ⟨gt,i,none⟩)] w
  (ValPost (valueF decO runO f k e) f.kind t gc gt i cs w):=by
 have HVF:Hid (valueF decO runO f k e=some (⟨k,⟨#[]⟩,e.nums⟩,0)):=hX (by
  unfold valueF
  rw[if_neg h1,if_neg h2,if_neg h4])
 have hcl:=hc.lt;have htl:=ht.lt;have hne:gc≠gt:=fun h=>by subst h;exact Blk.ne_ hc ht (by decide) rfl
 have HT0:Hid (cs.setIfInBounds i (.int .i64 ((t+0:Nat):Int))=cs):=hX (set_same hti);have HC:=hX hc;have HT:=hX ht;have HCL:=hX (fun (V:World) (hV:Below w.heap.size w V)=>clone_own _ e.nums V (At.keep (fun p hp=>hV.cell hp) (fun g hg=>by have:=hV.size;omega) he) ef.nums.1);have b1:(f.kind == 1)=false:=by rw[beq_eq_false_iff_ne];exact h1
 have b2:(f.kind == 2)=false:=by rw[beq_eq_false_iff_ne];exact h2
 have b4:(f.kind == 4)=false:=by rw[beq_eq_false_iff_ne];exact h4
 have H1:=hX h1;clear ef hc ht hti he h1 h2 h4;obtain ⟨f0,f1,f2,f3,f4,f5,f6⟩:=f;obtain ⟨e0,e1,e2⟩:=e;dsimp only at *;have BW:=hX (blk_b w #[.string f0,.int .i64 f1,.slice X f2.length z1,.int .i64 f3,.int .i64 f4,.bool f5,.bool f6] #[.string e0,.string e1,.slice Y e2.length z2] 86 82);have BV:=hX (blk_a w #[.string f0,.int .i64 f1,.slice X f2.length z1,.int .i64 f3,.int .i64 f4,.bool f5,.bool f6] #[.string e0,.string e1,.slice Y e2.length z2] 86 82);have HB1:=hX (below2 (w:=w) (.cells #[.string f0,.int .i64 f1,.slice X f2.length z1,.int .i64 f3,.int .i64 f4,.bool f5,.bool f6] 86) (.cells #[.string e0,.string e1,.slice Y e2.length z2] 82));have hz1:w.heap.size+2≤((w.alloc (.cells #[.string f0,.int .i64 f1,.slice X f2.length z1,.int .i64 f3,.int .i64 f4,.bool f5,.bool f6] 86)).alloc (.cells #[.string e0,.string e1,.slice Y e2.length z2] 82)).heap.size:=by simp
 go_enter Tryz.func69,Tryz.ntmps69;go_upto_region 1 with fail;generalize (w.alloc (.cells #[.string f0,.int .i64 f1,.slice X f2.length z1,.int .i64 f3,.int .i64 f4,.bool f5,.bool f6] 86)).alloc (.cells #[.string e0,.string e1,.slice Y e2.length z2] 82)=W1 at *;have HC1:=hX (HC.out.below HB1.out hcl);have HT1:=hX (HT.out.below HB1.out htl);have c0:W1.cell? ⟨w.heap.size,1,none⟩=some (.int .i64 f1):=BV.out.cell 1;have c2:W1.cell? ⟨w.heap.size+1,2,none⟩=some (.slice Y e2.length z2):=BW.out.cell 2;go_wp2_with fail;refine (HCL.out _ HB1.out).mono ?_;rintro e' W2 ⟨vy,rfl,ha,hb2⟩;obtain ⟨Z,z3,rfl,_,_⟩:=at_slice ha.at_;have HA:=hX ha;have HB2:=hX (HB1.out.trans (hb2.mono HB1.out.size));have HC2:=hX (HC1.out.below hb2 HC1.out.lt);have HT2:=hX (HT1.out.below hb2 HT1.out.lt);have hz2:W1.heap.size≤W2.heap.size:=hb2.size;have c3:W2.cell? ⟨gc,2,none⟩=some (.slice none 0 0):=HC2.out.cell 2;have c4:W2.frozen? ⟨gc,2,none⟩=false:=HC2.out.frozen 2;clear hb2 ha HC1 HT1 c0 c2 BW BV HB1;go_upto_region 15 with fail;have HT3:Hid (Blk (W2.setCell ⟨gc,2,none⟩ (.slice Z e2.length z3)) gt 3 cs):=hX (HT2.out.far (p:=⟨gc,2,none⟩) (fun h=>hne h.symm) _);have HC3:Hid (Blk (W2.setCell ⟨gc,2,none⟩ (.slice Z e2.length z3)) gc 103 #[.int .i64 k,.string ⟨#[]⟩,.slice Z e2.length z3]):=hX (HC2.out.set_ 2 _);have HB3:Hid (But (fun g=>g=gc∨g=gt) w (W2.setCell ⟨gc,2,none⟩ (.slice Z e2.length z3))):=hX ((But.of_below HB2.out).set (p:=⟨gc,2,none⟩) (.inl (.inl rfl)) _)
 have HA3:Hid (NumsIn 2 .i64 w.heap.size (W2.setCell ⟨gc,2,none⟩ (.slice Z e2.length z3)).heap.size (W2.setCell ⟨gc,2,none⟩ (.slice Z e2.length z3)) e2 (.slice Z e2.length z3)):=
  hX (((HA.out.keep fun g h1 _ _=>Below.heap_setCell W2 ⟨gc,2,none⟩ _ g (by show g≠gc;omega)).from_ (by omega)).more (by simp[World.setCell]))
 clear HT2 HC2 HB2 HA c3 c4;generalize W2.setCell ⟨gc,2,none⟩ (.slice Z e2.length z3)=W3 at *;go_wp2_with fail;go_ret;refine ⟨true,rfl,HB3.out,fun _=>⟨⟨k,⟨#[]⟩,e2⟩,0,HVF.out,(fun h=>absurd h H1.out),?_,_,HC3.out,HA3.out⟩,fun h=>by cases h⟩;rw[HT0.out];exact HT3.out
theorem value_any (hv:T.At bare w (fun g=>g<w.heap.size) (numsT .i64 f.chain) (.slice X f.chain.length z1)) (he:T.At bare w (fun g=>g<w.heap.size) (numsT .i64 e.nums) (.slice Y e.nums.length z2))
 (ef:EOk e) (hc:Blk w gc 103 #[.int .i64 k,.string ⟨#[]⟩,.slice none 0 0]) (ht:Blk w gt 3 cs) (hti:cs[i]?=some (.int .i64 t)) (htb:t≤1048576) (hT:FoldNext.Tabs w) (hs:e.text.size<4294967281) (hO:OrdLib.OTabs w) :
 Calls Tryz.prog 69 #[.agg #[.string f.name,.int .i64 f.kind,.slice X f.chain.length z1,.int .i64 f.scale,.int .i64 f.dims,.bool f.many,.bool f.stored],.agg #[.string e.field,.string e.text,.slice Y e.nums.length z2],.pointer (some ⟨gc,0,none⟩),.pointer (some ⟨gt,i,none⟩)] w
  (ValPost (valueF decO runO f k e) f.kind t gc gt i cs w):=by
 by_cases h1:f.kind=1
 ·have:=value_1 f e k t gc gt i cs w X Y z1 z2 hv ef hc ht hti htb h1 hT;rwa [show (1:Int)=f.kind from h1.symm] at this
 by_cases h2:f.kind=2
 ·exact value_2 f e k t gc gt i cs w X Y z1 z2 ef hc ht hti h2
 by_cases h4:f.kind=4
 ·exact value_4 f e k t gc gt i cs w X Y z1 z2 ef hc ht hti h4 hs hO
 exact value_x f e k t gc gt i cs w X Y z1 z2 he ef hc ht hti h1 h2 h4
end
end Go.Proofs.YtigfcihakghddaaGreatDoor.Sch
end
section
namespace Go.Proofs.YtigfcihakghddaaGreatDoor.Sch
open Go.RowKit Words Tree SchP Kit Owned AnaP
theorem ValRet.below {r:Option (CT × Nat)} {kd:Int} {t gc gt i:Nat} {cs:Array Value} {w w' w'':World} {e:Ending} {b:Bool} (h:ValRet r kd t gc gt i cs w e w' b) (hb:Below w'.heap.size w' w''):ValRet r kd t gc gt i cs w e w'' b:=by
 refine ⟨h.ret,h.but.trans (But.of_below hb),fun hbt=>?_,h.no⟩;obtain ⟨c,n,h1,h2,h3,v,h4,h5⟩:=h.yes hbt;exact ⟨c,n,h1,h2,h3.below hb h3.lt,v,h4.below hb h4.lt,(h5.below hb (Nat.le_refl _)).more hb.size⟩
theorem ValRet.from_ {r:Option (CT × Nat)} {kd:Int} {t gc gt i:Nat} {cs:Array Value} {w0 w w':World} {e:Ending} {b:Bool} (h:ValRet r kd t gc gt i cs w e w' b) (hb:Below w0.heap.size w0 w):ValRet r kd t gc gt i cs w0 e w' b:=by
 refine ⟨h.ret,(But.of_below hb).trans h.but,fun hbt=>?_,h.no⟩;obtain ⟨c,n,h1,h2,h3,v,h4,h5⟩:=h.yes hbt;exact ⟨c,n,h1,h2,h3,v,h4,h5.from_ (by have:=hb.size;omega)⟩
def AskRet (r:Option (CT × Nat)) (kd:Int) (t gc gt i:Nat) (cs:Array Value) (w:World) (e:Ending) (w':World):Prop:=∃b:Bool,e = .returned (.int .i64 (if b then 0 else 83))∧ValRet r kd t gc gt i cs w (.returned (.bool b)) w' b
theorem ask4_any (gf ge gc gtb gi gt i t n c:Nat) (f:FT) (e:ET) (k:Nat) (cs:Array Value) (X Y:Option Addr) (z1 z2:Nat) (w:World)
 (hv:T.At bare w (fun g=>g<w.heap.size) (numsT .i64 f.chain) (.slice X f.chain.length z1)) (he:T.At bare w (fun g=>g<w.heap.size) (numsT .i64 e.nums) (.slice Y e.nums.length z2))
 (ef:EOk e) (hc:Blk w gc 103 #[.int .i64 k,.string ⟨#[]⟩,.slice none 0 0]) (ht:Blk w gt 3 cs) (hti:cs[i]?=some (.int .i64 t)) (htm:t≤1048576) (hT:FoldNext.Tabs w) (hs:e.text.size<4294967281) (hO:OrdLib.OTabs w)
 (hf:Blk w gf 86 #[.string f.name,.int .i64 f.kind,.slice X f.chain.length z1,.int .i64 f.scale,.int .i64 f.dims,.bool f.many,.bool f.stored]) (hen:Blk w ge 82 #[.string e.field,.string e.text,.slice Y e.nums.length z2])
 (htx:Blk w gtb 57 #[.slice (some ⟨gt,0,none⟩) n c]) (hin:i<n) (hn:n≤1048576) (hib0:Blk w gi 3 #[.int .i64 i]) (hgi:gi≠gt) :
 Calls Tryz.prog 68 #[.pointer (some ⟨gf,0,none⟩),.pointer (some ⟨ge,0,none⟩),.pointer (some ⟨gc,0,none⟩),.pointer (some ⟨gtb,0,none⟩),.pointer (some ⟨gi,0,none⟩)] w (AskRet (valueF decO runO f k e) f.kind t gc gt i cs w):=by
 have HV:=hX (fun (V:World) (hV:Below w.heap.size w V)=>value_any f e k t gc gt i cs V X Y z1 z2 (At.below hv hV (fun g hg=>Nat.lt_of_lt_of_le hg hV.size)) (At.below he hV (fun g hg=>Nat.lt_of_lt_of_le hg hV.size)) ef (hc.below hV hc.lt) (ht.below hV ht.lt) hti htm (hT.next hV) hs (hO.next hV));have HC:=hX (fun (b:Bool) (V:World)=>unless_any b 83 V);have hbf:=hX hf;have hbe:=hX hen;have htb:=hX htx;have hib:=hX hib0;have hnf:¬(gf=gc∨gf=gt):=by rintro (h | h);exact Blk.ne_ hf hc (by decide) h;exact Blk.ne_ hf ht (by decide) h
 have hne:¬(ge=gc∨ge=gt):=by rintro (h | h);exact Blk.ne_ hen hc (by decide) h;exact Blk.ne_ hen ht (by decide) h
 have hnt:¬(gtb=gc∨gtb=gt):=by rintro (h | h);exact Blk.ne_ htx hc (by decide) h;exact Blk.ne_ htx ht (by decide) h
 have hni:¬(gi=gc∨gi=gt):=by rintro (h | h);exact Blk.ne_ hib0 hc (by decide) h;exact hgi h
 have hin2:(i:Int)<(n:Int):=by omega
 clear hv he ef hc ht hti htm hT hs hO hf hen htx hib0;go_enter Tryz.func68,Tryz.ntmps68;go_upto_region 1 with fail;refine wp_region_held_drew (S:=fun V=>But (fun g=>g=gc∨g=gt) w V) (by kernel_rfl) (But.of_below (Below.refl _ _).drew) (fun hSa0=>?_);refine' tk 0 (by simp only[tkD,tkE,tkG];rfl) (by kernel_rfl) (by exact fun _ _ _ h=>h) (by rfl) hSa0 (by intro V hSw;have BFv:=hSw.blk hbf.out hnf;have BEv:=hSw.blk hbe.out hne;have t0:V.cell? ⟨gtb,0,none⟩=some (.slice (some ⟨gt,0,none⟩) n c):=(hSw.blk htb.out hnt).cell 0;have i0:V.cell? ⟨gi,0,none⟩=some (.int .i64 i):=(hSw.blk hib.out hni).cell 0;obtain ⟨p0,p1,p2,p3,p4,p5,p6⟩:=blk7 BFv;have q0:=BEv.cell 0;have q1:V.cell? ⟨ge,1,none⟩=some (.string e.text):=BEv.cell 1;have q2:V.cell? ⟨ge,2,none⟩=some (.slice Y e.nums.length z2):=BEv.cell 2;clear BFv BEv;clear hSw;go_simp;try with_reducible rfl) ?_;try simp only[Act.put,tkA,tkB,tkC]
 refine' tk 1 (by simp only[tkD,tkE,tkG];rfl) (by kernel_rfl) (by exact fun _ _ _ h=>h) (by rfl) hSa0 (by intro V hSw;have BFv:=hSw.blk hbf.out hnf;have BEv:=hSw.blk hbe.out hne;have t0:V.cell? ⟨gtb,0,none⟩=some (.slice (some ⟨gt,0,none⟩) n c):=(hSw.blk htb.out hnt).cell 0;have i0:V.cell? ⟨gi,0,none⟩=some (.int .i64 i):=(hSw.blk hib.out hni).cell 0;obtain ⟨p0,p1,p2,p3,p4,p5,p6⟩:=blk7 BFv;have q0:=BEv.cell 0;have q1:V.cell? ⟨ge,1,none⟩=some (.string e.text):=BEv.cell 1;have q2:V.cell? ⟨ge,2,none⟩=some (.slice Y e.nums.length z2):=BEv.cell 2;clear BFv BEv;clear hSw;go_simp;try with_reducible rfl) ?_;try simp only[Act.put,tkA,tkB,tkC]
 refine' tk 2 (by simp only[tkD,tkE,tkG];rfl) (by kernel_rfl) (by exact fun _ _ _ h=>h) (by rfl) hSa0 (by intro V hSw;have BFv:=hSw.blk hbf.out hnf;have BEv:=hSw.blk hbe.out hne;have t0:V.cell? ⟨gtb,0,none⟩=some (.slice (some ⟨gt,0,none⟩) n c):=(hSw.blk htb.out hnt).cell 0;have i0:V.cell? ⟨gi,0,none⟩=some (.int .i64 i):=(hSw.blk hib.out hni).cell 0;obtain ⟨p0,p1,p2,p3,p4,p5,p6⟩:=blk7 BFv;have q0:=BEv.cell 0;have q1:V.cell? ⟨ge,1,none⟩=some (.string e.text):=BEv.cell 1;have q2:V.cell? ⟨ge,2,none⟩=some (.slice Y e.nums.length z2):=BEv.cell 2;clear BFv BEv;clear hSw;go_simp;try with_reducible rfl) ?_;try simp only[Act.put,tkA,tkB,tkC]
 refine' tk 3 (by simp only[tkD,tkE,tkG];rfl) (by kernel_rfl) (by exact fun _ _ _ h=>h) (by rfl) hSa0 (by intro V hSw;have BFv:=hSw.blk hbf.out hnf;have BEv:=hSw.blk hbe.out hne;have t0:V.cell? ⟨gtb,0,none⟩=some (.slice (some ⟨gt,0,none⟩) n c):=(hSw.blk htb.out hnt).cell 0;have i0:V.cell? ⟨gi,0,none⟩=some (.int .i64 i):=(hSw.blk hib.out hni).cell 0;obtain ⟨p0,p1,p2,p3,p4,p5,p6⟩:=blk7 BFv;have q0:=BEv.cell 0;have q1:V.cell? ⟨ge,1,none⟩=some (.string e.text):=BEv.cell 1;have q2:V.cell? ⟨ge,2,none⟩=some (.slice Y e.nums.length z2):=BEv.cell 2;clear BFv BEv;clear hSw;go_simp;try with_reducible rfl) ?_;try simp only[Act.put,tkA,tkB,tkC]
 refine' tk 4 (by simp only[tkD,tkE,tkG];rfl) (by kernel_rfl) (by exact fun _ _ _ h=>h) (by rfl) hSa0 (by intro V hSw;clear hSw;go_simp;try with_reducible rfl) ?_;try simp only[Act.put,tkA,tkB,tkC]
 refine wpAnyH_ready (rs:=[5]) (by kernel_rfl) (by simp) ?_;refine' AllReadyH.cons (by simp only[tkD,tkE,tkG];rfl) (fun K hK=>?_) AllReadyH.nil;go_simp;refine (HV.out _ (Below.refl _ _).drew).mono ?_;rintro e' V1 ⟨b,hr⟩;obtain rfl:=hr.ret;have HR:=hX (hr.from_ (w0:=w) (Below.refl _ _).drew);clear hr;go_simp;refine hK.out _ _ HR.out.but (fun hSa1=>?_);try simp only[Act.put,tkA,tkB,tkC]
 refine wpAnyH_ready (rs:=[6]) (by kernel_rfl) (by simp) ?_;refine' AllReadyH.cons (by simp only[tkD,tkE,tkG];rfl) (fun K hK=>?_) AllReadyH.nil;go_simp
 obtain ⟨m,hm⟩:∃m:Int,(if b=true then (0:Int) else 83)=m:=⟨_,rfl⟩
 have hcb:=HC.out b V1;rw[hm] at hcb;have HM:=hX hm;clear hm;refine hcb.mono ?_;rintro e' V2 ⟨rfl,q⟩;have HR2:=hX (HR.out.below q);clear q;go_simp;refine hK.out _ _ HR2.out.but (fun hSa2=>?_);try simp only[Act.put,tkA,tkB,tkC]
 refine' tk 7 (by simp only[tkD,tkE,tkG];rfl) (by kernel_rfl) (by exact fun _ _ _ h=>h) (by rfl) hSa2 (by intro V hSw;clear hSw;go_simp;try with_reducible rfl) ?_;try simp only[Act.put,tkA,tkB,tkC]
 refine wpAnyH_done (by kernel_rfl) ?_ _;go_wp2_with fail;go_ret;exact ⟨b,by rw[HM.out];rfl,HR2.out⟩
end Go.Proofs.YtigfcihakghddaaGreatDoor.Sch
end
