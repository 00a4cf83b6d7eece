/- Lemmas that the last text leans on. -/
import Derived.Test.YtplkbdncgkgppaaGreatDoorTake
import Derived.Test.YtplkbdncgkgppaaGreatDoorPack6
import Derived.Lib.FrozenHead2
import Derived.Lib.ConvBytes
import Derived.Test.YtplkbdncgkgppaaGreatDoorQryPar3
import Derived.Test.YtplkbdncgkgppaaGreatDoorPack9
set_option linter.all false
set_option maxRecDepth 100000
set_option maxHeartbeats 8000000
section
namespace Go.Proofs.YtplkbdncgkgppaaGreatDoor.Owned
open Go.RowKit Go.Lib Kit Words
section
variable {w w':World} {base:Nat} {e:TypeId} {size:Nat} {v:Value} {n:Nat} {xs:List Value}
end
section
variable {P:Program} (w:World)
end
end Go.Proofs.YtplkbdncgkgppaaGreatDoor.Owned
end
section
namespace Go.Proofs.YtplkbdncgkgppaaGreatDoor.Qry
open Go.RowKit Words Tree QryP Kit Sch SchP Owned
def zpu (r:R):E (List Int × R):=match zaf r with
 | []=>.ok ([],[])
 | c::t=>if ¬(c=45∨digB c=true) then .ok ([],c::t) else if (c::t).length=r.length then .error (r.length,180) else zgw zan zbm (r.length+1) (c::t)
def zr0 (l0:List Int):E (List Int × R)→E (List Int × R)
 | .ok (l,r)=>.ok (l0++l,r)
 | .error e=>.error e
theorem zyt (a b:List Int) (x:E (List Int × R)):zr0 a (zr0 b x)=zr0 (a++b) x:=by
 match x with
 | .ok (l,r)=>simp[zr0]
 | .error e=>rfl
theorem zn6 (m:Nat) (r:R) (h:r.length<m):zgw zan zbm m r=match zgp zan zbm r with
 | .error e=>.error e
 | .ok (n,r1)=>zr0 [n] (zpu r1):=by
 obtain ⟨m,rfl⟩:∃m',m=m'+1:=⟨m - 1,by omega⟩
 unfold zgw;have hn:=zfy (num:=zan) (par:=zbm) r
 match hx:zgp zan zbm r,hn with
 | .error e,_=>rfl
 | .ok (n,r1),hn=>
   replace hn:r1.length≤r.length:=hn;dsimp only;unfold zpu;have hs:=za6 r1
   cases hk:zaf r1 with
   | nil=>rfl
   | cons c t=>
    rw[hk] at hs;dsimp only;by_cases h1:c=45∨digB c=true
    ·rw[if_neg (not_not_intro h1),if_neg (not_not_intro h1)];by_cases h2:(c::t).length=r1.length
     ·rw[if_pos h2,if_pos h2];rfl
     ·rw[if_neg h2,if_neg h2];simp only[List.length_cons] at *;rw[zrk m (r1.length+1) (c::t) (by simp;omega) (by simp;omega)]
      match zgw zan zbm (r1.length+1) (c::t) with
      | .ok (l,r2)=>rfl
      | .error e=>rfl
    ·rw[if_pos h1,if_pos h1];rfl
theorem zyu {r:R} (h:zaf r=[]):zpu r = .ok ([],[]):=by unfold zpu;rw[h]
theorem zve {r:R} {c:UInt8} {t:R} (h:zaf r=c::t) (hc:¬(c=45∨digB c=true)):zpu r = .ok ([],c::t):=by unfold zpu;rw[h];exact if_pos hc
theorem zyv {r:R} {c:UInt8} {t:R} (h:zaf r=c::t) (hc:c=45∨digB c=true) (hl:(c::t).length=r.length):zpu r = .error (r.length,180):=by
 unfold zpu;rw[h];dsimp only;rw[if_neg (not_not_intro hc),if_pos hl]
theorem zvf {r:R} {c:UInt8} {t:R} (h:zaf r=c::t) (hc:c=45∨digB c=true) (hl:(c::t).length≠r.length):zpu r=match zgp zan zbm (c::t) with
 | .error e=>.error e
 | .ok (n,r1)=>zr0 [n] (zpu r1):=by
 rw[←zn6 (r.length+1) (c::t) (by have:=za6 r;rw[h] at this;omega)];conv=>lhs;unfold zpu
 rw[h];dsimp only;rw[if_neg (not_not_intro hc),if_neg hl]
theorem zsx (w:World) (t:TypeId) (cs:List Value) (n:Nat) (hn:cs.length=n):Reads (w.alloc (.cells cs.toArray t)) (w.heap.size+1) 1 (some ⟨w.heap.size,0,none⟩) n cs:=by
 subst hn;exact ⟨by simp,fun _=>⟨_,rfl,Nat.lt_succ_self _,World.news_of_block (Blk.new w t cs.toArray)⟩⟩
theorem zvg {w w1 w2:World} {B gp n m:Nat} {e:TypeId} {v:Value} {xs:List Value} (hg:w.grownBy w1 (some gp)) (hB:w.heap.size≤B) (ho:w1.ownsRow B e m v n xs) (h2:w1.grownBy w2 v.ownBlock):w.grownBy w2 (some gp):=
 ⟨h2.os.trans hg.os,h2.tape.trans hg.tape,h2.output.trans hg.output,Nat.le_trans hg.size h2.size,fun i hi hne=>(h2.block i (Nat.lt_of_lt_of_le hi hg.size) (fun e=>by have:=(ho.lt i e.symm).1;omega)).trans (hg.block i hi hne)⟩
theorem ybt:(Tryz.prog.info? 2).map (fun i=>(i.zero,i.size,i.bytes))=some (some (.int .i64 0),1,8):=by kernel_rfl
theorem ze1.grown {w w':World} {B gp:Nat} {v:Value} {l:List Int} (h:ze1 w B v l) (hg:w.grownBy w' (some gp)) (hgp:gp<B):ze1 w' B v l:=
 za8 h fun g hv=>hg.block g (World.ownsRow.lt h g hv).2 (fun e=>by injection e with e;have:=(World.ownsRow.lt h g hv).1;omega)
theorem ze1.below {w w':World} {B:Nat} {v:Value} {l:List Int} (h:ze1 w B v l) (hb:Below w.heap.size w w'):ze1 w' B v l:=
 za8 h fun g hv=>hb.block g (World.ownsRow.lt h g hv).2
def zn7 (B:Nat) (l:List Int) (v:Value) (w:World):Prop:=ze1 w B v l∧∀z∈l,I64 z
theorem zsy (c:UInt8):((c=45∨digB c=true)∧((c.toNat:Int) == 45)=true)∨((c=45∨digB c=true)∧((c.toNat:Int) == 45)=false∧decide ((c.toNat:Int)<48)=false∧decide (57<(c.toNat:Int))=false)∨
 (¬(c=45∨digB c=true)∧((c.toNat:Int) == 45)=false∧decide ((c.toNat:Int)<48)=true)∨(¬(c=45∨digB c=true)∧((c.toNat:Int) == 45)=false∧decide ((c.toNat:Int)<48)=false∧decide (57<(c.toNat:Int))=true):=by
 by_cases h0:c=45
 ·exact .inl ⟨.inl h0,by rw[h0];rfl⟩
 ·have e0:((c.toNat:Int) == 45)=false:=by
   rw[beq_eq_false_iff_ne];intro e;exact h0 (UInt8.toNat_inj.1 (by show c.toNat=45;omega))
  by_cases h1:c.toNat<48
  ·exact .inr (.inr (.inl ⟨fun h=>h.elim h0 (fun h=>by have:=of_decide_eq_true h;omega),e0,decide_eq_true (by omega)⟩))
  ·by_cases h2:57<c.toNat
   ·exact .inr (.inr (.inr ⟨fun h=>h.elim h0 (fun h=>by have:=of_decide_eq_true h;omega),e0,decide_eq_false (by omega),decide_eq_true (by omega)⟩))
   ·exact .inr (.inl ⟨.inr (decide_eq_true ⟨by omega,by omega⟩),e0,decide_eq_false (by omega),decide_eq_false (by omega)⟩)
theorem zj6 (B:Nat) (s:ByteArray) (gp k:Nat) (w:World) (h:Pa s gp k w) (hs:s.size≤4096) (hB:B≤gp) (hT:PT B w):Calls Tryz.prog 126 #[.pointer (some ⟨gp,0,none⟩)] w (Out s gp k w (zgw zan zbm ((rem s k).length+1) (rem s k)) fun l v w'=>zn7 w.heap.size l v w'):=by
 have HN0:=hX (zgf B s gp k w h hs hB hT);have HPT0:=hX hT;have hgp:gp<w.heap.size:=h.blk.lt
 obtain ⟨x,hx⟩:∃x,zgw zan zbm ((rem s k).length+1) (rem s k)=x:=⟨_,rfl⟩
 rw[hx];have HX:Hid (x=match zgp zan zbm (rem s k) with | .error e=>.error e | .ok (n,r1)=>zr0 [n] (zpu r1)):=hX (by rw[←hx];exact zn6 _ _ (Nat.lt_succ_self _));clear h hT hx
 obtain ⟨y,hy⟩:∃y,zgp zan zbm (rem s k)=y:=⟨_,rfl⟩
 rw[hy] at HX HN0;clear hy;go_enter Tryz.func126,Tryz.ntmps126;go_wp2_with fail;refine HN0.out.mono ?_;clear HN0
 match y with
 | .error (p,c)=>
   intro e w1 ho;obtain ⟨rfl,hg⟩:=ho;refine ⟨rfl,?_⟩;rw[HX.out];exact ⟨rfl,hg⟩
 | .ok (n0,r0)=>
   intro e w1 ho;obtain ⟨v,rfl,⟨rfl,hI⟩,hat⟩:=ho;have HI0:=hX hI;have HAT:=hX hat;clear hI hat;obtain ⟨i0,hi1,hi2,hi3,hi4⟩:=info_parts ybt;have HI:=hX (And.intro hi1 (And.intro hi2 (And.intro hi3 hi4)));clear hi1 hi2 hi3 hi4;obtain ⟨j0,hkj0,hpa,hr0⟩:=HAT.out.2;have hz1:=HAT.out.1.size;have hA1:=(Below.refl w1.heap.size w1).alloc (Nat.le_refl _) (.cells #[.int .i64 n0] 2);have HPA0:=hX (hpa.keep hA1);have HG0:=hX (zaa HAT.out.1 (only_of_below hA1 (some gp)));have HR0:Hid (zn7 w.heap.size [n0] (.slice (some ⟨w1.heap.size,0,none⟩) 1 1) (w1.alloc (.cells #[.int .i64 n0] 2))):=hX ⟨⟨rfl,.inr ⟨w1.heap.size,1,#[.int .i64 n0],rfl,hz1,Blk.new w1 _ _,Nat.le_refl _,by unfold maxLen;omega,rfl,rfl⟩⟩,by intro z hz;simp only[List.mem_singleton] at hz;subst hz;exact HI0.out⟩;have HX0:Hid (x=zr0 [n0] (zpu (rem s j0))):=hX (by rw[HX.out,hr0]);clear hpa hr0 hA1 HX;go_wp2_with fail;generalize w1.alloc (.cells #[.int .i64 n0] 2)=w2 at *;go_loopg [3] (s.size - j0) (fun n v wr=>∃(j:Nat) (l:List Int),k≤j∧j≤s.size∧n=s.size - j∧l.length+(s.size - j)≤4097∧Hid (Pa s gp j wr)∧Hid (w.grownBy wr (some gp))∧Hid (zn7 w.heap.size l v wr)∧Hid (x=zr0 l (zpu (rem s j))))
   case atStart=>exact ⟨j0,[n0],hkj0,HPA0.out.le,rfl,by simp;omega,HPA0,HG0,HR0,HX0⟩
   case round=>
    clear HPA0 HG0 HR0 HX0;obtain ⟨j,l,hkj,hj,rfl,hll,HJ,HG,HR,HX⟩:=hrel;obtain ⟨ao,ca,hao⟩:=zav HR.out.1;subst hao;have c1:wr.cell? ⟨gp,1,none⟩=some (.int .i64 j):=HJ.out.blk.cell 1;have HSK:=hX (zdd s gp j wr HJ.out hs);go_wp2_with fail;refine HSK.out.mono ?_;rintro e w3 ⟨rfl,hg,j2,hjj2,hp,hrem⟩;have HJ3:=hX hp;have HG3:=hX (zaa HG.out hg);have HR3:Hid (zn7 w.heap.size l (.slice ao l.length ca) w3):=hX ⟨HR.out.1.grown hg hgp,HR.out.2⟩;have HREM:=hX hrem;have hj2:=HJ3.out.le;clear hg hp hrem HSK c1;have c0:w3.cell? ⟨gp,0,none⟩=some (.string s):=HJ3.out.blk.cell 0;have c1:w3.cell? ⟨gp,1,none⟩=some (.int .i64 j2):=HJ3.out.blk.cell 1;by_cases hlt:j2<s.size
    ·have h1:(0:Int)≤(j2:Int):=by omega
     have h2:(j2:Int)<(s.size:Int):=by omega
     have dn:((j2:Int) == (s.size:Int))=false:=by rw[beq_eq_false_iff_ne];omega
     have HK:=hX (HREM.out.symm.trans (zbd hlt));have hsc:=zsy s[j2];have fin:∀nq,x = .ok (l,rem s j2)→Out s gp k w x (fun l v w'=>zn7 w.heap.size l v w') (.returned (.slice ao l.length ca)) (w3.drewN nq):=fun nq hx=>by rw[hx];exact ⟨_,rfl,⟨HR3.out.1.below (below_drewN (Below.refl _ _) nq),HR3.out.2⟩,zaq HG3.out nq,j2,by omega,HJ3.out.drewN nq,rfl⟩
     have FIN:=hX fin;clear fin
     rcases hsc with ⟨hc,d1⟩ | ⟨hc,d1,d2,d3⟩ | ⟨hc,d1,d2⟩ | ⟨hc,d1,d2,d3⟩
     all_goals have HC:=hX hc
     all_goals clear hc
     all_goals have dne:((s[j2].toNat:Int) != 45) = !((s[j2].toNat:Int) == 45):=rfl
     all_goals rw[d1] at dne
     all_goals simp only[Bool.not_true,Bool.not_false] at dne
     rotate_left 2
     iterate 2
      ·have HX2:Hid (x = .ok (l,rem s j2)):=hX (by rw[HX.out,zve HK.out HC.out,zbd hlt];simp[zr0]);go_upto_region 4 with fail;go_quiet (fail);go_wp2_with fail;go_ret;exact FIN.out _ HX2.out
     all_goals
      go_upto_region 4 with fail;go_quiet (fail);clear d1;have HJ4:Hid (Pa s gp j2 (w3.drewN nq)):=hX (HJ3.out.drewN nq);have HG4:Hid (w.grownBy (w3.drewN nq) (some gp)):=hX (zaq HG3.out nq);have HR4:Hid (zn7 w.heap.size l (.slice ao l.length ca) (w3.drewN nq)):=hX ⟨HR3.out.1.below (below_drewN (Below.refl _ _) nq),HR3.out.2⟩;have c1:(w3.drewN nq).cell? ⟨gp,1,none⟩=some (.int .i64 j2):=HJ4.out.blk.cell 1;generalize w3.drewN nq=w4 at *;by_cases hjj:j2=j
      ·have dq:((j2:Int) == (j:Int))=true:=by rw[hjj];simp
       have HX2:Hid (x = .error ((rem s j2).length,180)):=hX (by rw[HX.out,zyv HK.out HC.out (by rw[←zbd hlt,hjj]),hjj];rfl);have HWR:=hX (za1 j2 w4);clear hjj;go_wp2_with fail;refine HWR.out.mono ?_;rintro e w5 ⟨rfl,rfl⟩;refine ⟨rfl,?_⟩;rw[HX2.out];exact ⟨zde hj2 180,HG4.out⟩
      ·have dq:((j2:Int) == (j:Int))=false:=by rw[beq_eq_false_iff_ne];omega
       have hlj:j<j2:=by omega
       have HX2:Hid (x=zr0 l (match zgp zan zbm (rem s j2) with | .error e=>.error e | .ok (n,r1)=>zr0 [n] (zpu r1))):=hX (by
        rw[HX.out,zvf HK.out HC.out (by rw[←zbd hlt,zds,zds];omega),←zbd hlt])
       have HN:=hX (zgf B s gp j2 w4 HJ4.out hs hB (HPT0.out.grown HG4.out hB));clear hjj
       obtain ⟨y,hy⟩:∃y,zgp zan zbm (rem s j2)=y:=⟨_,rfl⟩
       rw[hy] at HN HX2;clear hy;go_wp2_with fail;refine HN.out.mono ?_;clear HN
       match y with
       | .error (p,c)=>
         intro e w5 ho;obtain ⟨rfl,hg⟩:=ho;refine ⟨rfl,?_⟩;rw[HX2.out];exact ⟨rfl,zaa HG4.out hg⟩
       | .ok (n1,r1)=>
         intro e w5 ho;obtain ⟨v,rfl,⟨rfl,hI⟩,hg,j5,hj25,hpa,hr5⟩:=ho;have HI5:=hX hI;have HJ5:=hX hpa;have HG5:=hX (zaa HG4.out hg);have HR5:Hid (zn7 w.heap.size l (.slice ao l.length ca) w5):=hX ⟨HR4.out.1.grown hg hgp,HR4.out.2⟩;have HX5:Hid (x=zr0 (l++[n1]) (zpu (rem s j5))):=hX (by rw[HX2.out,hr5];dsimp only;rw[zyt]);have hj5:=HJ5.out.le;clear hI hpa hg hr5;have hown:=zbb HR5.out.1 ((Below.refl _ w5).alloc (Nat.le_refl _) (.cells #[.int .i64 n1] 2));have hbs:=HG5.out.size;obtain ⟨hi1,hi2,hi3,hi4⟩:=HI.out;go_wp2_with (at_builtin;refine zao _ rfl (.tmp 72) (.tmp 75) 25 rfl w.heap.size 2 i0 (.int .i64 0) 1 8 Tryz.underlying25 hi1 hi2 hi3 hi4 rfl (by decide) _ _ _ rfl hown _ _ 1 1 [.int .i64 n1] rfl (zsx w5 2 [.int .i64 n1] 1 rfl) (by intro u hu;simp only[List.mem_cons,List.not_mem_nil,or_false] at hu;subst hu;rfl) (by unfold maxLen;omega) (by omega) (by simp;omega) ?_);intro v6 w6 ho6 hg6 _;have hga:=zaa HG5.out (only_of_below ((Below.refl w5.heap.size w5).alloc (Nat.le_refl _) (.cells #[.int .i64 n1] 2)) (some gp));have HG6:Hid (w.grownBy w6 (some gp)):=hX (zvg hga (Nat.le_refl _) hown hg6);have HJ6:Hid (Pa s gp j5 w6):=hX ((HJ5.out.keep ((Below.refl w5.heap.size w5).alloc (Nat.le_refl _) (.cells #[.int .i64 n1] 2))).grown hg6 (fun e=>by have:=(World.ownsRow.lt hown gp e).1;omega))
         have HR6:Hid (zn7 w.heap.size (l++[n1]) v6 w6):=hX ⟨by unfold ze1;rw[List.length_append,List.map_append];exact ho6,by
          intro z hz;rcases List.mem_append.1 hz with hz | hz
          ·exact HR5.out.2 z hz
          ·simp only[List.mem_singleton] at hz;subst hz;exact HI5.out⟩
         clear ho6 hg6 hga hown hi1 hi2 hi3 hi4;go_wp2_with fail;go_roundg (s.size - j5)
         case measure=>omega
         case rel=>exact ⟨j5,l++[n1],by omega,hj5,rfl,by rw[List.length_append];simp only[List.length_cons,List.length_nil];omega,HJ6,HG6,HR6,HX5⟩
    ·obtain rfl:j2=s.size:=by omega
     have HX2:Hid (x = .ok (l,rem s s.size)):=hX (by
      rw[HX.out,zyu (by rw[←HREM.out,zda]),zda];simp[zr0])
     go_upto_region 4 with fail;go_quiet (fail);go_wp2_with fail;go_ret;rw[HX2.out];exact ⟨_,rfl,⟨HR3.out.1.below (below_drewN (Below.refl _ _) nq),HR3.out.2⟩,zaq HG3.out nq,s.size,by omega,HJ3.out.drewN nq,rfl⟩
end Go.Proofs.YtplkbdncgkgppaaGreatDoor.Qry
end
section
namespace Go.Proofs.YtplkbdncgkgppaaGreatDoor.Qry
open Go.RowKit Words Tree QryP Kit Sch SchP Owned
def zax:Array Value:=#[.int .i64 0,.int .i64 0,.string ⟨#[]⟩,.string ⟨#[]⟩,.string ⟨#[]⟩,.slice none 0 0,.slice none 0 0,.int .i64 0,.int .i64 0,.slice none 0 0]
structure Fr (s:ByteArray) (gp:Nat) (w0:World) (gq above j:Nat) (q:QT) (us:List Value) (bs:List Nat) (w:World):Prop where
 pa:Pa s gp j w
 grown:w0.grownBy w (some gp)
 bp:Blk w w0.heap.size 102 #[.pointer (some ⟨gp,0,none⟩)]
 ba:Blk w (w0.heap.size+1) 3 #[.int .i64 above]
 br:Blk w (w0.heap.size+2) 28 zax
 bq:Blk w gq 28 us.toArray
 oq:OQ w (gq+1) q us bs
 nd:bs.Nodup
 hq:w0.heap.size+2<gq
 hp:gp<w0.heap.size
section
variable {s:ByteArray} {gp gq above j j':Nat} {w0 w w':World} {q q':QT} {us:List Value} {bs bs':List Nat}
theorem Fr.same (h:Fr s gp w0 gq above j q us bs w) (hg:w.grownBy w' (some gp)) (hp:Pa s gp j' w'):Fr s gp w0 gq above j' q us bs w':=
 ⟨hp,zaa h.grown hg,h.bp.grown hg (fun e=>by injection e with e;have:=h.hp;omega),h.ba.grown hg (fun e=>by injection e with e;have:=h.hp;omega),h.br.grown hg (fun e=>by injection e with e;have:=h.hp;omega),
  h.bq.grown hg (fun e=>by injection e with e;have:=h.hp;have:=h.hq;omega),h.oq.grown hg (fun g hm e=>by injection e with e;have:=(h.oq.mem g hm).1;have:=h.hp;have:=h.hq;omega),h.nd,h.hq,h.hp⟩
theorem Fr.drewN (h:Fr s gp w0 gq above j q us bs w) (n:Nat):Fr s gp w0 gq above j q us bs (w.drewN n):=h.same (zaq (World.grownBy.refl w _) n) (h.pa.drewN n)
theorem Fr.set (h:Fr s gp w0 gq above j q us bs w) (i:Nat) (u:Value) (hoq:OQ w (gq+1) q' (us.set i u) bs') (hnd:bs'.Nodup):Fr s gp w0 gq above j q' (us.set i u) bs' (w.setCell ⟨gq,i,none⟩ u):=by
 have hp:=h.hp;have hq:=h.hq;refine ⟨⟨h.pa.blk.far (by show gp≠gq;omega) u,h.pa.le⟩,zac h.grown (.inr (by show w0.heap.size≤gq;omega)) u,h.bp.far (by show w0.heap.size≠gq;omega) u,h.ba.far (by show w0.heap.size+1≠gq;omega) u,h.br.far (by show w0.heap.size+2≠gq;omega) u,?_,?_,hnd,h.hq,h.hp⟩
 ·have:=h.bq.set_ i u;simpa using this
 ·exact hoq.keep fun g hm=>Below.heap_setCell _ _ _ _ (by have:=(hoq.mem g hm).1;show g≠gq;omega)
theorem Fr.lt (h:Fr s gp w0 gq above j q us bs w):∀g∈bs,g<w.heap.size:=fun g hm=>(h.oq.mem g hm).2
end
def ydq (s:ByteArray) (gp:Nat) (w0:World) (gq above j:Nat) (x:E (QT × R)) (e:Ending) (w':World):Prop:=match x with
 | .ok (q,r)=>e = .returned (.tuple #[])∧∃j' us bs,j≤j'∧rem s j'=r∧Fr s gp w0 gq above j' q us bs w'
 | .error (p,c)=>e=ze3 ((s.size - p:Nat):Int) c∧w0.grownBy w' (some gp)
theorem zff (bp:Nat) (s:ByteArray) (gp k:Nat) (w:World) (h:Pa s gp k w) (hs:s.size≤4096) (hb:w.cell? ⟨bp,0,none⟩=some (.pointer (some ⟨gp,0,none⟩))):Calls Tryz.prog 73 #[.pointer (some ⟨bp,0,none⟩)] w (ygf s gp k w (zaj 44 (rem s k))):=by
 have HW:=hX (zb9 44 s gp k w h hs)
 obtain ⟨x,hx⟩:∃x,zaj 44 (rem s k)=x:=⟨_,rfl⟩
 rw[hx] at HW ⊢;clear hx;go_enter Tryz.func73,Tryz.ntmps73;go_wp2_with fail;refine HW.out.mono ?_
 match x with
 | .error (p,c)=>
   intro e w2 ho;obtain ⟨rfl,hg⟩:=ho;exact ⟨rfl,rfl,hg⟩
 | .ok r=>
  intro e w2 ho;obtain ⟨rfl,hat⟩:=ho;have HAT:=hX hat;clear hat;go_wp2_with fail;go_end0;exact ⟨rfl,HAT.out⟩
end Go.Proofs.YtplkbdncgkgppaaGreatDoor.Qry
end
section
namespace Go.Proofs.YtplkbdncgkgppaaGreatDoor.Qry
open Go.RowKit Words Tree QryP Kit Sch SchP Owned
section
variable {w:World} {B:Nat} {k o b op:Int} {f t u:ByteArray} {lo hi:List Int} {ks:List QT} {us:List Value} {bs:List Nat}
theorem OQ.field (h:OQ w B (.mk k o f t u lo hi b op ks) us bs) (f':ByteArray):OQ w B (.mk k o f' t u lo hi b op ks) (us.set 2 (.string f')) bs:=by
 rw[OQ] at h ⊢;obtain ⟨vl,vh,vk,xs,bk,rfl,h1⟩:=h;exact ⟨vl,vh,vk,xs,bk,rfl,h1⟩
theorem OQ.text (h:OQ w B (.mk k o f t u lo hi b op ks) us bs) (t':ByteArray):OQ w B (.mk k o f t' u lo hi b op ks) (us.set 3 (.string t')) bs:=by
 rw[OQ] at h ⊢;obtain ⟨vl,vh,vk,xs,bk,rfl,h1⟩:=h;exact ⟨vl,vh,vk,xs,bk,rfl,h1⟩
theorem OQ.upto (h:OQ w B (.mk k o f t u lo hi b op ks) us bs) (u':ByteArray):OQ w B (.mk k o f t u' lo hi b op ks) (us.set 4 (.string u')) bs:=by
 rw[OQ] at h ⊢;obtain ⟨vl,vh,vk,xs,bk,rfl,h1⟩:=h;exact ⟨vl,vh,vk,xs,bk,rfl,h1⟩
theorem OQ.boost (h:OQ w B (.mk k o f t u lo hi b op ks) us bs) (b':Int):OQ w B (.mk k o f t u lo hi b' op ks) (us.set 7 (.int .i64 b')) bs:=by
 rw[OQ] at h ⊢;obtain ⟨vl,vh,vk,xs,bk,rfl,h1⟩:=h;exact ⟨vl,vh,vk,xs,bk,rfl,h1⟩
theorem OQ.oper (h:OQ w B (.mk k o f t u lo hi b op ks) us bs) (op':Int):OQ w B (.mk k o f t u lo hi b op' ks) (us.set 8 (.int .i64 op')) bs:=by
 rw[OQ] at h ⊢;obtain ⟨vl,vh,vk,xs,bk,rfl,h1⟩:=h;exact ⟨vl,vh,vk,xs,bk,rfl,h1⟩
theorem zj7 {a b c:List Nat} (h:(a++(b++c)).Nodup):(b++c).Nodup∧a.Nodup:=by
 rw[List.nodup_append] at h;exact ⟨h.2.1,h.1⟩
theorem zml (v:Value):v.ownBlock.toList.Nodup:=by cases v.ownBlock <;> simp
theorem OQ.low (h:OQ w B (.mk k o f t u lo hi b op ks) us bs) (hnd:bs.Nodup) {v:Value} {lo':List Int} (hv:ze1 w B v lo') (hnew:∀g,v.ownBlock=some g→g∉bs):∃bs',OQ w B (.mk k o f t u lo' hi b op ks) (us.set 5 v) bs'∧bs'.Nodup:=by
 rw[OQ] at h;obtain ⟨vl,vh,vk,xs,bk,rfl,h1,h2,h3,h4,rfl⟩:=h;refine ⟨v.ownBlock.toList++(vh.ownBlock.toList++(vk.ownBlock.toList++bk)),by rw[OQ];exact ⟨v,vh,vk,xs,bk,rfl,hv,h2,h3,h4,rfl⟩,?_⟩;rw[List.nodup_append];refine ⟨zml v,(zj7 hnd).1,fun a ha c hc e=>?_⟩;subst e;exact hnew a (zat.1 ha) (List.mem_append_right _ hc)
theorem OQ.high (h:OQ w B (.mk k o f t u lo hi b op ks) us bs) (hnd:bs.Nodup) {v:Value} {hi':List Int} (hv:ze1 w B v hi') (hnew:∀g,v.ownBlock=some g→g∉bs):∃bs',OQ w B (.mk k o f t u lo hi' b op ks) (us.set 6 v) bs'∧bs'.Nodup:=by
 rw[OQ] at h;obtain ⟨vl,vh,vk,xs,bk,rfl,h1,h2,h3,h4,rfl⟩:=h;refine ⟨vl.ownBlock.toList++(v.ownBlock.toList++(vk.ownBlock.toList++bk)),by rw[OQ];exact ⟨vl,v,vk,xs,bk,rfl,h1,hv,h3,h4,rfl⟩,?_⟩;have h5:=(zj7 hnd).1;rw[List.nodup_append] at hnd ⊢;refine ⟨zml vl,?_,fun a ha c hc e=>?_⟩
 ·rw[List.nodup_append];refine ⟨zml v,(zj7 h5).1,fun a ha c hc e=>?_⟩;subst e;exact hnew a (zat.1 ha) (List.mem_append_right _ (List.mem_append_right _ hc))
 ·subst e;rcases List.mem_append.1 hc with hc | hc
  ·exact hnew a (zat.1 hc) (List.mem_append_left _ ha)
  ·exact hnd.2.2 a ha a (List.mem_append_right _ hc) rfl
end
theorem Fr.shape {s:ByteArray} {gp gq above j:Nat} {w0 w:World} {k o b op:Int} {f t u:ByteArray} {lo hi:List Int} {ks:List QT} {us:List Value} {bs:List Nat} (h:Fr s gp w0 gq above j (.mk k o f t u lo hi b op ks) us bs w) :
 ∃(cl ch ck:Nat) (al ah ak:Option Addr),us=[.int .i64 k,.int .i64 o,.string f,.string t,.string u,.slice al lo.length cl,.slice ah hi.length ch,.int .i64 b,.int .i64 op,.slice ak ks.length ck]:=by
 have h1:=h.oq;rw[OQ] at h1;obtain ⟨vl,vh,vk,xs,bk,rfl,h1,h2,h3,h4,rfl⟩:=h1;obtain ⟨al,cl,rfl⟩:=zav h1;obtain ⟨ah,ch,rfl⟩:=zav h2
 have h3':∃ak ck,vk = .slice ak ks.length ck:=by
  rcases h3.2 with ⟨rfl,h0⟩ | ⟨g,cap,cur,hv,_⟩
  ·exact ⟨none,0,by rw[h0]⟩
  ·exact ⟨_,_,hv⟩
 obtain ⟨ak,ck,rfl⟩:=h3';exact ⟨cl,ch,ck,al,ah,ak,rfl⟩
def zgz (k:Int) (f:ByteArray) (r:R):E (QT × R):=
 if k=7 then (match zgw zan zbm (r.length+1) r with
  | .error e=>.error e
  | .ok (lo,r1)=>match zaj 44 r1 with
    | .error e=>.error e
    | .ok r2=>match zgw zan zbm (r2.length+1) r2 with
     | .error e=>.error e
     | .ok (hi,r3)=>if lo.length≠hi.length∨4<lo.length then .error ((zaf r3).length,180) else .ok (.mk 7 0 f emp emp lo hi 0 0 [],zaf r3))
 else match zee r with
  | .error e=>.error e
  | .ok (t,r1)=>if k=6 then (match zaj 44 r1 with
    | .error e=>.error e
    | .ok r2=>match zee r2 with
     | .error e=>.error e
     | .ok (u,r3)=>.ok (.mk 6 0 f t u [] [] 0 0 [],r3))
    else .ok (.mk k 0 f t emp [] [] 0 0 [],r1)
theorem ydr (k:Int) (s:ByteArray) (gp:Nat) (w0:World) (gq above j:Nat) (f:ByteArray) (us:List Value) (bs:List Nat) (w:World) (h:Fr s gp w0 gq above j (.mk k 0 f emp emp [] [] 0 0 []) us bs w) (hs:s.size≤4096) (h6:k≠6) (h7:k≠7):Calls Tryz.prog 82 #[.pointer (some ⟨gp,0,none⟩),.pointer (some ⟨gq,0,none⟩)] w (ydq s gp w0 gq above j (zgz k f (rem s j))):=by
 have HF:=hX h;obtain ⟨cl,ch,ck,al,ah,ak,hus⟩:=h.shape;have HUS:=hX hus;have c0:w.cell? ⟨gq,0,none⟩=some (.int .i64 k):=by rw[h.bq.cell 0,hus];rfl
 clear hus
 obtain ⟨x,hx⟩:∃x,zgz k f (rem s j)=x:=⟨_,rfl⟩
 rw[hx];have HX:=hX hx.symm;unfold zgz at HX;have H1:=hX (zj5 s gp j w h.pa hs);clear h hx;rw[if_neg h7] at HX;simp only[if_neg h6] at HX;have d7:(k == 7)=false:=by rw[beq_eq_false_iff_ne];exact h7
 have d6:(k == 6)=false:=by rw[beq_eq_false_iff_ne];exact h6
 go_enter Tryz.func82,Tryz.ntmps82;go_wp2_with fail;refine H1.out.mono ?_;clear H1
 obtain ⟨y1,hy1⟩:∃y,zee (rem s j)=y:=⟨_,rfl⟩
 rw[hy1] at HX ⊢;clear hy1
 match y1 with
 | .error (p,c)=>
   intro e w9 ho;obtain ⟨rfl,hg⟩:=ho;refine ⟨rfl,?_⟩;rw[HX.out];exact ⟨rfl,zaa HF.out.grown hg⟩
 | .ok (t,r1)=>
   intro e w1 ho;obtain ⟨v,rfl,rfl,hg,j1,hj1,hpa,hr1⟩:=ho;have HF1:=hX (HF.out.same hg hpa);have c0:w1.cell? ⟨gq,0,none⟩=some (.int .i64 k):=by rw[HF1.out.bq.cell 0,HUS.out];rfl
   have c3:w1.cell? ⟨gq,3,none⟩=some (.string emp):=by rw[HF1.out.bq.cell 3,HUS.out];rfl
   have z3:w1.frozen? ⟨gq,3,none⟩=false:=HF1.out.bq.frozen 3;have HF2:=hX (HF1.out.set 3 (.string t) (HF1.out.oq.text t) HF1.out.nd);have d0:(w1.setCell ⟨gq,3,none⟩ (.string t)).cell? ⟨gq,0,none⟩=some (.int .i64 k):=by rw[HF2.out.bq.cell 0,HUS.out];rfl
   clear hg hpa;go_wp2_with fail;go_end0;rw[HX.out];exact ⟨rfl,j1,_,_,hj1,hr1,HF2.out⟩
theorem yds (s:ByteArray) (gp:Nat) (w0:World) (gq above j:Nat) (f:ByteArray) (us:List Value) (bs:List Nat) (w:World) (h:Fr s gp w0 gq above j (.mk 6 0 f emp emp [] [] 0 0 []) us bs w) (hs:s.size≤4096):Calls Tryz.prog 82 #[.pointer (some ⟨gp,0,none⟩),.pointer (some ⟨gq,0,none⟩)] w (ydq s gp w0 gq above j (zgz 6 f (rem s j))):=by
 have HF:=hX h;obtain ⟨cl,ch,ck,al,ah,ak,hus⟩:=h.shape;have HUS:=hX hus;have c0:w.cell? ⟨gq,0,none⟩=some (.int .i64 6):=by rw[h.bq.cell 0,hus];rfl
 clear hus
 obtain ⟨x,hx⟩:∃x,zgz 6 f (rem s j)=x:=⟨_,rfl⟩
 rw[hx];have HX:=hX hx.symm;unfold zgz at HX;have H1:=hX (zj5 s gp j w h.pa hs);clear h hx;rw[if_neg (by decide)] at HX;simp only[if_pos] at HX;go_enter Tryz.func82,Tryz.ntmps82;go_wp2_with fail;refine H1.out.mono ?_;clear H1
 obtain ⟨y1,hy1⟩:∃y,zee (rem s j)=y:=⟨_,rfl⟩
 rw[hy1] at HX ⊢;clear hy1
 match y1 with
 | .error (p,c)=>
   intro e w9 ho;obtain ⟨rfl,hg⟩:=ho;refine ⟨rfl,?_⟩;rw[HX.out];exact ⟨rfl,zaa HF.out.grown hg⟩
 | .ok (t,r1)=>
   intro e w1 ho;obtain ⟨v,rfl,rfl,hg,j1,hj1,hpa,hr1⟩:=ho;have HF1:=hX (HF.out.same hg hpa);have c0:w1.cell? ⟨gq,0,none⟩=some (.int .i64 6):=by rw[HF1.out.bq.cell 0,HUS.out];rfl
   have c3:w1.cell? ⟨gq,3,none⟩=some (.string emp):=by rw[HF1.out.bq.cell 3,HUS.out];rfl
   have z3:w1.frozen? ⟨gq,3,none⟩=false:=HF1.out.bq.frozen 3;have HF2:=hX (HF1.out.set 3 (.string t) (HF1.out.oq.text t) HF1.out.nd);have d0:(w1.setCell ⟨gq,3,none⟩ (.string t)).cell? ⟨gq,0,none⟩=some (.int .i64 6):=by rw[HF2.out.bq.cell 0,HUS.out];rfl
   clear hg hpa;subst hr1;go_upto_region 9 with fail;generalize w1.setCell ⟨gq,3,none⟩ (.string t)=w2 at *;have H2:=hX (zb9 44 s gp j1 w2 HF2.out.pa hs);go_wp2_with fail;refine H2.out.mono ?_;clear H2
   obtain ⟨y2,hy2⟩:∃y,zaj 44 (rem s j1)=y:=⟨_,rfl⟩
   rw[hy2] at HX ⊢;clear hy2
   match y2 with
   | .error (p,c)=>
     intro e w9 ho;obtain ⟨rfl,hg⟩:=ho;refine ⟨rfl,?_⟩;rw[HX.out];exact ⟨rfl,zaa HF2.out.grown hg⟩
   | .ok r2=>
    intro e w3 ho;obtain ⟨rfl,hg,j2,hj2,hpa,hr2⟩:=ho;have HF3:=hX (HF2.out.same hg hpa);subst hr2;have H3:=hX (zj5 s gp j2 w3 HF3.out.pa hs);clear hg hpa;go_wp2_with fail;refine H3.out.mono ?_;clear H3
    obtain ⟨y3,hy3⟩:∃y,zee (rem s j2)=y:=⟨_,rfl⟩
    rw[hy3] at HX ⊢;clear hy3
    match y3 with
    | .error (p,c)=>
      intro e w9 ho;obtain ⟨rfl,hg⟩:=ho;refine ⟨rfl,?_⟩;rw[HX.out];exact ⟨rfl,zaa HF3.out.grown hg⟩
    | .ok (u,r3)=>
      intro e w4 ho;obtain ⟨v,rfl,rfl,hg,j3,hj3,hpa,hr3⟩:=ho;have HF4:=hX (HF3.out.same hg hpa);have c4:w4.cell? ⟨gq,4,none⟩=some (.string emp):=by rw[HF4.out.bq.cell 4,HUS.out];rfl
      have z4:w4.frozen? ⟨gq,4,none⟩=false:=HF4.out.bq.frozen 4;have HF5:=hX (HF4.out.set 4 (.string u) (HF4.out.oq.upto u) HF4.out.nd);clear hg hpa;go_wp2_with fail;go_end0;rw[HX.out];exact ⟨rfl,j3,_,_,by omega,hr3,HF5.out⟩
theorem ydt (B:Nat) (s:ByteArray) (gp:Nat) (w0:World) (gq above j:Nat) (f:ByteArray) (us:List Value) (bs:List Nat) (w:World) (h:Fr s gp w0 gq above j (.mk 7 0 f emp emp [] [] 0 0 []) us bs w) (hs:s.size≤4096) (hB:B≤gp) (hT:PT B w):Calls Tryz.prog 82 #[.pointer (some ⟨gp,0,none⟩),.pointer (some ⟨gq,0,none⟩)] w (ydq s gp w0 gq above j (zgz 7 f (rem s j))):=by
 have HF:=hX h;obtain ⟨cl,ch,ck,al,ah,ak,hus⟩:=h.shape;have HUS:=hX hus;have c0:w.cell? ⟨gq,0,none⟩=some (.int .i64 7):=by rw[h.bq.cell 0,hus];rfl
 clear hus
 obtain ⟨x,hx⟩:∃x,zgz 7 f (rem s j)=x:=⟨_,rfl⟩
 rw[hx];have HX:=hX hx.symm;unfold zgz at HX;have H1:=hX (zj6 B s gp j w h.pa hs hB hT);clear h hx;have HT:=hX hT;clear hT;rw[if_pos rfl] at HX;go_enter Tryz.func82,Tryz.ntmps82;go_wp2_with fail;refine H1.out.mono ?_;clear H1
 obtain ⟨y1,hy1⟩:∃y,zgw zan zbm ((rem s j).length+1) (rem s j)=y:=⟨_,rfl⟩
 rw[hy1] at HX ⊢;clear hy1
 match y1 with
 | .error (p,c)=>
   intro e w9 ho;obtain ⟨rfl,hg⟩:=ho;refine ⟨rfl,?_⟩;rw[HX.out];exact ⟨rfl,zaa HF.out.grown hg⟩
 | .ok (lo,r1)=>
   intro e w1 ho;obtain ⟨v,rfl,hN,hg,j1,hj1,hpa,hr1⟩:=ho;obtain ⟨aL,cL,hao⟩:=zav hN.1;subst hao;have HF1:=hX (HF.out.same hg hpa);obtain ⟨bs2,hoq2,hnd2⟩:=HF1.out.oq.low HF1.out.nd (zdr hN.1 (show gq+1≤w.heap.size from HF.out.bq.lt)) (fun g hg hm=>by have:=(World.ownsRow.lt hN.1 g hg).1;have:=HF.out.lt g hm;omega);have c5:w1.cell? ⟨gq,5,none⟩=some (.slice al ([]:List Int).length cl):=by rw[HF1.out.bq.cell 5,HUS.out];rfl
   have z5:w1.frozen? ⟨gq,5,none⟩=false:=HF1.out.bq.frozen 5;have HF2:=hX (HF1.out.set 5 _ hoq2 hnd2)
   obtain ⟨us2,hus2⟩:∃u,us.set 5 (.slice aL lo.length cL)=u:=⟨_,rfl⟩
   rw[hus2] at HF2;have HUS2:Hid (us2=[.int .i64 7,.int .i64 0,.string f,.string emp,.string emp,.slice aL lo.length cL,.slice ah ([]:List Int).length ch,.int .i64 0,.int .i64 0,.slice ak ([]:List QT).length ck]):=hX (by rw[←hus2,HUS.out];rfl);have HT2:=hX ((HT.out.grown hg hB).next (show Below B w1 (w1.setCell ⟨gq,5,none⟩ (.slice aL lo.length cL)) from (Below.refl B w1).setCell (by show B≤gq;have:=HF.out.hq;have:=HF.out.hp;omega) _));subst hr1;clear hg hpa hN hoq2 hnd2 hus2;go_upto_region 2 with fail;generalize w1.setCell ⟨gq,5,none⟩ (.slice aL lo.length cL)=w2 at *;have H2:=hX (zb9 44 s gp j1 w2 HF2.out.pa hs);go_wp2_with fail;refine H2.out.mono ?_;clear H2
   obtain ⟨y2,hy2⟩:∃y,zaj 44 (rem s j1)=y:=⟨_,rfl⟩
   rw[hy2] at HX ⊢;clear hy2
   match y2 with
   | .error (p,c)=>
     intro e w9 ho;obtain ⟨rfl,hg⟩:=ho;refine ⟨rfl,?_⟩;rw[HX.out];exact ⟨rfl,zaa HF2.out.grown hg⟩
   | .ok r2=>
    intro e w3 ho;obtain ⟨rfl,hg,j2,hj2,hpa,hr2⟩:=ho;have HF3:=hX (HF2.out.same hg hpa);have HT3:=hX (HT2.out.grown hg hB);subst hr2;have H3:=hX (zj6 B s gp j2 w3 HF3.out.pa hs hB HT3.out);clear hg hpa;go_wp2_with fail;refine H3.out.mono ?_;clear H3
    obtain ⟨y3,hy3⟩:∃y,zgw zan zbm ((rem s j2).length+1) (rem s j2)=y:=⟨_,rfl⟩
    rw[hy3] at HX ⊢;clear hy3
    match y3 with
    | .error (p,c)=>
      intro e w9 ho;obtain ⟨rfl,hg⟩:=ho;refine ⟨rfl,?_⟩;rw[HX.out];exact ⟨rfl,zaa HF3.out.grown hg⟩
    | .ok (hi,r3)=>
      intro e w4 ho;obtain ⟨v,rfl,hN,hg,j3,hj3,hpa,hr3⟩:=ho;obtain ⟨aH,cH,hao⟩:=zav hN.1;subst hao;have HF4:=hX (HF3.out.same hg hpa);obtain ⟨bs5,hoq5,hnd5⟩:=HF4.out.oq.high HF4.out.nd (zdr hN.1 (show gq+1≤w3.heap.size from HF3.out.bq.lt)) (fun g hg hm=>by have:=(World.ownsRow.lt hN.1 g hg).1;have:=HF3.out.lt g hm;omega);have c6:w4.cell? ⟨gq,6,none⟩=some (.slice ah ([]:List Int).length ch):=by rw[HF4.out.bq.cell 6,HUS2.out];rfl
      have z6:w4.frozen? ⟨gq,6,none⟩=false:=HF4.out.bq.frozen 6;have HF5:=hX (HF4.out.set 6 _ hoq5 hnd5)
      obtain ⟨us5,hus5⟩:∃u,us2.set 6 (.slice aH hi.length cH)=u:=⟨_,rfl⟩
      rw[hus5] at HF5;have HUS5:Hid (us5=[.int .i64 7,.int .i64 0,.string f,.string emp,.string emp,.slice aL lo.length cL,.slice aH hi.length cH,.int .i64 0,.int .i64 0,.slice ak ([]:List QT).length ck]):=hX (by rw[←hus5,HUS2.out];rfl);subst hr3;clear hg hpa hN hoq5 hnd5 hus5;go_upto_region 4 with fail;generalize w4.setCell ⟨gq,6,none⟩ (.slice aH hi.length cH)=w5 at *;have HSK:=hX (zdd s gp j3 w5 HF5.out.pa hs);go_wp2_with fail;refine HSK.out.mono ?_;rintro e w6 ⟨rfl,hg,j4,hj4,hpa,hr4⟩;rw[←hr4] at HX;clear hr4;have HF6:=hX (HF5.out.same hg hpa);have HLO:=HUS5.out;have c5:w6.cell? ⟨gq,5,none⟩=some (.slice aL lo.length cL):=by rw[HF6.out.bq.cell 5,HUS5.out];rfl
      have c6:w6.cell? ⟨gq,6,none⟩=some (.slice aH hi.length cH):=by rw[HF6.out.bq.cell 6,HUS5.out];rfl
      have hj4l:=HF6.out.pa.le;clear hg hpa HLO;by_cases hne:lo.length=hi.length
      ·have dn:(((lo.length:Nat):Int) == ((hi.length:Nat):Int))=true:=by rw[hne];simp
       have dm:(((lo.length:Nat):Int) != ((hi.length:Nat):Int))=false:=by rw[bne,dn];rfl
       by_cases h4:4<lo.length
       ·rw[if_pos (.inr h4)] at HX;have d4:decide ((4:Int)<((lo.length:Nat):Int))=true:=decide_eq_true (by omega);clear hne h4;go_upto_region 5 with fail;go_quiet (fail);replace HF6:=hX (HF6.out.drewN nq);generalize w6.drewN nq=w6 at *;have c1:w6.cell? ⟨gp,1,none⟩=some (.int .i64 j4):=HF6.out.pa.blk.cell 1;have HWR:=hX (za1 j4 w6);go_wp2_with fail;refine HWR.out.mono ?_;rintro e w7 ⟨rfl,rfl⟩;refine ⟨rfl,?_⟩;rw[HX.out];exact ⟨zde HF6.out.pa.le 180,HF6.out.grown⟩
       ·rw[if_neg (by rintro (h | h);exact h hne;exact h4 h)] at HX;have d4:decide ((4:Int)<((lo.length:Nat):Int))=false:=decide_eq_false (by omega);clear hne h4;go_upto_region 5 with fail;go_quiet (fail);go_wp2_with fail;go_end0;rw[HX.out];exact ⟨rfl,j4,_,_,by omega,rfl,HF6.out.drewN _⟩
      ·rw[if_pos (.inl hne)] at HX;have dn:(((lo.length:Nat):Int) == ((hi.length:Nat):Int))=false:=by rw[beq_eq_false_iff_ne];omega
       have dm:(((lo.length:Nat):Int) != ((hi.length:Nat):Int))=true:=by rw[bne,dn];rfl
       clear hne;go_upto_region 5 with fail;go_quiet (fail);replace HF6:=hX (HF6.out.drewN nq);generalize w6.drewN nq=w6 at *;have c1:w6.cell? ⟨gp,1,none⟩=some (.int .i64 j4):=HF6.out.pa.blk.cell 1;have HWR:=hX (za1 j4 w6);go_wp2_with fail;refine HWR.out.mono ?_;rintro e w7 ⟨rfl,rfl⟩;refine ⟨rfl,?_⟩;rw[HX.out];exact ⟨zde HF6.out.pa.le 180,HF6.out.grown⟩
end Go.Proofs.YtplkbdncgkgppaaGreatDoor.Qry
end
section
namespace Go.Proofs.YtplkbdncgkgppaaGreatDoor.Qry
open Go.RowKit Words Tree QryP Kit Sch SchP Owned
def QV (B:Nat) (q:QT) (v:Value) (w:World):Prop:=∃us bs,v = .agg us.toArray∧OQ w B q us bs∧bs.Nodup
def zn8 (B:Nat) (s:ByteArray) (above:Nat):Prop:=∀(gp k:Nat) (w:World),Pa s gp k w→B≤gp→PT B w→
 Calls Tryz.prog 51 #[.pointer (some ⟨gp,0,none⟩),.int .i64 above] w (Out s gp k w (zaz zan zbm (6 - above) (rem s k)) (QV w.heap.size))
def ydu:QT→QT→QT
 | .mk k o f t u lo hi b op ks,q=>.mk k o f t u lo hi b op (ks++[q])
def ygq (q:QT):E (QT × R)→E (QT × R)
 | .error e=>.error e
 | .ok (q',r)=>.ok (ydu q q',r)
theorem zvh {w:World} {B n m g cap i:Nat} {e:TypeId} {xs:List Value} (h:w.ownsRow B e m (.slice (some ⟨g,0,none⟩) n cap) n xs) (u:Value):(w.setCell ⟨g,i,none⟩ u).ownsRow B e m (.slice (some ⟨g,0,none⟩) n cap) n (xs.set i u):=by
 obtain ⟨hl,h⟩:=h;refine ⟨by rw[List.length_set];exact hl,.inr ?_⟩
 rcases h with ⟨h,_⟩ | ⟨g',cap',cur,hv,hB,hg,hc,hm,hs,ht⟩
 ·cases h
 ·injection hv with e1 e2 e3;injection e1 with e1;injection e1 with e1;subst e1;subst e3;refine ⟨g,cap,cur.setIfInBounds i u,rfl,hB,Blk.set_ hg i u,hc,hm,by simpa using hs,?_⟩;rw[Array.toList_setIfInBounds,List.take_set,ht]
structure KF (s:ByteArray) (gp:Nat) (w0:World) (gq above j:Nat) (lo hi:List Int) (ks:List QT) (vl vh:Value) (xs:List Value) (bk:List Nat) (q':QT) (us':List Value) (b1:List Nat) (g3 cap3:Nat) (us els:List Value) (W:World):Prop where
 pa:Pa s gp j W
 grown:w0.grownBy W (some gp)
 bp:Blk W w0.heap.size 102 #[.pointer (some ⟨gp,0,none⟩)]
 ba:Blk W (w0.heap.size+1) 3 #[.int .i64 above]
 br:Blk W (w0.heap.size+2) 28 zax
 bq:Blk W gq 28 us.toArray
 rl:ze1 W (gq+1) vl lo
 rh:ze1 W (gq+1) vh hi
 rk:W.ownsRow (gq+1) 28 10 (.slice (some ⟨g3,0,none⟩) (ks.length+1) cap3) (ks.length+1) (xs++els)
 ol:OQL W (gq+1) ks xs bk
 oq:OQ W (gq+1) q' us' b1
 hq:w0.heap.size+2<gq
 hp:gp<w0.heap.size
 g3l:vl.ownBlock≠some g3
 g3h:vh.ownBlock≠some g3
 g3k:g3∉bk
 g31:g3∉b1
section
variable {s:ByteArray} {gp gq above j g3 cap3:Nat} {w0 W:World} {lo hi:List Int} {ks:List QT} {vl vh:Value} {xs us' us els:List Value} {bk b1:List Nat} {q':QT}
theorem KF.g3q (h:KF s gp w0 gq above j lo hi ks vl vh xs bk q' us' b1 g3 cap3 us els W):gq+1≤g3:=(World.ownsRow.lt h.rk g3 rfl).1
theorem KF.el (h:KF s gp w0 gq above j lo hi ks vl vh xs bk q' us' b1 g3 cap3 us els W) (i:Nat) (m:Nat) (hm:m=ks.length*10+i) (u:Value):KF s gp w0 gq above j lo hi ks vl vh xs bk q' us' b1 g3 cap3 us (els.set i u) (W.setCell ⟨g3,m,none⟩ u):=by
 have hp:=h.hp;have hq:=h.hq;have h3:=h.g3q;have hl:=OQL.len h.ol;have hrk:=zvh (i:=m) h.rk u;rw[hm,←hl,List.set_append_right _ _ (by omega),Nat.add_sub_cancel_left] at hrk;rw[hm,←hl]
 exact ⟨⟨h.pa.blk.far (by show gp≠g3;omega) u,h.pa.le⟩,zac h.grown (.inr (by show w0.heap.size≤g3;omega)) u,h.bp.far (by show w0.heap.size≠g3;omega) u,h.ba.far (by show w0.heap.size+1≠g3;omega) u,h.br.far (by show w0.heap.size+2≠g3;omega) u,
  h.bq.far (by show gq≠g3;omega) u,zb6 h.rl h.g3l u,zb6 h.rh h.g3h u,hrk,
  h.ol.keep fun g hm=>Below.heap_setCell _ _ _ _ (fun e=>h.g3k (by cases e;exact hm)),h.oq.keep fun g hm=>Below.heap_setCell _ _ _ _ (fun e=>h.g31 (by cases e;exact hm)),h.hq,h.hp,h.g3l,h.g3h,h.g3k,h.g31⟩
theorem KF.box (h:KF s gp w0 gq above j lo hi ks vl vh xs bk q' us' b1 g3 cap3 us els W) (i:Nat) (u:Value):KF s gp w0 gq above j lo hi ks vl vh xs bk q' us' b1 g3 cap3 (us.set i u) els (W.setCell ⟨gq,i,none⟩ u):=by
 have hp:=h.hp;have hq:=h.hq;have h3:=h.g3q
 refine ⟨⟨h.pa.blk.far (by show gp≠gq;omega) u,h.pa.le⟩,zac h.grown (.inr (by show w0.heap.size≤gq;omega)) u,h.bp.far (by show w0.heap.size≠gq;omega) u,h.ba.far (by show w0.heap.size+1≠gq;omega) u,h.br.far (by show w0.heap.size+2≠gq;omega) u,
  ?_,zgy h.rl (by show gq<gq+1;omega) u,zgy h.rh (by show gq<gq+1;omega) u,zgy h.rk (by show gq<gq+1;omega) u,
  h.ol.keep fun g hm=>Below.heap_setCell _ _ _ _ (by have:=(h.ol.mem g hm).1;show g≠gq;omega),h.oq.keep fun g hm=>Below.heap_setCell _ _ _ _ (by have:=(h.oq.mem g hm).1;show g≠gq;omega),h.hq,h.hp,h.g3l,h.g3h,h.g3k,h.g31⟩
 have:=h.bq.set_ i u;simpa using this
theorem KF.fin {k o b op:Int} {f t u:ByteArray} (h:KF s gp w0 gq above j lo hi ks vl vh xs bk q' us' b1 g3 cap3 us us' W)
 (hus:us=[.int .i64 k,.int .i64 o,.string f,.string t,.string u,vl,vh,.int .i64 b,.int .i64 op,.slice (some ⟨g3,0,none⟩) (ks.length+1) cap3])
 (hnd:(vl.ownBlock.toList++(vh.ownBlock.toList++(g3::(bk++b1)))).Nodup):Fr s gp w0 gq above j (ydu (.mk k o f t u lo hi b op ks) q') us (vl.ownBlock.toList++(vh.ownBlock.toList++(g3::(bk++b1)))) W:=by
 refine ⟨h.pa,h.grown,h.bp,h.ba,h.br,h.bq,?_,hnd,h.hq,h.hp⟩;rw[ydu,OQ];refine ⟨vl,vh,_,xs++us',bk++b1,hus,h.rl,h.rh,?_,h.ol.snoc h.oq,rfl⟩;rw[List.length_append];exact h.rk
end
end Go.Proofs.YtplkbdncgkgppaaGreatDoor.Qry
end
