/- Lemmas that the last text leans on. -/
import Derived.Test.YtplkbdncgkgppaaGreatDoorTake
import Derived.Test.YtplkbdncgkgppaaGreatDoorPack13
import Derived.Test.YtplkbdncgkgppaaGreatDoorPack2
import Derived.Test.YtplkbdncgkgppaaGreatDoorPack8
import Derived.LoopTactic
import Derived.Test.YtplkbdncgkgppaaGreatDoorPack20
import Derived.Laws.EntriesVeiled
set_option linter.all false
set_option maxHeartbeats 16000000
section
namespace Go.Proofs.YtplkbdncgkgppaaGreatDoor.Qry
open Go.RowKit Words Tree QryP Kit Sch
theorem zch {w W:World} {q:QT} {us:List Value} (h:T.AtL bare w (fun g=>g<w.heap.size) (cells q) us) (hb:Below w.heap.size w W):T.AtL bare W (fun g=>g<W.heap.size) (cells q) us:=
 AtL.below h hb (fun g hg=>Nat.lt_of_lt_of_le hg hb.size)
theorem zms {sent:Nat→List (List Value)} {w:World} {S:Nat→Prop} {s n:Nat} {xs:List T} {v:Value} (h:T.At sent w S (.arr s n xs) v):∃A cap,v = .slice A n cap:=by
 simp only[T.At] at h;obtain ⟨A,cap,_,hv,_⟩:=h;exact ⟨A,cap,hv⟩
end Go.Proofs.YtplkbdncgkgppaaGreatDoor.Qry
end
section
namespace Go.Proofs.YtplkbdncgkgppaaGreatDoor.Qry
open Go.RowKit Words Tree QryP Kit
section
variable {B b T Q P:Nat} {kd oc:Int} {f t u:ByteArray} {lo hi:List Int} {bo op:Int} {n:Nat} {L Hh K:Option Addr} {cl ch ck:Nat} {l0:List UInt8} {w0 w:World} {ps:List (List UInt8)}
theorem zy4 (h:WS B b T Q P kd oc f t u lo hi bo op n L Hh K cl ch ck l0 w0 ps w) (o:Obj):WS B b T Q P kd oc f t u lo hi bo op n L Hh K cl ch ck l0 w0 ps (w.alloc o):=by
 have hB:B≤w.heap.size:=by have:=h.buf.ge;have:=h.buf.size;omega
 have hw:Wr B (fun g=>g=b) w (w.alloc o):=(Wr.refl _ _ _).alloc hB o;exact ⟨h.caps.wr hw h.caps.tb h.caps.qb,h.buf.keep ((Below.refl _ _).alloc (Nat.le_refl _) _),h.cnt.alloc o,h.wr.trans hw,h.pb,h.tp,h.qp,h.new,h.bp⟩
theorem yd3 (h:WS B b T Q P kd oc f t u lo hi bo op n L Hh K cl ch ck l0 w0 ps w) {kd' oc':Int} {f' t' u':ByteArray} {lo' hi':List Int} {bo' op':Int} {ks':List QT} {L' H' K':Option Addr} {nl cl' nh ch' nk ck':Nat}
 (hau:Tree.T.AtL bare w0 (fun g=>g<B) (cells (.mk kd' oc' f' t' u' lo' hi' bo' op' ks')) [.int .i64 kd',.int .i64 oc',.string f',.string t',.string u',.slice L' nl cl',.slice H' nh ch',.int .i64 bo',.int .i64 op',.slice K' nk ck'])
 (ho:oc'=0∨oc'=1∨oc'=2∨oc'=3∨oc'=4)
 (hd:∀(l:List UInt8) (vs:List Value) (W:World),Below B w0 W→Tree.T.AtL bare W (fun g=>g<B) (cells (.mk kd' oc' f' t' u' lo' hi' bo' op' ks')) vs→Buf B b l W→l.length+(zbp zan (.mk kd' oc' f' t' u' lo' hi' bo' op' ks')).length+100≤ze0→Calls Tryz.prog 55 #[.pointer (some ⟨b,0,none⟩),.agg vs.toArray] W (zk5 B b l (zbp zan (.mk kd' oc' f' t' u' lo' hi' bo' op' ks')) W))
 (hn:ps.length≤1000000000000000000) (hm:l0.length+(zbq [44,32] (ps++[markF oc'++zbp zan (.mk kd' oc' f' t' u' lo' hi' bo' op' ks')])).length+101≤ze0) :
 Calls Tryz.prog 88 #[.func (.func 101) #[] #[.pointer (some ⟨w.heap.size,0,none⟩),.pointer (some ⟨T,0,none⟩)],.pointer (some ⟨P,0,none⟩),.pointer (some ⟨T,0,none⟩)]
  (w.alloc (.cells #[.int .i64 kd',.int .i64 oc',.string f',.string t',.string u',.slice L' nl cl',.slice H' nh ch',.int .i64 bo',.int .i64 op',.slice K' nk ck'] 28))
  (fun e w'=>e = .returned (.tuple #[])∧WS B b T Q P kd oc f t u lo hi bo op n L Hh K cl ch ck l0 w0 (ps++[markF oc'++zbp zan (.mk kd' oc' f' t' u' lo' hi' bo' op' ks')]) w'):=by
 have hbs:=h.buf.size;have hps:=h.cnt.lt;have hB:B≤w.heap.size:=by have:=h.buf.ge;omega
 refine zmq (zy4 h _) 101 _ (enters_of Tryz.func101 (by kernel_rfl) rfl) (by omega) hn (fun W hC hW hb hl=>?_);have hKW:=hW.blk (Blk.new w 28 #[.int .i64 kd',.int .i64 oc',.string f',.string t',.string u',.slice L' nl cl',.slice H' nh ch',.int .i64 bo',.int .i64 op',.slice K' nk ck']) (by omega) (by decide);have hbel:Below B w0 W:=(h.wr.below.trans ((Below.refl B w).alloc hB _)).trans hW.below
 have hI:∀(W':World) (l':List UInt8),Wr B (fun g=>g=b) W W'→Buf B b l' W'→l'.length+(zbp zan (.mk kd' oc' f' t' u' lo' hi' bo' op' ks')).length+100≤ze0→
  Calls Tryz.prog 55 #[.pointer (some ⟨b,0,none⟩),.agg #[.int .i64 kd',.int .i64 oc',.string f',.string t',.string u',.slice L' nl cl',.slice H' nh ch',.int .i64 bo',.int .i64 op',.slice K' nk ck']] W' (zk5 B b l' (zbp zan (.mk kd' oc' f' t' u' lo' hi' bo' op' ks')) W'):=fun W' l' hw hb' hlen=>
  hd l' _ W' (hbel.trans hw.below) (AtL.below hau (hbel.trans hw.below) (fun g hg=>hg)) hb' hlen
 have hlm:∀o:Int,(markF o).length≤1:=fun o=>by unfold markF;split <;> simp
 have hl2:=hl;simp only[List.length_append] at hl2;rcases ho with rfl | rfl | rfl | rfl | rfl
 ·exact yfo hC.tB hKW h.caps.tb (by omega) hb (by simp only[List.length_append];omega) (fun W' hw hb'=>hI W' _ hw hb' (by simp only[List.length_append];omega))
 ·exact yfp hC.tB hKW h.caps.tb (by omega) hb (by simp only[List.length_append];omega) (fun W' hw hb'=>hI W' _ hw hb' (by have:(markF 1).length=1:=rfl;simp only[List.length_append,List.length_cons,List.length_nil];omega))
 ·exact yfq hC.tB hKW h.caps.tb (by omega) hb (by simp only[List.length_append];omega) (fun W' hw hb'=>hI W' _ hw hb' (by have:(markF 2).length=1:=rfl;simp only[List.length_append,List.length_cons,List.length_nil];omega))
 ·exact yfr hC.tB hKW h.caps.tb (by omega) hb (by simp only[List.length_append];omega) (fun W' hw hb'=>hI W' _ hw hb' (by have:(markF 3).length=1:=rfl;simp only[List.length_append,List.length_cons,List.length_nil];omega))
 ·exact yfs hC.tB hKW h.caps.tb (by omega) hb (by simp only[List.length_append];omega) (fun W' hw hb'=>hI W' _ hw hb' (by have:(markF 4).length=1:=rfl;simp only[List.length_append,List.length_cons,List.length_nil];omega))
end
end Go.Proofs.YtplkbdncgkgppaaGreatDoor.Qry
end
section
namespace Go.Proofs.YtplkbdncgkgppaaGreatDoor.Qry
open Go.RowKit Words Tree QryP Kit
theorem zj9 {ps rest:List (List UInt8)} {x:List UInt8} {all:List (List UInt8)} (e:all=(ps++[x])++rest):(zbq [44,32] (ps++[x])).length≤(zbq [44,32] all).length:=by rw[e];exact zj1 _ _ _
theorem yb6 {a b c m:Nat} (h:a+b+101≤m) (k:c≤b):a+c+50≤m:=by omega
theorem yd4 {L:List UInt8} {x y:List (List UInt8)} {m:Nat} (h:L.length+(zbq [44,32] y).length+101≤m) (e:x=y):(L++zbq [44,32] x).length+1≤m:=by subst e;simp only[List.length_append];omega
theorem yb7 {a b c d x m:Nat} (h:a+b+101≤m) (k:c≤b) (e:d+x=a+c):d+x≤m:=by omega
theorem zog {ks:List QT} {k:Nat} (h:k<ks.length):(zbj zan ks).take (k+1)=(zbj zan ks).take k++[markF (QryP.oc ks[k])++zbp zan ks[k]]:=by
 rw[zjp,←List.map_take,←List.map_take,List.take_succ_eq_append_getElem h,List.map_append];rfl
theorem zy5 {ks:List QT} {k m:Nat} {l0:List UInt8} {pc:List (List UInt8)} (h:k<ks.length) (hm:l0.length+(zbq [44,32] (pc++zbj zan ks)).length+101≤m):l0.length+(zbq [44,32] (pc++(zbj zan ks).take k++[markF (QryP.oc ks[k])++zbp zan ks[k]])).length+101≤m:=by
 have:=zj9 (all:=pc++zbj zan ks) (ps:=pc++(zbj zan ks).take k) (x:=markF (QryP.oc ks[k])++zbp zan ks[k]) (rest:=(zbj zan ks).drop (k+1)) (by
  rw[List.append_assoc pc,←zog h,List.append_assoc,List.take_append_drop])
 omega
structure Ask (B b:Nat) (l0:List UInt8) (kd oc:Int) (f t u:ByteArray) (lo hi:List Int) (bo op:Int) (ks:List QT) (L Hh K:Option Addr) (ck:Nat) (w:World):Prop where
 buf:Buf B b l0 w
 low:Reads w B 1 L lo.length (lo.map (Value.int .i64))
 high:Reads w B 1 Hh hi.length (hi.map (Value.int .i64))
 kids:T.At bare w (fun g=>g<B) (.arr 10 ks.length (zaw ks)) (.slice K ks.length ck)
 pow:∀W,Below B w W→Lib.TabIs Tryz.prog W "internal/strconv.uint64pow10" .u64 Lib.pow10Tab
 len:l0.length+(zbp zan (.mk kd oc f t u lo hi bo op ks)).length+100≤ze0
 ok:Ok (.mk kd oc f t u lo hi bo op ks)
 occ:∀k∈ks,QryP.oc k=0∨QryP.oc k=1∨QryP.oc k=2∨QryP.oc k=3∨QryP.oc k=4
 down:∀k∈ks,∀(l:List UInt8) (vs:List Value) (W:World),Below B w W→T.AtL bare W (fun g=>g<B) (cells k) vs→Buf B b l W→l.length+(zbp zan k).length+100≤ze0→Calls Tryz.prog 55 #[.pointer (some ⟨b,0,none⟩),.agg vs.toArray] W (zk5 B b l (zbp zan k) W)
section
variable {B b:Nat} {kd oc:Int} {f t u:ByteArray} {lo hi:List Int} {bo op:Int} {ks:List QT} {L Hh K:Option Addr} {cl ch ck:Nat} {w:World} {l0:List UInt8}
set_option maxRecDepth 100000 in
theorem zvs (h:Ask B b l0 kd oc f t u lo hi bo op ks L Hh K ck w) (hk:(kd=1∨kd=2)∨((kd=3∨kd=4)∧f.toList.isEmpty=false)∨(kd=8∧f=⟨#[]⟩)∨(kd=9∧f=⟨#[]⟩)) :
 Calls Tryz.prog 55 #[.pointer (some ⟨b,0,none⟩),.agg #[.int .i64 kd,.int .i64 oc,.string f,.string t,.string u,.slice L lo.length cl,.slice Hh hi.length ch,.int .i64 bo,.int .i64 op,.slice K ks.length ck]] w (zk5 B b l0 (zbp zan (.mk kd oc f t u lo hi bo op ks)) w):=by
 have hmf:∀(fn:Fn) (first cap:Array Value) (w:World),(Instr.makeFunc fn first cap).run Tryz.prog w = .ok (.func fn first cap) w:=fun _ _ _ _=>rfl;have HA:=hX h;have hBw:B≤w.heap.size:=by have:=h.buf.ge;have:=h.buf.size;omega
 have hbw:b<w.heap.size:=h.buf.size
 have HOK:Hid (t.size≤140737488351232∧I64 bo∧ks.length*152≤140737488351232):=hX (by
  cases h.ok with
  | mk _ _ _ a2 _ _ _ a6 _ a8 _=>exact ⟨a2,a6,a8⟩)
 have HKK:=hX hk
 obtain ⟨pc,hpc⟩:∃x,zgv zan (.mk kd oc f t u lo hi bo op ks)=x:=⟨_,rfl⟩
 have HPP:=hX hpc;have HPL:Hid (pc.length≤3):=hX (by rw[←hpc];unfold zgv;(repeat' split) <;> simp)
 have hW:zbp zan (.mk kd oc f t u lo hi bo op ks)=if kd=1∨kd=2 then wordF kd else wordF kd++40::(zbq [44,32] (pc++zbj zan ks)++[41]):=(by rw[zbp,hpc])
 have HWF:=hX hW;have hlen:=h.len;rw[hW] at hlen ⊢;have HLE:=hX hlen
 have HLW:Hid (l0.length+(wordF kd).length≤ze0):=hX (by
  split at hlen
  ·omega
  ·rw[List.length_append] at hlen;omega)
 have hkd:1≤kd∧kd≤10:=by omega
 obtain ⟨out,hout⟩:∃x,(if kd=1∨kd=2 then wordF kd else wordF kd++40::(zbq [44,32] (pc++zbj zan ks)++[41]))=x:=⟨_,rfl⟩
 rw[hout];have HO:=hX hout;have hck:=h.kids;clear h hW hlen hk hpc hout;go_enter Tryz.func55,Tryz.ntmps55;go_upto_region 1 with fail;have HT0:=hX ((Blk.new w 108 #[.pointer (some ⟨b,0,none⟩)]).alloc (.cells #[.int .i64 kd,.int .i64 oc,.string f,.string t,.string u,.slice L lo.length cl,.slice Hh hi.length ch,.int .i64 bo,.int .i64 op,.slice K ks.length ck] 28));have HQ0:=hX (zer w (.cells #[.pointer (some ⟨b,0,none⟩)] 108) #[.int .i64 kd,.int .i64 oc,.string f,.string t,.string u,.slice L lo.length cl,.slice Hh hi.length ch,.int .i64 bo,.int .i64 op,.slice K ks.length ck] 28);have HW0:=hX (((Below.refl w.heap.size w).alloc (Nat.le_refl _) (.cells #[.pointer (some ⟨b,0,none⟩)] 108)).alloc (by simp) (.cells #[.int .i64 kd,.int .i64 oc,.string f,.string t,.string u,.slice L lo.length cl,.slice Hh hi.length ch,.int .i64 bo,.int .i64 op,.slice K ks.length ck] 28));generalize ((w.alloc (.cells #[.pointer (some ⟨b,0,none⟩)] 108)).alloc (.cells #[.int .i64 kd,.int .i64 oc,.string f,.string t,.string u,.slice L lo.length cl,.slice Hh hi.length ch,.int .i64 bo,.int .i64 op,.slice K ks.length ck] 28))=W0 at *;have hz0:w.heap.size+1<W0.heap.size:=HQ0.out.lt;have HB0:=hX (HA.out.buf.keep HW0.out);refine wp_region_held_drew (S:=fun V=>Wr B (fun g=>g=b) W0 V) (by kernel_rfl) ((Wr.refl B _ W0).drew) (fun hSd0=>?_)
 refine' tk 0 (by simp only[tkD,tkE,tkG];rfl) (by kernel_rfl) (by exact fun _ _ _ h=>h) (by rfl) hSd0 (by intro V hSw;have fq:=(hSw.blk HT0.out (by omega) (by decide)).cell 0;clear hSw;go_simp;try with_reducible rfl) ?_;try simp only[Act.put,tkA,tkB,tkC]
 refine' tk 1 (by simp only[tkD,tkE,tkG];rfl) (by kernel_rfl) (by exact fun _ _ _ h=>h) (by rfl) hSd0 (by intro V hSw;clear hSw;go_simp;try with_reducible rfl) ?_;try simp only[Act.put,tkA,tkB,tkC]
 refine' tk 2 (by simp only[tkD,tkE,tkG];rfl) (by kernel_rfl) (by exact fun _ _ _ h=>h) (by rfl) hSd0 (by intro V hSw;have fq:=(hSw.blk HQ0.out (by omega) (by decide)).cell 0;clear hSw;go_simp;try with_reducible rfl) ?_;try simp only[Act.put,tkA,tkB,tkC]
 refine wpAnyH_ready (rs:=[3]) (by kernel_rfl) (by simp) ?_;refine' AllReadyH.cons (by simp only[tkD,tkE,tkG];rfl) (fun KC hK=>?_) AllReadyH.nil;go_simp;refine (word_any kd _ hkd).mono ?_;rintro e V ⟨rfl,rfl⟩;go_simp;refine hK.out _ _ hSd0 (fun hSd1=>?_);clear hK;try simp only[Act.put,tkA,tkB,tkC]
 refine wpAnyH_ready (rs:=[4]) (by kernel_rfl) (by simp) ?_;refine' AllReadyH.cons (by simp only[tkD,tkE,tkG];rfl) (fun KC hK=>?_) AllReadyH.nil;go_simp;refine (zdk B b l0 (str (wordF kd)) _ (HB0.out.keep (Below.refl _ W0).drew) HLW.out).mono ?_;rintro e W1 ⟨rfl,hb,hw⟩;have hw1:=((Wr.refl B (fun g=>g=b) W0).drew).trans hw;have HB1:=hX hb;have HW1:=hX hw1;clear hb hw;go_simp;refine hK.out _ _ hw1 (fun hSd2=>?_);clear hK hw1;try simp only[Act.put,tkA,tkB,tkC]
 refine wpAnyH_done (by kernel_rfl) ?_ _;clear hSd0 hSd1 hSd2;have HT1:=hX (HW1.out.blk HT0.out (by omega) (by decide));have HQ1:=hX (HW1.out.blk HQ0.out (by omega) (by decide));have hz1:w.heap.size+1<W1.heap.size:=HQ1.out.lt;have HWw1:=hX ((Wr.same (S:=fun g=>g=b) HW0.out hBw).trans HW1.out);obtain ⟨c0,c1,c2,c3,c4,c5,c6,c7,c8,c9⟩:=zlq HQ1.out;have cT:W1.cell? ⟨w.heap.size,0,none⟩=some (.pointer (some ⟨b,0,none⟩)):=HT1.out.cell 0;clear hkd;rcases HKK.out with hk | hk
 ·have ho:=HO.out;rw[if_pos hk] at ho;subst ho;rcases hk with rfl | rfl <;>
  (go_wp2_with fail;(first | go_end0 | (refine bodyPost_ret (results_none rfl _ _ _) rfl ?_));exact ⟨rfl,HB1.out,HWw1.out⟩)
 have hn12:¬(kd=1∨kd=2):=by omega
 obtain ⟨LL,hLL⟩:∃x,l0++wordF kd++[40]=x:=⟨_,rfl⟩
 have HM:Hid (LL.length+(zbq [44,32] (pc++zbj zan ks)).length+101≤ze0∧(l0++wordF kd).length+1≤ze0):=hX (by
  have:=HLE.out;rw[if_neg hn12] at this;subst hLL;simp only[List.length_append,List.length_cons,List.length_nil] at *
  omega)
 have HFIN:Hid (LL++zbq [44,32] (pc++zbj zan ks)++[41]=l0++out):=hX (by
  rw[←HO.out,if_neg hn12,←hLL]
  simp[List.append_assoc])
 have HLL:=hX hLL;have hn1:(kd == 1)=false:=by rw[beq_eq_false_iff_ne];omega
 have hn2:(kd == 2)=false:=by rw[beq_eq_false_iff_ne];omega
 clear hn12 hLL;go_upto_region 5 with fail;have HT2:Hid (Blk (W1.alloc (.cells #[.int .i64 0] 3)) w.heap.size 108 #[.pointer (some ⟨b,0,none⟩)]):=hX (HT1.out.alloc _);have HQ2:=hX (HQ1.out.alloc (.cells #[.int .i64 0] 3));have HP2:=hX (Blk.new W1 3 #[.int .i64 0]);have HWw2:=hX (HWw1.out.alloc (by omega) (.cells #[.int .i64 0] 3));have HB2:=hX (HB1.out.keep ((Below.refl _ W1).alloc (Nat.le_refl _) (.cells #[.int .i64 0] 3)));have HBY:=hX (zbz B b _ 40 _ HB2.out HM.out.2);have hzP:w.heap.size+1<W1.heap.size:=hz1;generalize W1.alloc (.cells #[.int .i64 0] 3)=W2 at *;generalize W1.heap.size=PP at *;clear c0 c1 c2 c3 c4 c5 c6 c7 c8 c9 cT;have cT:W2.cell? ⟨w.heap.size,0,none⟩=some (.pointer (some ⟨b,0,none⟩)):=HT2.out.cell 0;go_wp2_with fail;refine HBY.out.mono ?_;rintro e V0 ⟨rfl,hb,hw⟩
 obtain ⟨IW,hIW⟩:∃I,WS B b w.heap.size (w.heap.size+1) PP kd oc f t u lo hi bo op ks.length L Hh K cl ch ck LL w=I:=⟨_,rfl⟩
 have HIW:=hX hIW
 have HV0:Hid (IW [] V0):=hX (by
  rw[←hIW,←HLL.out];have hwv:=HWw2.out.trans hw;have hb':Buf B b (l0++wordF kd++[40]) V0:=hb
  exact ⟨⟨hw.blk HT2.out (by omega) (by decide),hw.blk HQ2.out (by omega) (by decide),HA.out.low.below hwv.below,HA.out.high.below hwv.below,HA.out.pow _ hwv.below,fun V hV=>HA.out.pow _ (hwv.below.trans hV),by omega,by omega⟩,by simpa [zbq] using hb',hw.blk HP2.out (by omega) (by decide),hwv,by omega,by omega,by omega,by omega,by omega⟩)
 clear hb hw cT HBY hIW;rcases hk with hB | hC | hD
 all_goals
  first
  | (obtain ⟨hk,hf⟩:=hB
     have HPE:Hid (pc=[f.data.toList,zcf t]):=hX (by rw[←HPP.out,zgv];exact if_pos (show kd=3∨kd=4∨kd=5 by omega));have HPC:Hid (pc++zbj zan ks=([]++[f.data.toList])++([zcf t]++zbj zan ks)):=hX (by rw[HPE.out];rfl);have n9:(kd == 9)=false:=by rw[beq_eq_false_iff_ne];omega
     have n10:(kd == 10)=false:=by rw[beq_eq_false_iff_ne];omega
     have n6:(kd == 6)=false:=by rw[beq_eq_false_iff_ne];omega
     have hv0:=HIW.out ▸ HV0.out;obtain ⟨c0,c1,c2,c3,c4,c5,c6,c7,c8,c9⟩:=zlq hv0.caps.qB;have HPT:=hX (zmq (x:=f.data.toList) hv0 93 #[.pointer (some ⟨w.heap.size,0,none⟩),.pointer (some ⟨w.heap.size+1,0,none⟩)] (enters_of Tryz.func93 (by kernel_rfl) rfl) (yb6 HM.out.1 (zj9 (ps:=[]) (x:=f.data.toList) HPC.out)) (by simp) (fun W hC hW hb hl=>yfj hC hb (yb7 HM.out.1 (zj9 (ps:=[]) (x:=f.data.toList) HPC.out) hl)));clear hv0;go_wp2_with fail;refine HPT.out.mono ?_;rintro e V1 ⟨rfl,hv⟩;rw[HIW.out] at hv;have HV1:=hX hv;clear hv HPT c0 c1 c2 c3 c4 c5 c6 c7 c8 c9 HV0;replace HPC:Hid (pc++zbj zan ks=([f.data.toList]++[zcf t])++([]++zbj zan ks)):=hX (by rw[HPE.out];rfl)
     rcases hk with rfl | rfl <;> (
      have hv0:=HIW.out ▸ HV1.out;obtain ⟨c0,c1,c2,c3,c4,c5,c6,c7,c8,c9⟩:=zlq hv0.caps.qB;have HPT:=hX (zmq (x:=zcf t) hv0 97 #[.pointer (some ⟨w.heap.size,0,none⟩),.pointer (some ⟨w.heap.size+1,0,none⟩)] (enters_of Tryz.func97 (by kernel_rfl) rfl) (yb6 HM.out.1 (zj9 (ps:=[f.data.toList]) (x:=zcf t) HPC.out)) (by simp) (fun W hC hW hb hl=>yfk hC hb (yb7 HM.out.1 (zj9 (ps:=[f.data.toList]) (x:=zcf t) HPC.out) hl) HOK.out.1));clear hv0;go_wp2_with fail;refine HPT.out.mono ?_;rintro e VE ⟨rfl,hv⟩;rw[HIW.out] at hv;have HVE:=hX hv;clear hv HPT c0 c1 c2 c3 c4 c5 c6 c7 c8 c9 HV1
      replace HVE:Hid (IW pc VE):=hX (by rw[HPE.out];exact HVE.out)))
  | (obtain ⟨rfl,rfl⟩:=hC
     obtain ⟨VE,hve⟩:∃x,V0=x:=⟨_,rfl⟩
     subst hve
     have HVE:Hid (IW pc V0):=hX (by rw[←HPP.out];exact HV0.out))
  | (obtain ⟨rfl,rfl⟩:=hD
     have HPE:Hid (pc=[zan bo]):=hX HPP.out.symm;have HPC:Hid (pc++zbj zan ks=([]++[zan bo])++([]++zbj zan ks)):=hX (by rw[HPE.out];rfl);have hv0:=HIW.out ▸ HV0.out;obtain ⟨c0,c1,c2,c3,c4,c5,c6,c7,c8,c9⟩:=zlq hv0.caps.qB;have HPT:=hX (zmq (x:=zan bo) hv0 90 #[.pointer (some ⟨w.heap.size,0,none⟩),.pointer (some ⟨w.heap.size+1,0,none⟩)] (enters_of Tryz.func90 (by kernel_rfl) rfl) (yb6 HM.out.1 (zj9 (ps:=[]) (x:=zan bo) HPC.out)) (by simp) (fun W hC hW hb hl=>yfl hC hb (yb7 HM.out.1 (zj9 (ps:=[]) (x:=zan bo) HPC.out) hl) HOK.out.2.1));clear hv0;go_wp2_with fail;refine HPT.out.mono ?_;rintro e VE ⟨rfl,hv⟩;rw[HIW.out] at hv;have HVE:=hX hv;clear hv HPT c0 c1 c2 c3 c4 c5 c6 c7 c8 c9 HV0
     replace HVE:Hid (IW pc VE):=hX (by rw[HPE.out];exact HVE.out))
 all_goals
  have hv0:=HIW.out ▸ HVE.out;obtain ⟨c0,c1,c2,c3,c4,c5,c6,c7,c8,c9⟩:=zlq hv0.caps.qB;clear hv0;go_wp2_with fail;obtain ⟨_,_,hke,hckA,hmkA,helK⟩:=zc9 hck;injection hke with hk1 _ hk3;subst hk1 hk3;have HKS:=hX helK;clear helK hckA;go_loopw [75] (fun i wr=>∃k:Nat,k≤ks.length∧i = .int .i64 k∧Hid (IW (pc++(zbj zan ks).take k) wr)) (fun i _=>ks.length - (intOf i).toNat);case atStart=>exact ⟨0,by omega,rfl,hX (by rw[List.take_zero,List.append_nil];exact HVE.out)⟩
  case round=>
   clear c0 c1 c2 c3 c4 c5 c6 c7 c8 c9 HVE;obtain ⟨k,hk,rfl,HQ⟩:=hrel;have HQ':=hX (HIW.out ▸ HQ.out);by_cases hlt:k<ks.length
   ·have hlt2:(k:Int)<(ks.length:Int):=by omega
    obtain ⟨ad,us,hKe,hba,au,lu,cu⟩:=HKS.out k hlt;subst hKe;replace cu:=cu.keep (w':=wr) (fun p hp=>HQ'.out.wr.below.cell (by rw[hp,zab];exact hba));have HD:=hX (HA.out.down ks[k] (List.getElem_mem _));have hocc:=HA.out.occ ks[k] (List.getElem_mem _);have HX:=hX (zog hlt);have HAL:=hX (zy5 (l0:=LL) (pc:=pc) hlt HM.out.1);have hks:=HOK.out.2.2;generalize hq:ks[k]=q at *;obtain ⟨kd',oc',f',t',u',lo',hi',b',op',ks'⟩:=q;obtain ⟨vl,vh,vk,rfl,hvl,hvh,hkk⟩:=zal au;obtain ⟨B1,d1,rfl,_⟩:=zau hvl;obtain ⟨B2,d2,rfl,_⟩:=zau hvh;obtain ⟨B3,d3,rfl⟩:=zms hkk;obtain ⟨a0,a1,a2,a3,a4,a5,a6,a7,a8,a9⟩:=ten cu;have HKID:=hX (yd3 HQ'.out au hocc HD.out (by have:=HPL.out;simp only[List.length_append,List.length_take];omega) HAL.out);clear hq au hvl hvh hkk cu lu hocc HD HAL HQ HQ';go_wp2_with fail;refine HKID.out.mono ?_;rintro e w2 ⟨rfl,hv⟩;have HV:Hid (IW (pc++(zbj zan ks).take (k+1)) w2):=hX (by rw[HX.out,←List.append_assoc,←HIW.out];exact hv);clear hv a0 a1 a2 a3 a4 a5 a6 a7 a8 a9 HKID;go_wp2_with fail;go_roundw;case rel=>exact ⟨k+1,by omega,by go_num,HV⟩
    case measure=>simp[intOf];omega
   ·obtain rfl:k=ks.length:=by omega
    have hall:pc++(zbj zan ks).take ks.length=pc++zbj zan ks:=by rw[List.take_of_length_le (by rw[zjp];simp)]
    rw[hall] at HQ';have HBZ:=hX (zbz B b _ 41 _ HQ'.out.buf (yd4 HM.out.1 rfl));have cT:=HQ'.out.caps.tB.cell 0;clear hall;go_wp2_with fail;refine HBZ.out.mono ?_;rintro e W9 ⟨rfl,hb,hw⟩;have HB9:=hX hb;have HW9:=hX (HQ'.out.wr.trans hw);clear hb hw cT;go_wp2_with fail;go_end0;exact ⟨rfl,by rw[←HFIN.out];exact HB9.out,HW9.out⟩
end
end Go.Proofs.YtplkbdncgkgppaaGreatDoor.Qry
end
