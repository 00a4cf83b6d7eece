/- Lemmas that the last text leans on. -/
import Derived.Test.YtplkbdncgkgppaaGreatDoorTake
import Derived.Test.YtplkbdncgkgppaaGreatDoorPack32
import Derived.Test.YtplkbdncgkgppaaGreatDoorPack26
import Derived.WalkMore
set_option linter.all false
namespace Go.Proofs.YtplkbdncgkgppaaGreatDoor.Qry
open Go.RowKit Words Tree QryP Kit Owned Sch RewP Ana
theorem zxa (k:QT) (h:Ok k):∀x∈kids k,Ok x:=by
 cases h with
 | mk _ _ _ _ _ _ _ _ _ _ hk=>exact hk
theorem yep (k:QT) (h:Ok k):(kids k).length*152≤140737488351232:=by
 cases h with
 | mk _ _ _ _ _ _ _ _ _ hks _=>exact hks
theorem zo3 {n:Nat}:∀{l m:List QT},zbo n l=some m→∃c,m.length+1=l.length+c∧n - 1+c≤32
 | [],_,h=>by rw[zbo] at h;cases h
 | k::l,m,h=>by
  rw[zbo] at h;split at h
  ·rename_i ho
   injection h with h;subst h;unfold opens at ho;simp only[Bool.and_eq_true,decide_eq_true_eq] at ho;exact ⟨(kids k).length,by simp;omega,ho.1.2⟩
  ·cases ho:zbo n l with
   | none=>rw[ho] at h;cases h
   | some x=>
    rw[ho] at h;injection h with h;subst h;obtain ⟨c,h1,h2⟩:=zo3 ho;exact ⟨c,by simp;omega,h2⟩
theorem zo4 {l:List QT} (h:l.length≤100000):((zbo l.length l).getD l).length≤100000:=by
 cases ho:zbo l.length l with
 | none=>exact h
 | some m=>
  obtain ⟨c,h1,h2⟩:=zo3 ho;show m.length≤100000;omega
theorem zqz (T:Array Value) (n:Nat) (h:T.size=n):T=(Array.range n).map (fun i=>T.getD i undef):=by
 subst h;apply Array.ext
 ·simp
 ·intro i h1 h2;simp[Array.getD,h1]
theorem zkw (T:Array Value) (n:Nat) (h:T.size=n):({ tmps:=T,defers:=[] }:Act)={ tmps:=(Array.range n).map (fun i=>T.getD i undef),defers:=[] }:=congrArg (fun T=>({ tmps:=T,defers:=[] }:Act)) (zqz T n h)
theorem zsh {q:QT} (o:Int) (h:Ok q) (ho:I64 o):Ok (RewP.withO o q):=by
 cases h with
 | mk hkd hoc hf ht hu hlo hhi hb hop hks hk=>exact .mk hkd ho hf ht hu hlo hhi hb hop hks hk
theorem zxb {l:List QT} (h:∀q∈l,Ok q):∀q∈zdw l,Ok q:=by
 have hm:∀q∈l.map zd0,Ok q:=fun q hq=>by
  obtain ⟨x,hx,rfl⟩:=List.mem_map.1 hq;unfold zd0;split
  ·exact zsh 4 (h x hx) ⟨by decide,by decide⟩
  ·exact h x hx
 intro q hq;unfold zdw at hq;split at hq
 ·exact hm q (List.mem_filter.1 hq).1
 ·exact hm q hq
theorem zo5 (l:List QT):(zdw l).length≤l.length:=by
 unfold zdw;split
 ·exact Nat.le_trans (List.length_filter_le _ _) (by simp)
 ·simp
theorem zhu:∀(l out:List QT),(zb7 out l).length≤out.length+l.length
 | [],out=>by rw[zb7];simp
 | k::l,out=>by
  rw[zb7];split
  ·have:=zhu l out;simp;omega
  ·have:=zhu l (out++[k]);simp at this ⊢;omega
theorem zsi {l m:List QT} (h:zjk l=some m):m.length≤l.length:=by
 unfold zjk at h;split at h
 ·injection h with h;subst h;exact List.length_eraseP_le
 ·cases h
def zzy (k:QT):Bool:=(zbu k && decide (kd k=2)) || (decide (oc k=3) && decide (kd k=1))
theorem zzz {ks:List QT} {i:Nat} {r:Bool} (hi:i<ks.length) (h:(ks.drop i).any zzy=r):(zzy ks[i]=true→r=true)∧(zzy ks[i]=false→(ks.drop (i+1)).any zzy=r):=by
 rw[List.drop_eq_getElem_cons hi,List.any_cons] at h;exact ⟨fun hb=>by rw[←h,hb];rfl,fun hb=>by rw[←h,hb];rfl⟩
theorem zeb.one {w:World} {B:Nat} {v:Value} {k o b op:Int} {f t u:ByteArray} {lo hi:List Int} {kk:List QT} {bs:List Nat} (h:zeb w B v [.mk k o f t u lo hi b op kk] bs) :
 ∃(g c:Nat) (Y5 Y6 Y9:Option Addr) (y5 y6 y9:Nat),v = .slice (some ⟨g,0,none⟩) 1 c∧(∀j u',[Value.int .i64 k,.int .i64 o,.string f,.string t,.string u,.slice Y5 lo.length y5,.slice Y6 hi.length y6,.int .i64 b,.int .i64 op,.slice Y9 kk.length y9][j]?=some u'→w.cell? ⟨g,j,none⟩=some u')∧
  ∃bx,OQ w B (.mk k o f t u lo hi b op kk) [Value.int .i64 k,.int .i64 o,.string f,.string t,.string u,.slice Y5 lo.length y5,.slice Y6 hi.length y6,.int .i64 b,.int .i64 op,.slice Y9 kk.length y9] bx∧bx.Sublist bs:=by
 obtain ⟨xs,bx,ho,hl,rfl⟩:=h;obtain ⟨g,cap,rfl,hgB,hgl⟩:=ho.form (by simp);have hq:=OQL.one_ hl;obtain ⟨vl,vh,vk,bkk,rfl,h1,h2,h3,rfl⟩:=hq.parts;obtain ⟨Y5,y5,rfl⟩:=zav h1;obtain ⟨Y6,y6,rfl⟩:=zav h2;obtain ⟨Y9,y9,rfl⟩:=h3.form
 exact ⟨g,cap,Y5,Y6,Y9,y5,y6,y9,rfl,fun j u' hj=>by
  have:=ho.cells (g:=g) rfl j u' hj
  rwa [zc5] at this,_,hq,List.sublist_append_right _ _⟩
theorem zm6 {k0 k1 k7 k8:Int} {k2 k3 k4:ByteArray} {k5 k6:List Int} {k9:List QT} {s:Bool} (q:QT) (h:k1≠4∨s=false):zup s q [.mk k0 k1 k2 k3 k4 k5 k6 k7 k8 k9] = .mk k0 k1 k2 k3 k4 k5 k6 k7 k8 k9:=by
 unfold zup;rw[if_pos ⟨rfl,fun k hk=>by rw[List.mem_singleton.1 hk];exact h⟩];rfl
theorem zz0 {k0 k7 k8:Int} {k2 k3 k4:ByteArray} {k5 k6:List Int} {k9:List QT} (q:QT):zup true q [.mk k0 4 k2 k3 k4 k5 k6 k7 k8 k9]=withKids [.mk k0 4 k2 k3 k4 k5 k6 k7 k8 k9] q:=by
 unfold zup;rw[if_neg];rintro ⟨_,h⟩;rcases h _ (List.mem_singleton.2 rfl) with h | h
 ·exact h rfl
 ·cases h
theorem zxc {s:Bool} {l:List QT} (q:QT) (h:l.length≠1):zup s q l=withKids l q:=by
 unfold zup;rw[if_neg];exact fun hx=>h hx.1
def ydf (B:Nat) (q:QT) (bs:List Nat) (w:World) (e:Ending) (w':World):Prop:=∃us' bs',e = .returned (.agg us'.toArray)∧OQ w' B q us' bs'∧OutR w bs w' bs'
section
variable {B gb:Nat} {s:Bool} {k o b op:Int} {f t u:ByteArray} {lo hi:List Int} {us:List Value} {bs:List Nat}
set_option maxRecDepth 100000 in
set_option maxHeartbeats 16000000 in
theorem zq0 (ks:List QT) (w:World) (h:Bst w B gb s (.mk k o f t u lo hi b op ks) us bs) (hB:B≤w.heap.size) (hok:∀q∈ks,Ok q) (hkl:ks.length≤100000) :
 Calls Tryz.prog 68 #[.pointer (some ⟨gb,0,none⟩)] w (ydf B (zkj s (.mk k o f t u lo hi b op ks)) (gb::bs) w):=by
 obtain ⟨A1,A2,A3,c1,c2,c3,bk,hus,hblk,hrq,hnk,hsub,hgk,hge,hcont⟩:=h.parts;obtain ⟨_,_,he,hcA,hmA,hel⟩:=zc9 hrq.atw;injection he with e1 _ e3;subst e1 e3;have EL:=hX hel
 obtain ⟨RR,hRR⟩:∃RR,zkj s (.mk k o f t u lo hi b op ks)=RR:=⟨_,rfl⟩
 have HRR:Hid (zkj s (.mk k o f t u lo hi b op ks)=RR):=hX hRR;rw[hRR];clear hRR;have hA0:Below w.heap.size w (w.alloc (.cells #[.int .i64 0,.int .i64 0,.string ⟨#[]⟩,.string ⟨#[]⟩,.string ⟨#[]⟩,.slice none 0 0,.slice none 0 0,.int .i64 0,.int .i64 0,.slice none 0 0] 28)):=(Below.refl _ w).alloc (Nat.le_refl _) _;have HA0:=hX hA0;have HS0:=hX (h.below hA0);have HO0:=hX (OutR.refl h.nd (w.alloc (.cells #[.int .i64 0,.int .i64 0,.string ⟨#[]⟩,.string ⟨#[]⟩,.string ⟨#[]⟩,.slice none 0 0,.slice none 0 0,.int .i64 0,.int .i64 0,.slice none 0 0] 28)));have HZ0:=hX (Blk.new w 28 #[.int .i64 0,.int .i64 0,.string ⟨#[]⟩,.string ⟨#[]⟩,.string ⟨#[]⟩,.slice none 0 0,.slice none 0 0,.int .i64 0,.int .i64 0,.slice none 0 0])
 have HGR:Hid (∀x∈gb::bs,x<w.heap.size):=hX (fun x hx=>by
  rcases List.mem_cons.1 hx with rfl | hx
  ·exact h.blk.lt
  ·exact (h.oq.mem x hx).2)
 have HBG:=hX (And.intro hB (And.intro h.ge h.blk.lt));have HOK:=hX hok
 obtain ⟨r1,hr1⟩:∃r1,ks.any zzy=r1:=⟨_,rfl⟩
 have H1:Hid ((ks.drop 0).any zzy=r1):=hX (by rw[List.drop_zero,hr1]);have HR1:=hX hr1;have q9:(w.alloc (.cells #[.int .i64 0,.int .i64 0,.string ⟨#[]⟩,.string ⟨#[]⟩,.string ⟨#[]⟩,.slice none 0 0,.slice none 0 0,.int .i64 0,.int .i64 0,.slice none 0 0] 28)).cell? ⟨gb,9,none⟩=some (.slice A3 ks.length c3):=(hblk.alloc _).cell 9;have hmf:∀(fn:Fn) (first cap:Array Value) (w:World),(Instr.makeFunc fn first cap).run Tryz.prog w = .ok (.func fn first cap) w:=fun _ _ _ _=>rfl;clear h hcont hrq hnk hblk hok hsub hel hA0 hr1 hus;go_enter Tryz.func68,Tryz.ntmps68;go_wp2_with fail;generalize (w.alloc (.cells #[.int .i64 0,.int .i64 0,.string ⟨#[]⟩,.string ⟨#[]⟩,.string ⟨#[]⟩,.slice none 0 0,.slice none 0 0,.int .i64 0,.int .i64 0,.slice none 0 0] 28))=W0 at *;have hgrW0:w.heap.size<W0.heap.size:=HZ0.out.lt;have HGE:Hid (∀(V V':World) {c:List Nat},OutR W0 (gb::bs) V c→V.grownBy V' (some w.heap.size)→But (fun g=>g∈gb::bs) w V'):=hX (fun V V' c hO hg=>((But.of_below HA0.out).trans hO.but).more (But.grown (N:=fun g=>g=w.heap.size) hg (fun r e=>by injection e with e;exact e.symm)) (fun g hg=>.inr (by rw[hg];exact Nat.le_refl _)));have HNG:Hid (∀(V:World) {c:List Nat},OutR W0 (gb::bs) V c→w.heap.size∉c):=hX (fun V c hO hm=>(hO.sub _ hm).elim (fun h=>by have:=HGR.out _ h;omega) (fun h=>by omega))
 have HFIN:Hid (∀(V V':World) (c bx:List Nat) (q:QT) (vs:List Value),OutR W0 (gb::bs) V c→OQ V B q vs bx→bx.Nodup→(∀g∈bx,g∈c)→V.grownBy V' (some w.heap.size)→RR=q→ydf B RR (gb::bs) w (.returned (.agg vs.toArray)) V'):=hX (fun V V' c bx q vs hO hq hn hs hg he=>by
  subst he
  refine ⟨vs,bx,rfl,hq.keep fun g hgm=>hg.block g (hq.mem g hgm).2 (fun e=>HNG.out V hO (by injection e with e;exact e ▸ hs g hgm)),hn,fun g hgm=>(hO.sub g (hs g hgm)).imp id (fun h=>by have:=HA0.out.size;omega),HGE.out V V' hO hg⟩)
 obtain ⟨l1,hl1⟩:∃l1,(ks.filter fun k=>decide (kd k≠2))=l1:=⟨_,rfl⟩
 obtain ⟨l2,hl2⟩:∃l2,(if s then l1 else zdw l1)=l2:=⟨_,rfl⟩
 obtain ⟨R,hR⟩:∃R,zc4 (zak l2+1) l2=R:=⟨_,rfl⟩
 have HX1:Hid (r1=true→RR=zdz):=hX (fun h=>by
  rw[←HRR.out,zkj,if_pos]
  exact HR1.out.trans h)
 have HX2:Hid (r1=false→RR=if zzk R [1,4,2] then zup s (.mk k o f t u lo hi b op ks) R else zdz):=hX (fun h=>by
  rw[←HRR.out,zkj];refine (if_neg (show ¬(ks.any zzy=true) by rw[HR1.out,h];decide)).trans ?_;show (if zzk (zc4 (zak (if s=true then ks.filter _ else zdw (ks.filter _))+1) (if s=true then ks.filter _ else zdw (ks.filter _))) [1,4,2] then zup s _ (zc4 (zak (if s=true then ks.filter _ else zdw (ks.filter _))+1) (if s=true then ks.filter _ else zdw (ks.filter _))) else zdz)=_
  rw[hl1,hl2,hR])
 have HL1:=hX hl1;have HL2:=hX hl2;have HLR:=hX hR;clear hl1 hl2 hR HR1 HRR;refine ScopeG.zm5 0 (fun n a' w'=>∃sl:Nat→Value,a'=({ tmps:=(Array.range 105).map sl,defers:=[] }:Act)∧sl 0 = .pointer (some ⟨gb,0,none⟩)∧sl 2 = .pointer (some ⟨w.heap.size,0,none⟩)∧∃(l:List QT) (us':List Value) (bs':List Nat),Hid (zak l=n∧zc4 (zak l+1) l=R)∧Hid (∀q∈l,Ok q)∧l.length≤100000∧Hid (Bst w' B gb s (.mk k o f t u lo hi b op l) us' bs')∧Hid (OutR W0 (gb::bs) w' (gb::bs'))∧Hid (Blk w' w.heap.size 28 #[.int .i64 0,.int .i64 0,.string ⟨#[]⟩,.string ⟨#[]⟩,.string ⟨#[]⟩,.slice none 0 0,.slice none 0 0,.int .i64 0,.int .i64 0,.slice none 0 0])∧Hid (r1=false)) (by rfl) ?pass ?first
 case first=>
  intro hpass;have HP:=hX hpass;clear hpass;go_wp2_with fail;go_loopg [16] ks.length (fun m vi wr=>∃i:Nat,vi = .int .i64 i∧m=ks.length - i∧i≤ks.length∧Hid ((ks.drop i).any zzy=r1)∧Hid (Below W0.heap.size W0 wr))
  case atStart=>exact ⟨0,rfl,by omega,by omega,H1,hX (Below.refl _ _)⟩
  case round=>
   clear H1 q9;obtain ⟨i,rfl,rfl,hin,HD,HW⟩:=hrel;have HZ:=hX (HZ0.out.below HW.out HZ0.out.lt);have HO:=hX (HO0.out.below HW.out);have HS:=hX (HS0.out.below HW.out);by_cases hlt:i<ks.length
   ·obtain ⟨ad,kus,rfl,hba,au,lu,cu⟩:=EL.out i hlt;replace cu:=cu.keep (w':=wr) (fun p hp=>(HA0.out.trans (HW.out.mono HA0.out.size)).cell (by rw[hp,zab];exact hba));have HST:=hX (zzz hlt HD.out);generalize hq:ks[i]=q at *;obtain ⟨k0,k1,k2,k3,k4,k5,k6,k7,k8,k9⟩:=q;obtain ⟨y5',y6',y9',rfl,g5,g6,g9⟩:=zal au;obtain ⟨Y5,y5,rfl⟩:=zar g5;obtain ⟨Y6,y6,rfl⟩:=zar g6;obtain ⟨Y9,y9,rfl⟩:=zar g9;obtain ⟨a0,a1,a2,a3,a4,a5,a6,a7,a8,a9⟩:=ten cu;have h1:(0:Int)≤(i:Int):=by omega
    have h2:(i:Int)<(ks.length:Int):=by omega
    have HA:=hX ((Below.refl wr.heap.size wr).alloc (Nat.le_refl _) (.cells #[.int .i64 k0,.int .i64 k1,.string k2,.string k3,.string k4,.slice Y5 k5.length y5,.slice Y6 k6.length y6,.int .i64 k7,.int .i64 k8,.slice Y9 k9.length y9] 28));have f0:(wr.alloc (.cells #[.int .i64 k0,.int .i64 k1,.string k2,.string k3,.string k4,.slice Y5 k5.length y5,.slice Y6 k6.length y6,.int .i64 k7,.int .i64 k8,.slice Y9 k9.length y9] 28)).cell? ⟨wr.heap.size,0,none⟩=some (.int .i64 k0):=(Blk.new wr 28 #[.int .i64 k0,.int .i64 k1,.string k2,.string k3,.string k4,.slice Y5 k5.length y5,.slice Y6 k6.length y6,.int .i64 k7,.int .i64 k8,.slice Y9 k9.length y9]).cell 0;have f1:(wr.alloc (.cells #[.int .i64 k0,.int .i64 k1,.string k2,.string k3,.string k4,.slice Y5 k5.length y5,.slice Y6 k6.length y6,.int .i64 k7,.int .i64 k8,.slice Y9 k9.length y9] 28)).cell? ⟨wr.heap.size,1,none⟩=some (.int .i64 k1):=(Blk.new wr 28 #[.int .i64 k0,.int .i64 k1,.string k2,.string k3,.string k4,.slice Y5 k5.length y5,.slice Y6 k6.length y6,.int .i64 k7,.int .i64 k8,.slice Y9 k9.length y9]).cell 1
    obtain ⟨T,hT⟩:∃T,zzy (.mk k0 k1 k2 k3 k4 k5 k6 k7 k8 k9)=T:=⟨_,rfl⟩
    rw[hT] at HST;have HT:Hid (((decide (k1=1) || decide (k1=4)) && decide (k0=2) || (decide (k1=3) && decide (k0=1)))=T):=hX hT;clear hq au g5 g6 g9 cu lu hT;go_upto_region 4 with fail;clear a0 a1 a2 a3 a4 a5 a6 a7 a8 a9;generalize (wr.alloc (.cells #[.int .i64 k0,.int .i64 k1,.string k2,.string k3,.string k4,.slice Y5 k5.length y5,.slice Y6 k6.length y6,.int .i64 k7,.int .i64 k8,.slice Y9 k9.length y9] 28))=W1 at *
    obtain ⟨T1,hT1⟩:∃T1,(decide (k1=1) || decide (k1=4))=T1:=⟨_,rfl⟩
    have HT1:=hX hT1;rw[hT1] at HT;clear hT1;go_cut [5] (fun c wx=>c = .bool T1∧W1=wx)
    case first=>
     by_cases hk1:k1=1
     ·subst hk1;obtain rfl:T1=true:=by rw[←HT1.out];rfl
      go_wp2_with fail;go_meet;exact ⟨rfl,rfl⟩
     ·have d1:(k1 == 1)=false:=by rw[beq_eq_false_iff_ne];exact hk1
      by_cases hk4:k1=4
      ·subst hk4;obtain rfl:T1=true:=by rw[←HT1.out];rfl
       go_wp2_with fail;go_meet;exact ⟨rfl,rfl⟩
      ·have d4:(k1 == 4)=false:=by rw[beq_eq_false_iff_ne];exact hk4
       obtain rfl:T1=false:=by rw[←HT1.out];simp[hk1,hk4]
       go_wp2_with fail;go_meet;exact ⟨rfl,rfl⟩
    case rest=>
    obtain ⟨rfl,rfl⟩:=hcut;go_upto_region 5 with fail;go_cut [43] (fun c wx=>c = .bool T∧W1=wx)
    case first=>
     cases T1 with
     | true=>
      by_cases hd:k0=2
      ·subst hd;obtain rfl:T=true:=by rw[←HT.out];rfl
       go_wp2_with fail;go_meet;exact ⟨rfl,rfl⟩
      ·have d2:(k0 == 2)=false:=by rw[beq_eq_false_iff_ne];exact hd
       have hk3:¬k1=3:=fun e=>by have h:=HT1.out;rw[e] at h;cases h
       have d3:(k1 == 3)=false:=by rw[beq_eq_false_iff_ne];exact hk3
       obtain rfl:T=false:=by rw[←HT.out];simp[hd,hk3]
       go_wp2_with fail;go_meet;exact ⟨rfl,rfl⟩
     | false=>
      by_cases hk3:k1=3
      ·subst hk3;by_cases hd:k0=1
       ·subst hd;obtain rfl:T=true:=by rw[←HT.out];rfl
        go_wp2_with fail;go_meet;exact ⟨rfl,rfl⟩
       ·have d2:(k0 == 1)=false:=by rw[beq_eq_false_iff_ne];exact hd
        obtain rfl:T=false:=by rw[←HT.out];simp[hd]
        go_wp2_with fail;go_meet;exact ⟨rfl,rfl⟩
      ·have d3:(k1 == 3)=false:=by rw[beq_eq_false_iff_ne];exact hk3
       obtain rfl:T=false:=by rw[←HT.out];simp[hk3]
       go_wp2_with fail;go_meet;exact ⟨rfl,rfl⟩
    case rest=>
    obtain ⟨rfl,rfl⟩:=hcut;have HW2:=hX (HW.out.trans (HA.out.mono HW.out.size));clear f0 f1
    cases T with
    | false=>
     have HD2:=hX (HST.out.2 rfl);go_wp2_with fail;go_roundg (ks.length - (i+1))
     case measure=>omega
     case rel=>exact ⟨i+1,by go_num,rfl,by omega,HD2,HW2⟩
    | true=>
     have HRN:=hX (HX1.out (HST.out.1 rfl));have HZ2:=hX (HZ.out.below HA.out HZ.out.lt);have HO2:=hX (HO.out.below HA.out);go_wp2_with fail;refine (zht W1).mono ?_;rintro e w9 ⟨rfl,hb⟩;have HZ9:=hX (HZ2.out.below hb HZ2.out.lt);have HO9:=hX (HO2.out.below hb);obtain ⟨p0,p1,p2,p3,p4,p5,p6,p7,p8,p9⟩:=zas HZ9.out;obtain ⟨z0,z1,z2,z3,z4,z5,z6,z7,z8,z9⟩:=z10 HZ9.out;have HE:=hX (zag HZ9.out (Below.refl w.heap.size w9) (Nat.le_refl _) (.int .i64 2) (.int .i64 0) (.string ⟨#[]⟩) (.string ⟨#[]⟩) (.string ⟨#[]⟩) (.slice none 0 0) (.slice none 0 0) (.int .i64 0) (.int .i64 0) (.slice none 0 0));clear hb;go_wp2_with fail;simp only[Exit.jump];refine ⟨rfl,_,results_cell_row rfl _ _ w.heap.size 28 _ (0,0) _ rfl HE.out.1 Tryz.underlying28 rfl (by kernel_rfl),?_⟩;rw[HRN.out];refine ⟨zzu,[],rfl,zkv _ _,⟨List.nodup_nil,fun x hx=>(by cases hx),?_⟩⟩;exact (HGE.out _ _ HO9.out HE.out.2.2)
   ·obtain rfl:i=ks.length:=by omega
    have HRF:Hid (r1=false):=hX (by have:=HD.out;rw[List.drop_length] at this;exact this.symm);have HDR:=hX (zsg (fun k=>decide (kd k=2)) 110 #[] wr HS.out (fun _ _=>rfl) (fun k _ us W hu=>ztt hu));have hf:(ks.filter fun k=>!decide (kd k=2))=l1:=by rw[←HL1.out];congr 1;funext x;simp
    rw[hf] at HDR;have HOK1:Hid (∀q∈l1,Ok q):=hX (fun q hq=>HOK.out q (List.mem_filter.1 (by rw[←HL1.out] at hq;exact hq)).1);have hll1:l1.length≤100000:=by rw[←HL1.out];exact Nat.le_trans (List.length_filter_le _ _) hkl
    clear hf HD EL;go_wp2_with fail;refine HDR.out.mono ?_;rintro e w2 ⟨us1,bs1,rfl,hs1,ho1⟩;have HS1:=hX hs1;have HO1:=hX (HO.out.trans ho1);have HZ1:=hX (ho1.but.blk HZ.out (HNG.out _ HO.out));obtain ⟨_,_,_,_,_,_,_,-,hblk1,-⟩:=hs1.parts;have q10:w2.cell? ⟨gb,10,none⟩=some (.bool s):=hblk1.cell 10;clear hs1 ho1 HDR hblk1 HS HO HZ
    cases s with
    | true=>
     have HL2t:Hid (l1=l2):=hX HL2.out;go_wp2_with fail;go_step3
     go_step;apply_assumption
     refine HP.out (zak l1) _ _ ?_;refine ⟨_,zkw _ 105 ?fs,?f0,?f2,l1,us1,bs1,hX ⟨rfl,by rw[HL2t.out];exact HLR.out⟩,HOK1,hll1,HS1,HO1,HZ1,HRF⟩;all_goals rfl
    | false=>
     have HL2f:Hid (zdw l1=l2):=hX HL2.out;have HBA:=hX (zzv l1 w2 HS1.out);rw[HL2f.out] at HBA;have HOK2:Hid (∀q∈l2,Ok q):=hX (by rw[←HL2f.out];exact zxb HOK1.out);have hll2:l2.length≤100000:=by rw[←HL2f.out];exact Nat.le_trans (zo5 l1) hll1
     go_wp2_with fail;refine HBA.out.mono ?_;rintro e w3 ⟨us2,bs2,rfl,hs2,ho2⟩;have HS2:=hX hs2;have HO2:=hX (HO1.out.trans ho2);have HZ2:=hX (ho2.but.blk HZ1.out (HNG.out _ HO1.out));clear hs2 ho2 HBA q10;go_wp2_with fail;go_step3
     go_step;apply_assumption
     refine HP.out (zak l2) _ _ ?_;refine ⟨_,zkw _ 105 ?gs,?g0,?g2,l2,us2,bs2,hX ⟨rfl,HLR.out⟩,HOK2,hll2,HS2,HO2,HZ2,HRF⟩;all_goals rfl
 case pass=>
  rintro n a' wl ⟨sl,rfl,hu0,hu2,l,us1,bs1,HN,HOL,hll,HS,HO,HZ,HRF⟩;clear HS0 HO0 HZ0 H1 EL q9 HOK;rw[show (Array.range 105).map sl=#[sl 0,sl 1,sl 2,sl 3,sl 4,sl 5,sl 6,sl 7,sl 8,sl 9,sl 10,sl 11,sl 12,sl 13,sl 14,sl 15,sl 16,sl 17,sl 18,sl 19,sl 20,sl 21,sl 22,sl 23,sl 24,sl 25,sl 26,sl 27,sl 28,sl 29,sl 30,sl 31,sl 32,sl 33,sl 34,sl 35,sl 36,sl 37,sl 38,sl 39,sl 40,sl 41,sl 42,sl 43,sl 44,sl 45,sl 46,sl 47,sl 48,sl 49,sl 50,sl 51,sl 52,sl 53,sl 54,sl 55,sl 56,sl 57,sl 58,sl 59,sl 60,sl 61,sl 62,sl 63,sl 64,sl 65,sl 66,sl 67,sl 68,sl 69,sl 70,sl 71,sl 72,sl 73,sl 74,sl 75,sl 76,sl 77,sl 78,sl 79,sl 80,sl 81,sl 82,sl 83,sl 84,sl 85,sl 86,sl 87,sl 88,sl 89,sl 90,sl 91,sl 92,sl 93,sl 94,sl 95,sl 96,sl 97,sl 98,sl 99,sl 100,sl 101,sl 102,sl 103,sl 104] from (by kernel_rfl),hu0,hu2];clear hu0 hu2;have HA:=hX ((Below.refl wl.heap.size wl).alloc (Nat.le_refl _) (.cells #[.func (.func 112) #[.pointer (some ⟨gb,0,none⟩)] #[],.func (.func 113) #[.pointer (some ⟨gb,0,none⟩)] #[],.func (.func 114) #[.pointer (some ⟨gb,0,none⟩)] #[]] 30));have HSA:=hX (HS.out.below HA.out);have HOA:=hX (HO.out.below HA.out);have HZA:=hX (HZ.out.below HA.out HZ.out.lt);have HFA:=hX (Blk.new wl 30 #[.func (.func 112) #[.pointer (some ⟨gb,0,none⟩)] #[],.func (.func 113) #[.pointer (some ⟨gb,0,none⟩)] #[],.func (.func 114) #[.pointer (some ⟨gb,0,none⟩)] #[]])
  have HGF:Hid (∀x∈gb::bs1,x≠wl.heap.size):=hX (fun x hx e=>by
   rcases List.mem_cons.1 hx with rfl | hx
   ·have:=HS.out.blk.lt;omega
   ·have:=(HS.out.oq.mem x hx).2;omega)
  have hgrl:w.heap.size≠wl.heap.size:=by have:=HZ.out.lt;omega
  have HBW:=hX (And.intro (Nat.le_trans HA.out.size (Nat.le_refl _)) HO.out.but.size);clear HS HO HZ;go_upto_region 13 with fail;clear HA HBW;generalize wl.alloc (.cells #[.func (.func 112) #[.pointer (some ⟨gb,0,none⟩)] #[],.func (.func 113) #[.pointer (some ⟨gb,0,none⟩)] #[],.func (.func 114) #[.pointer (some ⟨gb,0,none⟩)] #[]] 30)=WL at *;generalize wl.heap.size=ga at *;have hgs:ga<WL.heap.size:=HFA.out.lt
  obtain ⟨la,hla⟩:∃la,(zbo l.length l).getD l=la:=⟨_,rfl⟩
  obtain ⟨lb,hlb⟩:∃lb,zb7 [] la=lb:=⟨_,rfl⟩
  obtain ⟨lc,hlc⟩:∃lc,(zjk lb).getD lb=lc:=⟨_,rfl⟩
  obtain ⟨ca,hca⟩:∃ca,(zbo l.length l).isSome=ca:=⟨_,rfl⟩
  obtain ⟨cb,hcb⟩:∃cb,decide (lb.length<la.length)=cb:=⟨_,rfl⟩
  obtain ⟨cc,hcc⟩:∃cc,(zjk lb).isSome=cc:=⟨_,rfl⟩
  have HRD:Hid (zc3 l=(lc,ca || cb || cc)):=hX (by unfold zc3;dsimp only;rw[hla,hlb,hlc,hca,hcb,hcc]);have hfa:la.length≤100000:=by rw[←hla];exact zo4 hll
  have hfb:lb.length≤100000:=by have:=zhu la [];rw[hlb] at this;simp at this;omega
  have hfc:lc.length≤100000:=by
   rw[←hlc]
   cases ho:zjk lb with
   | none=>exact hfb
   | some x=>exact Nat.le_trans (zsi ho) hfb
  have HOa:Hid (∀q∈la,Ok q):=hX (by
   rw[←hla]
   cases ho:zbo l.length l with
   | none=>exact HOL.out
   | some x=>exact zkm (fun k _ h x hx _=>zxa k h x hx) _ HOL.out ho)
  have HOb:Hid (∀q∈lb,Ok q):=hX (by rw[←hlb];exact zhq la [] (fun k hk=>by cases hk) HOa.out)
  have HOc:Hid (∀q∈lc,Ok q):=hX (by
   rw[←hlc]
   cases ho:zjk lb with
   | none=>exact HOb.out
   | some x=>exact zsd ho HOb.out)
  have HEQ:=hX (And.intro hla (And.intro hlb (And.intro hlc (And.intro hca (And.intro hcb hcc)))));clear hla hlb hlc hca hcb hcc;go_loopg [6,63] 3 (fun m vc vi wr=>∃(i:Nat) (c:Bool) (lk:List QT) (us3:List Value) (bs3:List Nat),vi = .int .i64 i∧vc = .bool c∧m=3 - i∧i≤3∧Hid ((i=0∧lk=l∧c=false)∨(i=1∧lk=la∧c=ca)∨(i=2∧lk=lb∧c=(ca || cb))∨(i=3∧lk=lc∧c=(ca || cb || cc)))∧Hid (Bst wr B gb s (.mk k o f t u lo hi b op lk) us3 bs3)∧Hid (OutR W0 (gb::bs) wr (gb::bs3))∧Hid (Blk wr w.heap.size 28 #[.int .i64 0,.int .i64 0,.string ⟨#[]⟩,.string ⟨#[]⟩,.string ⟨#[]⟩,.slice none 0 0,.slice none 0 0,.int .i64 0,.int .i64 0,.slice none 0 0])∧Hid (Blk wr ga 30 #[.func (.func 112) #[.pointer (some ⟨gb,0,none⟩)] #[],.func (.func 113) #[.pointer (some ⟨gb,0,none⟩)] #[],.func (.func 114) #[.pointer (some ⟨gb,0,none⟩)] #[]])∧Hid (∀x∈gb::bs3,x≠ga)∧B≤wr.heap.size)
  case atStart=>exact ⟨0,false,l,us1,bs1,rfl,rfl,by omega,by omega,hX (.inl ⟨rfl,rfl,rfl⟩),HSA,HOA,HZA,HFA,HGF,by have:=HBG.out;have:=HOA.out.but.size;have:=HA0.out.size;omega⟩
  case round=>
   clear HSA HOA HZA HFA HGF;obtain ⟨i,c,lk,us3,bs3,rfl,rfl,rfl,hi3,HC,HS,HO,HZ,HF,HGF,hB3⟩:=hrel;have hgal:ga<wr.heap.size:=HF.out.lt;by_cases h0:i=0
   ·subst h0;obtain ⟨-,rfl,rfl⟩:=HC.out.elim id (fun h=>h.elim (fun h=>absurd h.1 (by decide)) (fun h=>h.elim (fun h=>absurd h.1 (by decide)) (fun h=>absurd h.1 (by decide))));have q0:wr.cell? ⟨ga,0,none⟩=some (.func (.func 112) #[.pointer (some ⟨gb,0,none⟩)] #[]):=HF.out.cell 0;have HOP:=hX (zzw lk wr HS.out hB3 (fun q hq=>yep q (HOL.out q hq)) hll);rw[HEQ.out.1,HEQ.out.2.2.2.1] at HOP;go_wp2_with fail;refine HOP.out.mono ?_;rintro e w5 ⟨us5,bs5,rfl,hs5,ho5⟩;have HS5:=hX hs5;have HO5:=hX (HO.out.trans ho5);have HZ5:=hX (ho5.but.blk HZ.out (HNG.out _ HO.out));have HF5:=hX (ho5.but.blk HF.out (fun hm=>HGF.out _ hm rfl));have HG5:Hid (∀x∈gb::bs5,x≠ga):=hX (fun x hx e=>(ho5.sub x hx).elim (fun h=>HGF.out x h e) (fun h=>by omega));have hB5:B≤w5.heap.size:=Nat.le_trans hB3 ho5.but.size;clear hs5 ho5 HOP HS HO HZ HF HGF HC
    cases ca with
    | true=>
     go_wp2_with fail;go_roundg 2
     case measure=>omega
     case rel=>exact ⟨1,true,la,us5,bs5,rfl,rfl,rfl,by omega,hX (.inr (.inl ⟨rfl,rfl,rfl⟩)),HS5,HO5,HZ5,HF5,HG5,hB5⟩
    | false=>
     go_wp2_with fail;go_roundg 2
     case measure=>omega
     case rel=>exact ⟨1,false,la,us5,bs5,rfl,rfl,rfl,by omega,hX (.inr (.inl ⟨rfl,rfl,rfl⟩)),HS5,HO5,HZ5,HF5,HG5,hB5⟩
   by_cases h1:i=1
   ·subst h1;obtain ⟨-,rfl,rfl⟩:=HC.out.elim (fun h=>absurd h.1 (by decide)) (fun h=>h.elim id (fun h=>h.elim (fun h=>absurd h.1 (by decide)) (fun h=>absurd h.1 (by decide))));have q1:wr.cell? ⟨ga,1,none⟩=some (.func (.func 113) #[.pointer (some ⟨gb,0,none⟩)] #[]):=HF.out.cell 1;have HOP:=hX (zzx lk wr HS.out hB3 HOa.out hfa);rw[HEQ.out.2.1,HEQ.out.2.2.2.2.1] at HOP;go_wp2_with fail;refine HOP.out.mono ?_;rintro e w5 ⟨us5,bs5,rfl,hs5,ho5⟩;have HS5:=hX hs5;have HO5:=hX (HO.out.trans ho5);have HZ5:=hX (ho5.but.blk HZ.out (HNG.out _ HO.out));have HF5:=hX (ho5.but.blk HF.out (fun hm=>HGF.out _ hm rfl));have HG5:Hid (∀x∈gb::bs5,x≠ga):=hX (fun x hx e=>(ho5.sub x hx).elim (fun h=>HGF.out x h e) (fun h=>by omega));have hB5:B≤w5.heap.size:=Nat.le_trans hB3 ho5.but.size;clear hs5 ho5 HOP HS HO HZ HF HGF HC
    cases cb with
    | true=>
     go_wp2_with fail;go_roundg 1
     case measure=>omega
     case rel=>exact ⟨2,true,lb,us5,bs5,rfl,rfl,rfl,by omega,hX (.inr (.inr (.inl ⟨rfl,rfl,by simp⟩))),HS5,HO5,HZ5,HF5,HG5,hB5⟩
    | false=>
     go_wp2_with fail;go_roundg 1
     case measure=>omega
     case rel=>exact ⟨2,c,lb,us5,bs5,rfl,rfl,rfl,by omega,hX (.inr (.inr (.inl ⟨rfl,rfl,by simp⟩))),HS5,HO5,HZ5,HF5,HG5,hB5⟩
   by_cases h2:i=2
   ·subst h2;obtain ⟨-,rfl,rfl⟩:=HC.out.elim (fun h=>absurd h.1 (by decide)) (fun h=>h.elim (fun h=>absurd h.1 (by decide)) (fun h=>h.elim id (fun h=>absurd h.1 (by decide))));have q2:wr.cell? ⟨ga,2,none⟩=some (.func (.func 114) #[.pointer (some ⟨gb,0,none⟩)] #[]):=HF.out.cell 2;have HOP:=hX (ycv lk wr HS.out hB3 hfb);rw[HEQ.out.2.2.1,HEQ.out.2.2.2.2.2] at HOP;generalize (ca || cb)=c2 at *;go_wp2_with fail;refine HOP.out.mono ?_;rintro e w5 ⟨us5,bs5,rfl,hs5,ho5⟩;have HS5:=hX hs5;have HO5:=hX (HO.out.trans ho5);have HZ5:=hX (ho5.but.blk HZ.out (HNG.out _ HO.out));have HF5:=hX (ho5.but.blk HF.out (fun hm=>HGF.out _ hm rfl));have HG5:Hid (∀x∈gb::bs5,x≠ga):=hX (fun x hx e=>(ho5.sub x hx).elim (fun h=>HGF.out x h e) (fun h=>by omega));have hB5:B≤w5.heap.size:=Nat.le_trans hB3 ho5.but.size;clear hs5 ho5 HOP HS HO HZ HF HGF HC
    cases cc with
    | true=>
     go_wp2_with fail;go_roundg 0
     case measure=>omega
     case rel=>exact ⟨3,true,lc,us5,bs5,rfl,rfl,rfl,by omega,hX (.inr (.inr (.inr ⟨rfl,rfl,by simp⟩))),HS5,HO5,HZ5,HF5,HG5,hB5⟩
    | false=>
     go_wp2_with fail;go_roundg 0
     case measure=>omega
     case rel=>exact ⟨3,c2,lc,us5,bs5,rfl,rfl,rfl,by omega,hX (.inr (.inr (.inr ⟨rfl,rfl,by simp⟩))),HS5,HO5,HZ5,HF5,HG5,hB5⟩
   obtain rfl:i=3:=by omega
   obtain ⟨-,rfl,hc⟩:=HC.out.elim (fun h=>absurd h.1 (by decide)) (fun h=>h.elim (fun h=>absurd h.1 (by decide)) (fun h=>h.elim (fun h=>absurd h.1 (by decide)) id));rw[←hc] at HRD;clear hc HC HF HGF h0 h1 h2
   cases c with
   | true=>
    have HLT:Hid (zak lk<n):=hX (by have:=(zfp l).2 (by rw[HRD.out]);rw[HRD.out] at this;rw[←HN.out.1];exact this)
    have HRN:Hid (zak lk=zak lk∧zc4 (zak lk+1) lk=R):=hX ⟨rfl,by
     have e:zc4 (zak l+1) l=zc4 (zak l) lk:=by rw[zc4,if_pos (show (zc3 l).2=true by rw[HRD.out]),HRD.out]
     rw[←HN.out.2,e];have h:zak lk<zak l:=by have h:=(zfp l).2 (by rw[HRD.out]);rw[HRD.out] at h;exact h
     exact (zl2 _ _ lk (Nat.lt_succ_self _) (by omega)).symm⟩
    go_wp2_with fail;go_step3
    go_step;refine And.intro rfl ⟨zak lk,HLT.out,?_⟩;refine ⟨_,zkw _ 105 ?hs,?h0,?h2,lk,us3,bs3,hX ⟨rfl,HRN.out.2⟩,HOc,hfc,HS,HO,HZ,HRF⟩;all_goals rfl
   | false=>
    have HRN:Hid (lk=R):=hX (by rw[←HN.out.2,zc4,if_neg (show ¬(zc3 l).2=true by rw[HRD.out];exact Bool.false_ne_true),HRD.out]);clear HRD HEQ HOa HOb hfa hfb HN;have HAN:=hX ((Below.refl wr.heap.size wr).alloc (Nat.le_refl _) (.cells #[.int .i64 1,.int .i64 4,.int .i64 2] 3));have HSA:=hX (HS.out.below HAN.out);have HHA:=hX (zw6 [1,4,2] (some ⟨wr.heap.size,0,none⟩) 3 (wr.alloc (.cells #[.int .i64 1,.int .i64 4,.int .i64 2] 3)) HSA.out ⟨rfl,fun _=>⟨_,rfl,by simp,fun j v hj=>cells_new wr [.int .i64 1,.int .i64 4,.int .i64 2] _ j v hj⟩⟩ (by unfold maxLen;decide));have HZA:=hX (HZ.out.below HAN.out HZ.out.lt);have HOA:=hX (HO.out.below HAN.out)
    obtain ⟨hh,hhe⟩:∃hh,zzk lk [1,4,2]=hh:=⟨_,rfl⟩
    have HXX:=hX (HX2.out HRF.out);rw[←HRN.out,hhe] at HXX;rw[hhe] at HHA;clear HRN hhe HS HO HZ;go_wp2_with fail;refine HHA.out.mono ?_;rintro e w5 ⟨rfl,hb5⟩;have HS5:=hX (HSA.out.below hb5);have HO5:=hX (HOA.out.below hb5);have HZ5:=hX (HZA.out.below hb5 HZA.out.lt);clear HHA HSA HOA HZA HAN hb5
    cases hh with
    | false=>
     have HXN:Hid (RR=zdz):=hX (by have:=HXX.out;exact this);go_wp2_with fail;refine (zht w5).mono ?_;rintro e w9 ⟨rfl,hb⟩;have HZ9:=hX (HZ5.out.below hb HZ5.out.lt);have HO9:=hX (HO5.out.below hb);obtain ⟨p0,p1,p2,p3,p4,p5,p6,p7,p8,p9⟩:=zas HZ9.out;obtain ⟨z0,z1,z2,z3,z4,z5,z6,z7,z8,z9⟩:=z10 HZ9.out;have HE:=hX (zag HZ9.out (Below.refl w.heap.size w9) (Nat.le_refl _) (.int .i64 2) (.int .i64 0) (.string ⟨#[]⟩) (.string ⟨#[]⟩) (.string ⟨#[]⟩) (.slice none 0 0) (.slice none 0 0) (.int .i64 0) (.int .i64 0) (.slice none 0 0));clear hb;go_wp2_with fail;simp only[Exit.jump];refine ⟨rfl,_,results_cell_row rfl _ _ w.heap.size 28 _ (0,0) _ rfl HE.out.1 Tryz.underlying28 rfl (by kernel_rfl),?_⟩;rw[HXN.out];refine ⟨zzu,[],rfl,zkv _ _,⟨List.nodup_nil,fun x hx=>(by cases hx),?_⟩⟩;exact (HGE.out _ _ HO9.out HE.out.2.2)
    | true=>
     have HXE:Hid (RR=zup s (.mk k o f t u lo hi b op ks) lk):=hX (by have:=HXX.out;exact this);obtain ⟨A1,A2,A3,c1,c2,c3,bk,rfl,hblk,hrq,hnk,hsub,hgk,hge,hcont⟩:=HS5.out.parts;have q0:w5.cell? ⟨gb,0,none⟩=some (.int .i64 k):=hblk.cell 0;have q1:w5.cell? ⟨gb,1,none⟩=some (.int .i64 o):=hblk.cell 1;have q2:w5.cell? ⟨gb,2,none⟩=some (.string f):=hblk.cell 2;have q3:w5.cell? ⟨gb,3,none⟩=some (.string t):=hblk.cell 3;have q4:w5.cell? ⟨gb,4,none⟩=some (.string u):=hblk.cell 4;have q5:w5.cell? ⟨gb,5,none⟩=some (.slice A1 lo.length c1):=hblk.cell 5;have q6:w5.cell? ⟨gb,6,none⟩=some (.slice A2 hi.length c2):=hblk.cell 6;have q7:w5.cell? ⟨gb,7,none⟩=some (.int .i64 b):=hblk.cell 7;have q8:w5.cell? ⟨gb,8,none⟩=some (.int .i64 op):=hblk.cell 8;have q9:w5.cell? ⟨gb,9,none⟩=some (.slice A3 lk.length c3):=hblk.cell 9;have q10:w5.cell? ⟨gb,10,none⟩=some (.bool s):=hblk.cell 10;obtain ⟨p0,p1,p2,p3,p4,p5,p6,p7,p8,p9⟩:=zas HZ5.out;obtain ⟨z0,z1,z2,z3,z4,z5,z6,z7,z8,z9⟩:=z10 HZ5.out;have HRQ:=hX hrq;have HBK:Hid (bk.Nodup∧∀x∈bk,x∈bs3):=hX ⟨hnk,hsub⟩;clear hrq hblk hsub hgk hge hcont hnk HXX;by_cases hl1:lk.length=1
     ·obtain ⟨x,hx⟩:∃x,lk=[x]:=List.length_eq_one_iff.1 hl1;subst hx;obtain ⟨k0,k1,k2,k3,k4,k5,k6,k7,k8,k9⟩:=x;obtain ⟨g3,c3',Y5,Y6,Y9,y5,y6,y9,e3,hcell,bx,hox,hbx⟩:=HRQ.out.one;have e5:c3=c3':=by cases e3;rfl
      subst e5;injection e3 with e3;subst e3;replace q9:w5.cell? ⟨gb,9,none⟩=some (.slice (some ⟨g3,0,none⟩) 1 c3):=q9;have HOQ5:Hid (OQ w5 B (.mk k o f t u lo hi b op [.mk k0 k1 k2 k3 k4 k5 k6 k7 k8 k9]) [.int .i64 k,.int .i64 o,.string f,.string t,.string u,.slice A1 lo.length c1,.slice A2 hi.length c2,.int .i64 b,.int .i64 op,.slice (some ⟨g3,0,none⟩) 1 c3] bs3):=hX HS5.out.oq;have a0:w5.cell? ⟨g3,0,none⟩=some (.int .i64 k0):=hcell 0 _ rfl;have a1:w5.cell? ⟨g3,1,none⟩=some (.int .i64 k1):=hcell 1 _ rfl;have a2:w5.cell? ⟨g3,2,none⟩=some (.string k2):=hcell 2 _ rfl;have a3:w5.cell? ⟨g3,3,none⟩=some (.string k3):=hcell 3 _ rfl;have a4:w5.cell? ⟨g3,4,none⟩=some (.string k4):=hcell 4 _ rfl;have a5:w5.cell? ⟨g3,5,none⟩=some (.slice Y5 k5.length y5):=hcell 5 _ rfl;have a6:w5.cell? ⟨g3,6,none⟩=some (.slice Y6 k6.length y6):=hcell 6 _ rfl;have a7:w5.cell? ⟨g3,7,none⟩=some (.int .i64 k7):=hcell 7 _ rfl;have a8:w5.cell? ⟨g3,8,none⟩=some (.int .i64 k8):=hcell 8 _ rfl;have a9:w5.cell? ⟨g3,9,none⟩=some (.slice Y9 k9.length y9):=hcell 9 _ rfl;have HOX:=hX hox;have HSX:Hid (bx.Sublist bs3∨∀g∈bx,g∈bk):=hX (.inr (fun g hg=>hbx.subset hg));have HNX:Hid (bx.Nodup):=hX (hbx.nodup HBK.out.1);clear hox hbx hcell
      cases s with
      | true=>
       by_cases hk4:k1=4
       ·subst hk4;go_wp2_with fail;have HE:=hX (zag HZ5.out (Below.refl w.heap.size w5) (Nat.le_refl _) (.int .i64 k) (.int .i64 o) (.string f) (.string t) (.string u) (.slice A1 lo.length c1) (.slice A2 hi.length c2) (.int .i64 b) (.int .i64 op) (.slice (some ⟨g3,0,none⟩) 1 c3));simp only[Exit.jump];refine ⟨rfl,_,results_cell_row rfl _ _ w.heap.size 28 _ (0,0) _ rfl HE.out.1 Tryz.underlying28 rfl (by kernel_rfl),?_⟩;exact HFIN.out _ _ _ _ _ [.int .i64 k,.int .i64 o,.string f,.string t,.string u,.slice A1 lo.length c1,.slice A2 hi.length c2,.int .i64 b,.int .i64 op,.slice (some ⟨g3,0,none⟩) 1 c3] HO5.out (HOQ5.out) ((List.nodup_cons.1 HS5.out.nd).2) (fun g hg=>List.mem_cons_of_mem _ hg) HE.out.2.2 (HXE.out.trans (zz0 _))
       ·have d4:(k1 == 4)=false:=by rw[beq_eq_false_iff_ne];exact hk4
        go_wp2_with fail;have HE:=hX (zag HZ5.out (Below.refl w.heap.size w5) (Nat.le_refl _) (.int .i64 k0) (.int .i64 k1) (.string k2) (.string k3) (.string k4) (.slice Y5 k5.length y5) (.slice Y6 k6.length y6) (.int .i64 k7) (.int .i64 k8) (.slice Y9 k9.length y9));simp only[Exit.jump];refine ⟨rfl,_,results_cell_row rfl _ _ w.heap.size 28 _ (0,0) _ rfl HE.out.1 Tryz.underlying28 rfl (by kernel_rfl),?_⟩;exact HFIN.out _ _ _ _ _ [.int .i64 k0,.int .i64 k1,.string k2,.string k3,.string k4,.slice Y5 k5.length y5,.slice Y6 k6.length y6,.int .i64 k7,.int .i64 k8,.slice Y9 k9.length y9] HO5.out (HOX.out) (HNX.out) (fun g hg=>HSX.out.elim (fun h=>List.mem_cons_of_mem _ (h.subset hg)) (fun h=>List.mem_cons_of_mem _ (HBK.out.2 _ (h g hg)))) HE.out.2.2 (HXE.out.trans (zm6 _ (.inl hk4)))
      | false=>
       by_cases hk4:k1=4
       ·subst hk4;go_wp2_with fail;have HE:=hX (zag HZ5.out (Below.refl w.heap.size w5) (Nat.le_refl _) (.int .i64 k0) (.int .i64 4) (.string k2) (.string k3) (.string k4) (.slice Y5 k5.length y5) (.slice Y6 k6.length y6) (.int .i64 k7) (.int .i64 k8) (.slice Y9 k9.length y9));simp only[Exit.jump];refine ⟨rfl,_,results_cell_row rfl _ _ w.heap.size 28 _ (0,0) _ rfl HE.out.1 Tryz.underlying28 rfl (by kernel_rfl),?_⟩;exact HFIN.out _ _ _ _ _ [.int .i64 k0,.int .i64 4,.string k2,.string k3,.string k4,.slice Y5 k5.length y5,.slice Y6 k6.length y6,.int .i64 k7,.int .i64 k8,.slice Y9 k9.length y9] HO5.out (HOX.out) (HNX.out) (fun g hg=>HSX.out.elim (fun h=>List.mem_cons_of_mem _ (h.subset hg)) (fun h=>List.mem_cons_of_mem _ (HBK.out.2 _ (h g hg)))) HE.out.2.2 (HXE.out.trans (zm6 _ (.inr rfl)))
       ·have d4:(k1 == 4)=false:=by rw[beq_eq_false_iff_ne];exact hk4
        go_wp2_with fail;have HE:=hX (zag HZ5.out (Below.refl w.heap.size w5) (Nat.le_refl _) (.int .i64 k0) (.int .i64 k1) (.string k2) (.string k3) (.string k4) (.slice Y5 k5.length y5) (.slice Y6 k6.length y6) (.int .i64 k7) (.int .i64 k8) (.slice Y9 k9.length y9));simp only[Exit.jump];refine ⟨rfl,_,results_cell_row rfl _ _ w.heap.size 28 _ (0,0) _ rfl HE.out.1 Tryz.underlying28 rfl (by kernel_rfl),?_⟩;exact HFIN.out _ _ _ _ _ [.int .i64 k0,.int .i64 k1,.string k2,.string k3,.string k4,.slice Y5 k5.length y5,.slice Y6 k6.length y6,.int .i64 k7,.int .i64 k8,.slice Y9 k9.length y9] HO5.out (HOX.out) (HNX.out) (fun g hg=>HSX.out.elim (fun h=>List.mem_cons_of_mem _ (h.subset hg)) (fun h=>List.mem_cons_of_mem _ (HBK.out.2 _ (h g hg)))) HE.out.2.2 (HXE.out.trans (zm6 _ (.inl hk4)))
     ·have dl:((lk.length:Int) == 1)=false:=by rw[beq_eq_false_iff_ne];omega
      go_wp2_with fail;have HE:=hX (zag HZ5.out (Below.refl w.heap.size w5) (Nat.le_refl _) (.int .i64 k) (.int .i64 o) (.string f) (.string t) (.string u) (.slice A1 lo.length c1) (.slice A2 hi.length c2) (.int .i64 b) (.int .i64 op) (.slice A3 lk.length c3));simp only[Exit.jump];refine ⟨rfl,_,results_cell_row rfl _ _ w.heap.size 28 _ (0,0) _ rfl HE.out.1 Tryz.underlying28 rfl (by kernel_rfl),?_⟩;exact HFIN.out _ _ _ _ _ [.int .i64 k,.int .i64 o,.string f,.string t,.string u,.slice A1 lo.length c1,.slice A2 hi.length c2,.int .i64 b,.int .i64 op,.slice A3 lk.length c3] HO5.out (HS5.out.oq) ((List.nodup_cons.1 HS5.out.nd).2) (fun g hg=>List.mem_cons_of_mem _ hg) HE.out.2.2 (HXE.out.trans (zxc _ hl1))
end
end Go.Proofs.YtplkbdncgkgppaaGreatDoor.Qry
