/- DiskRW Rounds DiskF DiskFill Copies Ref -/
import Derived.Test.YtkmninbcgipliaaGreatDoorQ0
import Derived.Deep.RegionHeld3
import Derived.Deep.RegionLaw
import Derived.Deep.AppendLies
import Derived.OrdersIn
import Derived.RangeFuncNested
import Derived.RangeFuncBound
import Derived.RangeFuncCalls
import Derived.RangeFuncLeaves
import Derived.RangeFuncBox
import Derived.Shelf.Abstract
import Derived.Shelf.RegionOpen
import Derived.OwnWalkIn
import Derived.TacticsInMore
import Derived.LoopNIn
import Derived.LoopIn
import Derived.Laws.MakeOwn
import Derived.OneCell
import Derived.Laws.OwnMore
set_option maxHeartbeats 2000000
set_option maxRecDepth 100000
set_option linter.all false
namespace Go.Proofs.YtkmninbcgipliaaGreatDoor
open Tryz hiding t1 t2
section
open Go.RowKit Go.Maps
theorem BytesAt.upd{F:Nat→Prop}{w w':World}{b:Nat}{l:List UInt8}(h:BytesAt w b l)(hu:A7 F w w')(hF:¬ F b):BytesAt w' b l:=by
 have hlt:=h.lt;obtain⟨C,e,fr,h1,h2⟩:=h;exact⟨C,e,fr,by rw[hu.block b hlt hF];exact h1,h2⟩
theorem axH{w:World}{base e s:Nat}{v:Value}{n:Nat}{xs:List Value}(h:w.ownsRow base e s v n xs):n≤9223372036854775807:=by
 rcases h.2 with⟨_,e⟩|⟨g,cap,_,_,_,_,h1,h2,_⟩
 ·omega
 ·unfold maxLen at h2;omega
theorem F9.below{w w':World}{b m:Nat}{lv:Value}{D:A8}(h:F9 w b m lv D)(hb:Bw w w'):F9 w' b m lv D:=h.upd (ub hb) (fun _ _ f=>f)
theorem azo(w:World)(n:Nat)(hn:n≤16384):∃ C,(Instr.makeSlice 308 (.int .i64 (n:Int)) (.int .i64 (n:Int))).run prog w=.ok (.slice (some ⟨w.heap.size,0,none⟩) n n) (w.alloc (.cells C 240))∧
  BytesAt (w.alloc (.cells C 240)) w.heap.size (List.replicate (64*n) 0):=by
 have Zg:(prog.info? 240).map (fun i=>(i.zero,i.size,i.bytes))=some (some (.agg (Db Ng)),64,64):=by kernel_rfl
 obtain⟨i0,hi,AX,AY,Ba⟩:=DI Zg;have hrun:=run_make (P:=prog) w 308 240 i0 _ underlying308 hi AX .i64 .i64 n n (by omega) (Int.le_refl _) (by rw[Ba];omega) (by omega);rw[Int.toNat_natCast] at hrun;refine⟨_,hrun,afk w _ _ _ (fun i hi=>?_)⟩;have Bg:=hi;rw[List.length_replicate] at hi;rw[AY];have hs:Ng.length=64:=by simp[Ng]
 have hg:=fE Ng (i % 64) (by rw[hs];exact Nat.mod_lt _ (by decide));have hz:Ng[i % 64]'(by rw[hs];exact Nat.mod_lt _ (by decide))=0:=List.getElem_replicate _;rw[hz] at hg;clear hz hrun;have Ba:(List.replicate (64*n) (0:UInt8))[i]'Bg=0:=List.getElem_replicate _;rw[Ba];unfold madeCells;simp only[Value.cells,lU,hs];rw[Array.getElem?_map,Array.getElem?_range,Ac (by omega)];simp only[EP];rw[getElem!_def,hg]
theorem ayA{w:World}{b m:Nat}{lv:Value}{D:A8}(h:F9 w b m lv D)(at_ n:Int)(hd:D.down=true):
  Calls prog 159 #[.pointer (some ⟨b,0,none⟩),.int .i64 at_,.int .i64 n] w fun e w'=>e=.returned (.tuple #[.string (bs []),.int .i64 40])∧w=w':=by
 have hu:Hid (D.up=40):=Hi (by unfold A8.up;rw[hd];rfl);clear hd
 go_in
 go_wp2_with fail;refine(Ye h).mono ?_;rw[hu.out];rintro e w1⟨rfl,rfl⟩;go_wp2;go_ret2;exact⟨rfl,rfl⟩
theorem uh{w:World}{b m:Nat}{lv:Value}{D:A8}(h:F9 w b m lv D)(a n:Nat)(hd:D.down=false)(hi:D.inside a n=true):
  Calls prog 159 #[.pointer (some ⟨b,0,none⟩),.int .i64 a,.int .i64 n] w fun e w'=>e=.returned (.tuple #[.string (bs (A8.text D.now a n)),.int .i64 0])∧Bw w w':=by
 have hu:Hid (D.up=0):=Hi (by unfold A8.up;rw[hd];rfl);have HI:=Hi hi;have hN:=h.fine.n2;have DV:a+n≤D.n:=by
  simp[A8.inside] at hi;omega
 clear hd hi;obtain⟨C,NS,Ag⟩:=azo w n (by omega);have Co:=Hi Ag;clear Ag;have HD:=Hi h
 go_in
 go_wp2_with fail;refine(Ye h).mono ?_;rw[hu.out];rintro e w1⟨rfl,rfl⟩;go_wp2_with fail;refine(abC h a n (by omega) (by omega) (by omega) (by omega)).mono ?_;rw[HI.out];rintro e w1⟨rfl,rfl⟩;clear h;go_wp2
 go_loopw [30] (fun i wr=>∃ k:Nat,k≤n∧i=.int .i64 k∧BytesAt wr w.heap.size (A8.text (A8.upTo D.base (a+k)) a n)∧Bw w wr) (fun i _=>n -(intOf i).toNat)
 case atStart=>
  refine⟨0,by omega,rfl,?_,(Ah _ _).alloc (Ae _) _⟩;rw[Nat.add_zero,A8.aAF];exact Co.out
 case round=>
  obtain⟨k,hk,rfl,hat,hb⟩:=hrel;by_cases hlt:k < n
  ·have IQ:=Hi hat;have Xo:=HD.below hb;obtain⟨_,c1,_,_,_,_⟩:=Xo.cells;have NN:=Xo.base.get (a+k) (by omega) hN;rw[Int.natCast_add] at NN;clear hat Xo;have Ct:=HD.fine.base;have L8:=Hi (Ct (a+k) (by omega));have Hz:∀ j,a≤j→j < a+n→(A8.upTo D.base (a+k) j).length=64:=fun j _ h2=>A8.uR Ct _ j (by omega)
   have Pj:=Hi Hz;have hlen:(A8.text (A8.upTo D.base (a+k)) a n).length=64*n:=A8.XV Hz;have Bl:=IQ.store prog (k*64) (D.base (a+k)) (by rw[L8.out,hlen];omega);have xx:=Hi (IQ.seg (D.base (a+k)) (k*64) (by rw[L8.out,hlen];omega));have GU:=L8.out;clear Ct hlen Hz;go_wp2;go_roundw
   case rel=>
    refine⟨k+1,by omega,by go_num,?_,below_setCells hb (Ae _) _ _⟩;have e:=xx.out;rw[Nat.mul_comm k 64,←A8.anb Pj hlt L8.out,←A8.aAG] at e;rw[Nat.mul_comm k 64];exact e
   case measure=>simp[intOf];omega
  ·obtain rfl:k=n:=(by omega);rw[A8.aAE] at hat;have IQ:=Hi hat;have Xo:=HD.below hb;obtain⟨_,_,c2,_,_,_⟩:=Xo.cells;have hl:∃ q cap,lv=.slice q D.loose.length cap:=by
    rcases Xo.loose.2 with⟨e1,e2⟩|⟨g,cap,_,e1,_⟩
    ·exact⟨none,0,by rw[e1,e2]⟩
    ·exact⟨_,cap,e1⟩
   obtain⟨q,cap,rfl⟩:=hl;have auU:=axH Xo.loose;have HB:=Hi hb;clear hat Xo hb NS;go_wp2
   go_loopw [50] (fun i wr=>∃ j:Nat,j≤D.loose.length∧i=.int .i64 j∧BytesAt wr w.heap.size (A8.text (A8.lay D.base (D.loose.take j)) a k)∧Bw w wr) (fun i _=>D.loose.length -(intOf i).toNat)
   case atStart=>exact⟨0,by omega,rfl,IQ,HB⟩
   case round=>
    clear IQ HB
    rename_i wr0
    obtain⟨j,hj,rfl,hat,hb⟩:=hrel;by_cases hlt:j < D.loose.length
    ·have Rz:=(HD.below hb).loose;obtain⟨g,rfl⟩:∃ g,q=some ⟨g,0,none⟩:=by
      rcases Rz.2 with⟨e1,e2⟩|⟨g,cap,_,e1,_⟩
      ·omega
      ·exact⟨g,by cases e1;rfl⟩
     obtain⟨p1,p2⟩:=HD.fine.loose D.loose[j] (Dc hlt);have hall:∀ p∈D.loose,p.2.length=64:=fun p hp=>(HD.fine.loose p hp).2
     have hr:=akv Rz hall j hlt;have Jm:=IM prog 142 242 underlying142 65 alJ ⟨g,0,none⟩ D.loose.length cap j hlt;have iP:(⟨g,0,none⟩:Addr).add (j*65)=⟨g,j*65,none⟩:=(by unfold Addr.add;split<;>simp_all);rw[iP] at Jm;have HS:=Hi (A8.awm D.base D.loose j hlt);have IE:∀ i,i < D.n→(A8.lay D.base (D.loose.take j) i).length=64:=A8.kM HD.fine.base (fun p hp=>HD.fine.loose p (List.mem_of_mem_take hp));have Qd:=Hi IE;have HR:=Hi hr;have KD:=Hi p2;have IQ:=Hi hat;generalize D.loose[j]=p at*;clear Rz hall hr IE iP p2 hat;have hz:=alF p;have hlen:(A8.text (A8.lay D.base (D.loose.take j)) a k).length=64*k:=A8.XV (fun i _ h2=>Qd i (by omega));have Gx:=Hi hlen;have HB:=Hi hb;clear hlen hb;by_cases aaB:a≤p.1∧p.1 < a+k
     ·obtain⟨i1,i2⟩:=aaB;have VG:=IQ.below ((Ah _ wr).alloc (Ae _) (.cells (putRow p) 242));have Bl:=VG.store prog ((p.1 -a)*64) p.2 (by rw[KD.out,Gx.out];omega);have xx:=Hi (VG.seg p.2 ((p.1 -a)*64) (by rw[KD.out,Gx.out];omega));have GU:=KD.out;clear VG;go_wp2_with (first|(refine wpList_load_mid rfl 242 _ rfl g (j*65) rfl _ _ HR underlying242 rfl (u7 p KD) ?_;rw[u6])|(refine wpList_store_row rfl 242 _ _ rfl wr.heap.size (putRow p) rfl rfl 242 _ (AP wr _) (uf p KD) (acp p KD) (tX p) ?_;rw[World.setRow_alloc_new])|(refine wpList_load_mid rfl 240 _ rfl wr.heap.size 1 rfl _ _ (ay9 wr p _) underlying240 rfl (lI p.2 KD) ?_;rw[fC]));go_roundw
      case rel=>
       refine⟨j+1,by omega,by go_num,?_,below_setCells (HB.alloc HB.size _) (Ae _) _ _⟩;have e:=xx.out;have e2:=A8.anb (f:=A8.lay D.base (D.loose.take j)) (k:=a) (n:=k) (i:=p.1 -a) (x:=p.2) (fun i _ h2=>Qd i (by omega)) (by omega) KD.out;rw[show a+(p.1 -a)=p.1 by omega,←HS.out] at e2;rw[Nat.mul_comm (p.1 -a) 64,←e2] at e;rw[Nat.mul_comm (p.1 -a) 64];exact e
      case measure=>simp[intOf];omega
     ·have ajv:A8.text (A8.lay D.base (D.loose.take (j+1))) a k=A8.text (A8.lay D.base (D.loose.take j)) a k:=by
       rw[HS.out];exact A8.PX a k (fun i h1 h2=>by unfold A8.upd;rw[Aa (by omega)])
      have aew:=Hi ajv;clear ajv;by_cases ry:a≤p.1
      ·have hhi:a+k≤p.1:=(by omega);clear aaB;go_wp2_with (first|(refine wpList_load_mid rfl 242 _ rfl g (j*65) rfl _ _ HR underlying242 rfl (u7 p KD) ?_;rw[u6])|(refine wpList_store_row rfl 242 _ _ rfl wr.heap.size (putRow p) rfl rfl 242 _ (AP wr _) (uf p KD) (acp p KD) (tX p) ?_;rw[World.setRow_alloc_new]));go_roundw
       case rel=>exact⟨j+1,by omega,by go_num,by rw[aew.out];exact IQ.below ((Ah _ wr).alloc (Ae _) _),HB.alloc HB.size _⟩
       case measure=>simp[intOf];omega
      ·clear aaB;go_wp2_with (first|(refine wpList_load_mid rfl 242 _ rfl g (j*65) rfl _ _ HR underlying242 rfl (u7 p KD) ?_;rw[u6])|(refine wpList_store_row rfl 242 _ _ rfl wr.heap.size (putRow p) rfl rfl 242 _ (AP wr _) (uf p KD) (acp p KD) (tX p) ?_;rw[World.setRow_alloc_new]));go_roundw
       case rel=>exact⟨j+1,by omega,by go_num,by rw[aew.out];exact IQ.below ((Ah _ wr).alloc (Ae _) _),HB.alloc HB.size _⟩
       case measure=>simp[intOf];omega
    ·obtain rfl:j=D.loose.length:=(by omega);rw[Dq] at hat;have IQ:=Hi hat;have HB:=Hi hb;have Qd:=Hi HD.fine.now;clear hat hb c2 HD Co auU;go_wp2_with fail;have aiS:=Ep.made wr;obtain⟨wo,rfl⟩:∃ wo:World,wo=wr:=⟨_,rfl⟩;have MS:=IQ.lt;have OB:=(Ah wo.heap.size wo).alloc (Ae _) (.cells #[.pointer none,.slice none 0 0] 210);have VF:=IQ.below OB;have Ai:Bw w (wo.alloc (.cells #[.pointer none,.slice none 0 0] 210)):=HB.alloc HB.size _;have aij:(A8.text D.now a k).length=64*k:=A8.XV (fun i _ h2=>Qd i (by omega));have Gx:=Hi aij;clear aij OB;have aj9:A8.lay D.base D.loose=D.now:=rfl;rw[aj9] at VF;clear aj9
     go_loopw [77] (fun i wl=>∃ (j:Nat) (fp:Nat→Prop),j≤k∧i=.int .i64 j∧BytesAt wl w.heap.size (A8.text D.now a k)∧Ep wl wo.heap.size ((A8.text D.now a k).take (64*j)) fp∧(∀ q,fp q→wo.heap.size≤q)∧Bw w wl) (fun i _=>k -(intOf i).toNat)
     case atStart=>
      refine⟨0,_,by omega,rfl,VF,aiS,?_,Ai⟩;rintro q (rfl|hq)
      ·exact Ae _
      ·simp[Value.ownBlock] at hq
     case round=>
      clear aiS VF Ai;obtain⟨j,fp,hj,rfl,hat,Fh,Gj,hb⟩:=hrel;by_cases hlt:j < k
      ·have aaW:=A8.an9 (f:=D.now) (k:=a) (n:=k) (i:=j) (fun i _ h2=>Qd i (by omega)) hlt;have hr:=hat.range (j*64) 64 (by rw[Gx.out];omega);rw[Nat.mul_comm j 64,aaW.2.1] at hr;have hx:(D.now (a+j)).length=64:=Qd _ (by omega);have HX:=Hi hx;have HR:=Hi hr
       have HT:Hid ((A8.text D.now a k).take (64*(j+1))=(A8.text D.now a k).take (64*j)++D.now (a+j)):=Hi (by
        rw[show 64*(j+1)=64*j+64 by omega,List.take_add,aaW.2.1])
       have OB:=(Ah wr.heap.size wr).alloc (Ae _) (.cells (Db (D.now (a+j))) 240);have aob:=Hi (hat.below OB);have De:=Hi (Fh.upd (ub OB) (fun _ _ f=>f));have Fa:=Hi Gj;have Nu:=Hi Fh.lt;have WS:Hid (wo.heap.size≤wr.heap.size):=Hi (Nat.le_of_lt (Fh.lt wo.heap.size Fh.own));have vJ:=Hi (hb.alloc hb.size (.cells (Db (D.now (a+j))) 240));generalize hxx:D.now (a+j)=x at*;clear aaW hr hx hat Fh Gj hb OB hxx;have CZ:=fun W=>azb prog W 240 5 64 wr.heap.size underlying240 (by kernel_rfl)
       go_wp2_with (first|(refine wpList_load_mid rfl 240 _ rfl w.heap.size (j*64) rfl _ _ (by rw[Nat.mul_comm];exact HR.out) underlying240 rfl (lI x HX) ?_;rw[fC])|(refine wpList_store_row rfl 240 _ _ rfl wr.heap.size (Db x) rfl rfl 240 _ (AP wr _) (by rw[lU,HX.out];exact acJ) (by rw[lU,HX.out];rfl) (ad4 x) ?_;rw[World.setRow_alloc_new]));refine(afi De wr.heap.size 0 64 x (fun i hi=>by rw[GJ,E8];exact fE x i hi) (fun hf=>Nat.lt_irrefl _ (Nu _ hf)) (by rw[Be,Gx.out,HX.out];omega) 64 HX).mono ?_;rintro e w2⟨rfl,fp2,Xl,Eu,ajA⟩;have OW:=Hi Xl;have Ri:=Hi Eu;have apa:=Hi ajA;clear Xl Eu ajA;go_wp2;go_roundw
       case rel=>
        refine⟨j+1,fp2,by omega,by go_num,aob.upd Ri (fun hf=>by have:=Fa _ hf;omega),by rw[HT.out];exact OW.out,?_,Cq vJ Ri (fun q hq=>Ay (Nat.le_of_lt MS) (Fa q hq)) vJ.size⟩;intro q hq;rcases apa q hq with h1|h1
        ·exact Fa q h1
        ·have:=WS.out;rw[Ar] at h1;omega
       case measure=>simp[intOf];omega
      ·obtain rfl:j=k:=(by omega);rw[I7 (by rw[Gx.out];omega)] at Fh;have De:=Hi Fh;have Fa:=Hi Gj;have Ak:=Hi hb;clear Fh Gj hb hat;go_wp2_with fail;refine(WX De).mono ?_;rintro e w2⟨rfl,Eu⟩;go_wp2;go_ret2;exact⟨rfl,Cq Ak Eu (fun q hq=>Ay (Nat.le_of_lt MS) (Fa q hq)) Ak.size⟩
end
section
open Go.RowKit Go.Maps
theorem chunk(s:List UInt8)(k:Nat)(h:64*(k+1)≤s.length):(s.take (64*(k+1))).drop (64*k)=(s.drop (64*k)).take 64∧((s.drop (64*k)).take 64).length=64:=by
 refine⟨?_,by rw[Be,Cs];omega⟩;rw[List.drop_take,show 64*(k+1) -64*k=64 by omega]
theorem ayd:(prog.info? 242).map (fun i=>(i.zero,i.size,i.bytes))=some (some (.agg Tryz.zeroCells242),65,72):=by kernel_rfl
theorem axq(w:World)(C:Array Value)(T:TypeId)(N:Nat)(hN:w.heap.size=N):∀ j u,C.toList[j]?=some u→(w.alloc (.cells C T)).drew.cell? ((⟨N,0,none⟩:Addr).add j)=some u:=by
 subst hN;intro j u h;have e:(⟨w.heap.size,0,none⟩:Addr).add j=⟨w.heap.size,j,none⟩:=by unfold Addr.add;split<;>simp_all
 rw[e]
 show(w.alloc (.cells C T)).cell? _=_
 rw[E8,←Dx];exact h
theorem ay8(i:Int)(x:List UInt8):∀ u∈(PW i x).toList,u.oneCell'=true:=by
 unfold PW;intro u hu;rcases BZ.1 hu with rfl|h
 ·rfl
 ·exact lT _ u h
theorem ay7(i:Int)(x:List UInt8)(h:x.length=64):(PW i x).toList.length=1*65:=by rw[Array.length_toList,acj i x h]
theorem ayf{w w':World}{row:Option Nat}(hg:w.grownBy w' row){b o:Nat}{cs:List Value}(h:w.rangeAt b o cs)(hne:some b≠row):w'.rangeAt b o cs:=fun j v hv=>hg.cell (h j v hv) hne
theorem ak4{w:World}{a:Addr}{v:Value}{b2 o:Nat}{cs:List Value}(h1:w.cell? a=some v)(h0:w.frozen? a=false)(h2:w.rangeAt b2 o cs)(ob:Obj):(w.alloc ob).drew.cell? a=some v∧(w.alloc ob).drew.frozen? a=false∧(w.alloc ob).drew.rangeAt b2 o cs:=by
 have hb:=(Ah w.heap.size w).alloc (Ae _) ob;refine⟨(hb.cell (D7 h1)).trans h1,(hb.frozen (D7 h1)).trans h0,fun j u hj=>?_⟩;have:=h2 j u hj;exact(hb.cell (D7 this)).trans this
theorem ak5{w w':World}{a:Addr}{v:Value}{b2 o:Nat}{cs:List Value}(h:w.cell? a=some v∧w.frozen? a=false∧w.rangeAt b2 o cs){row:Option Nat}(hg:w.grownBy w' row)(hne:some a.block≠row)(XE:some b2≠row):w'.cell? a=some v∧w'.frozen? a=false∧w'.rangeAt b2 o cs:=
 ⟨hg.cell h.1 hne,(hg.frozen_far a (D7 h.1) hne).trans h.2.1,ayf hg h.2.2 XE⟩
theorem wrote{w1 W w2:World}{b m:Nat}{lk:Value}{E:A8}(h:F9 w1 b m lk E)(hW:Bw w1 W)(AJ:W.grownBy w2 lk.ownBlock){gg cap a:Nat}{x:List UInt8}{L:Int}{C:List Value}{N:Nat}(hN:E.loose.length+1=N)
  (hown:w2.ownsRow 0 242 65 (.slice (some ⟨gg,0,none⟩) N cap) N C)(hC:C=NW (E.loose++[(a,x)]))(hat:lk.ownBlock=some gg∨w1.heap.size≤gg)(ha:a < E.n)(hx:x.length=64)(hL: -1≤L∧L≤9223372036854775807):
  F9 ((w2.setCell ⟨b,2,none⟩ (.slice (some ⟨gg,0,none⟩) N cap)).setCell ⟨b,3,none⟩ (.int .i64 L)) b m (.slice (some ⟨gg,0,none⟩) N cap) { E with loose:=E.loose++[(a,x)],left:=L }∧
  A7 (Qo b m lk) w1 ((w2.setCell ⟨b,2,none⟩ (.slice (some ⟨gg,0,none⟩) N cap)).setCell ⟨b,3,none⟩ (.int .i64 L))∧Di (Qo b m lk) (Qo b m (.slice (some ⟨gg,0,none⟩) N cap)) w1:=by
 subst hC;subst hN;have hb:b < w1.heap.size:=(Dm.1 h.struct).1;have hm:m < w1.heap.size:=h.base.lt;have u1:A7 (Qo b m lk) w1 w2:=(A7.of_below hW).trans (A7.of_grownBy (F:=fun k=>lk.ownBlock=some k) AJ (fun k e=>e)) (fun k hk=>.inl (.inr (.inr hk)));have u2:A7 (fun k=>lk.ownBlock=some k) w1 w2:=(A7.of_below hW).trans (A7.of_grownBy (F:=fun k=>lk.ownBlock=some k) AJ (fun k e=>e)) (fun k hk=>.inl hk);have NM:gg≠b:=fun e=>by
  rcases hat with hat|hat
  ·exact h.lb (by rw[hat,e])
  ·omega
 have Jl:gg≠m:=fun e=>by
  rcases hat with hat|hat
  ·exact h.lm (by rw[hat,e])
  ·omega
 have hs:w2.heap[b]?=some (.cells #[.int .i64 (E.n:Int),.map (some m),lk,.int .i64 E.left,.bool E.down] 144):=by
  rw[u2.block b hb h.lb];exact h.struct
 have hF:A8.BX { E with loose:=E.loose++[(a,x)],left:=L }:=by
  refine⟨h.fine.n1,h.fine.n2,h.fine.base,fun p hp=>?_,hL⟩;rcases EG.1 hp with hp|hp
  ·exact h.fine.loose p hp
  ·simp at hp;subst hp;exact⟨ha,hx⟩
 have hv:∀ (v v':Value),A7 (fun k=>k=b) w2 ((w2.setCell ⟨b,2,none⟩ v).setCell ⟨b,3,none⟩ v'):=fun v v'=>((A7.refl (fun k=>k=b) w2).setCell (p:=⟨b,2,none⟩) (.inl rfl) v).setCell (p:=⟨b,3,none⟩) (.inl rfl) v'
 refine⟨⟨?_,?_,?_,h.mb,fun e=>NM (by simpa[Value.ownBlock] using e),fun e=>Jl (by simpa[Value.ownBlock] using e),hF⟩,?_,?_⟩
 ·have e1:=Cf w2 b 2 _ _ (.slice (some ⟨gg,0,none⟩) (E.loose.length+1:Nat) cap) hs;have e2:=Cf _ b 3 _ _ (.int .i64 L) e1;exact e2
 ·refine(h.base.kept (u2.block m hm h.lm)).kept ((hv _ _).block m (I9 hm u2.size) h.mb)
 ·have e:(E.loose++[(a,x)]).length=E.loose.length+1:=by simp
  show World.ownsRow _ 0 _ 65 _ (E.loose++[(a,x)]).length _
  rw[e];exact BH hown (hv _ _) (fun g hg e=>NM (by simp[Value.ownBlock] at hg;omega))
 ·exact(u1.setCell (p:=⟨b,2,none⟩) (.inl (.inl rfl)) _).setCell (p:=⟨b,3,none⟩) (.inl (.inl rfl)) _
 ·rintro k (rfl|rfl|hk)
  ·exact .inl (.inl rfl)
  ·exact .inl (.inr (.inl rfl))
  ·simp[Value.ownBlock] at hk;subst hk;rcases hat with hat|hat
   ·exact .inl (.inr (.inr hat))
   ·exact .inr hat
theorem awx(l:List (Nat×List UInt8))(a k:Nat)(x:List UInt8):NW l++(PW ((a:Int)+(k:Int)) x).toList=NW (l++[(a+k,x)]):=by
 rw[aww,ay6,ZQ]
def acH(p:Value):Sem Value:=Instr.loadAt 240 p
theorem acI(p:Value):Instr.loadAt 240 p=acH p:=rfl
attribute [local go_sem ↓] acI
attribute [local simp] fC ayb acj ayc
theorem aBs{w:World}{b m:Nat}{lv:Value}{D:A8}(h:F9 w b m lv D)(a:Nat)(s:List UInt8)(hd:D.down=false)(n:Nat)(hs:s.length=64*n)(hi:D.inside a n=true)(Hw:D.loose.length+n≤1000000000):
  Calls prog 137 #[.pointer (some ⟨b,0,none⟩),.int .i64 a,.string (bs s)] w fun e w'=>e=.returned (.int .i64 (A8.writes D a s n).2)∧∃ sI,F9 w' b m sI (A8.writes D a s n).1∧A7 (Qo b m lv) w w'∧Di (Qo b m lv) (Qo b m sI) w:=by
 have hu:Hid (D.up=0):=Hi (by unfold A8.up;rw[hd];rfl);have HI:=Hi hi;have hN:=h.fine.n2;have DV:a+n≤D.n:=by
  simp[A8.inside] at hi;omega
 clear hd hi;have HS:=Hi hs;have hq:((s.length:Int) / 64)=(n:Int):=by omega
 have hr:(s.length:Int) % 64=0:=by omega
 have HD:=Hi h;clear hs;have HQ:=Hi hq;have HR:=Hi hr;clear hq hr
 go_in
 go_wp2_with fail
 go_step3
 go_wp2_with fail;refine(Ye h).mono ?_;rw[hu.out];rintro e w1⟨rfl,rfl⟩;have hq:=HQ.out;have hr:=HR.out;go_wp2_with fail;refine(abC h a n (by omega) (by omega) (by omega) (by omega)).mono ?_;rw[HI.out];rintro e w1⟨rfl,rfl⟩;clear h hq hr;go_wp2_with fail
 go_step3
 go_wp2
 go_loopw [6,31] (fun e i wr=>e=.int .i64 0∧∃ (k:Nat) (lk:Value) (E:A8),k≤n∧i=.int .i64 k∧F9 wr b m lk E∧E.n=D.n∧E.loose.length=D.loose.length+k∧A8.writes D a s n=A8.writes E (a+k) (s.drop (64*k)) (n -k)∧A7 (Qo b m lv) w wr∧Di (Qo b m lv) (Qo b m lk) w) (fun _ i _=>n -(intOf i).toNat)
 case atStart=>exact⟨rfl,0,lv,D,by omega,rfl,HD,rfl,rfl,by rw[Nat.mul_zero,List.drop_zero];rfl,A7.refl _ _,fun _ h=>.inl h⟩
 case round=>
  obtain⟨rfl,k,lk,E,hk,rfl,hE,bM,Xc,hW,hU,hS⟩:=hrel;obtain⟨c0,c1,c2,c3,c4,cf⟩:=hE.cells;by_cases hlt:k < n
  ·obtain⟨Ee,Ea⟩:=chunk s k (by rw[HS.out];omega);have hstep:A8.writes E (a+k) (s.drop (64*k)) (n -k)=if E.left=0 then({ E with down:=true },40) else A8.writes { E with loose:=E.loose++[(a+k,(s.drop (64*k)).take 64)],left:=max (E.left -1) (-1) } (a+k+1) ((s.drop (64*k)).drop 64) (n -(k+1)):=by
    rw[show n -k=(n -(k+1))+1 by omega];rfl
   have Bi:=Hi hstep;have HE:=Hi hE;have HEN:=Hi bM;have HEL:=Hi Xc;have HW:=Hi hW;have HU:=Hi hU;have Qi:=Hi hS;have Qj:=Hi Ee;have Rl:=Hi Ea;have cf3:=cf 3;have om:=cf 4;have cf2:=cf 2;clear hstep hE bM Xc hW hU hS Ee Ea cf c0 c1;by_cases Me:E.left=0
   ·have Bb:(E.left == 0)=true:=(by simp[Me]);have HL:=Hi Me;clear Me;go_wp2_with fail;rw[Exit.noGoto_ret];go_ret;have PI:A8.BX { E with down:=true }:=⟨HE.fine.n1,HE.fine.n2,HE.fine.base,HE.fine.loose,HE.fine.left⟩;refine⟨by rw[HW.out,Bi.out,Ac HL.out];rfl,lk,?_,HU.setCell (p:=⟨b,4,none⟩) (.inl (.inl rfl)) _,Qi.out⟩;rw[HW.out,Bi.out,Ac HL.out];exact HE.set (D':={ E with down:=true }) 4 _ rfl rfl rfl rfl PI
   ·have Bb:(E.left == 0)=false:=(by simp[Me]);have HL:=Hi Me;clear Me;have CZ:64*(k+1)≤s.length:=(by rw[HS.out];omega);have kG:List.drop (k*64) (List.take ((k+1)*64) s)=(s.drop (64*k)).take 64:=(by rw[Nat.mul_comm k,Nat.mul_comm (k+1)];exact Qj.out);have ap5:Hid ((s.drop (64*k)).drop 64=s.drop (64*(k+1))):=Hi (by rw[List.drop_drop,show 64*k+64=64*(k+1) by omega]);generalize (s.drop (64*k)).take 64=x at*;obtain⟨w1,cap,PE,Un,Ai,PS⟩:=aqB prog 9 54 5 underlying9 underlying54 underlying5 wr x;have jr:=fun W=>run_arrayAt prog W 240 5 64 (some ⟨wr.heap.size,0,none⟩) x.length cap underlying240 (by rw[Rl.out];exact Ae _)
    have ab4:=Un.range 0 64 (by rw[Rl.out];exact Ae _);rw[List.drop_zero,I7 (by rw[Rl.out];exact Ae _)] at ab4;have U2:=Hi ab4;have Dz:=Hi PS;clear PS;have HB1:=Hi Ai;have zX:=HE.below Ai;obtain⟨_,_,d2,d3,_,df⟩:=zX.cells;have Jd:=Hi zX;have df2:=df 2;have bA:=df 3;clear ab4 Ai Qj Un c2 c4 cf3 om cf2 zX df;go_wp2_with (first|(refine wpList_load_mid rfl 240 _ rfl wr.heap.size 0 rfl _ _ U2 underlying240 rfl (lI x Rl) ?_;rw[fC])|(refine wpList_store_row rfl 240 _ _ rfl w1.heap.size (Db x) rfl rfl 240 _ (AP w1 _) (by rw[lU,Rl.out];exact acJ) (by rw[lU,Rl.out];rfl) (ad4 x) ?_;rw[World.setRow_alloc_new]));have ry:=(Jd.loose);have ajH:=underlying240;have aix:=lI x Rl.out;have Ot:(w1.alloc (.cells (Db x) 240)).cell? ⟨b,2,none⟩=some lk:=by
     rw[←d2];exact((Ah _ w1).alloc (Ae _) _).cell (D7 d2)
    have hf2:(w1.alloc (.cells (Db x) 240)).frozen? ⟨b,2,none⟩=false:=by
     rw[←df2];exact((Ah _ w1).alloc (Ae _) _).frozen (D7 d2)
    have Ag:(w1.alloc (.cells (Db x) 240)).rangeAt w1.heap.size 0 (Cc x):=by
     intro j v hv;rw[GJ,E8,←Dx,ad3];exact hv
    obtain⟨i0,Bg,AX,AY,Ba⟩:=DI ayd;have XQ:=Rl.out;have ZE:IntKind.i64.wrap ((a:Int)+(k:Int))=(a:Int)+(k:Int):=Eh _ (by omega);have XE:=Jd.lb;have aj5:lk.ownBlock≠some w1.heap.size:=fun e=>by have:=ZP ry e;omega
    have ahU:(E.loose.length+1)*72≤140737488355328:=(by rw[HEL.out];omega);have Tn:(w1.alloc (.cells (Db x) 240)).heap.size=w1.heap.size+1:=Array.size_push _;have aCx:w1.heap.size≠b:=(by have:=D7 d2;simp at this;omega);have avj:w1.heap.size≤(w1.alloc (.cells (Db x) 240)).heap.size:=(by rw[Tn];omega);have PG:(w1.alloc (.cells (Db x) 240)).cell? ⟨b,3,none⟩=some (.int .i64 E.left):=by
     rw[←d3];exact((Ah _ w1).alloc (Ae _) _).cell (D7 d3)
    have hf3:(w1.alloc (.cells (Db x) 240)).frozen? ⟨b,3,none⟩=false:=by
     rw[←bA];exact((Ah _ w1).alloc (Ae _) _).frozen (D7 d3)
    have abH:=fun ob=>ak4 PG hf3 Ag ob
    obtain⟨GR,GU⟩:=HE.fine.left;have abG:=fun ob=>ak4 Ot hf2 Ag ob
    have r9:(acH (.pointer (some ⟨w1.heap.size,0,none⟩))).run prog (w1.alloc (.cells (Db x) 240)).drew=.ok (.agg (Db x)) (w1.alloc (.cells (Db x) 240)).drew:=by
     have:=run_loadAt_mid (w1.alloc (.cells (Db x) 240)).drew w1.heap.size 0 240 (Cc x) _ (fun j u hj=>Ag j u hj) ajH rfl aix;rw[fC,acI] at this;exact this
    clear ajH aix
    go_region_law
     ((refine step_append_lies _ (by rfl) _ _ _ (by rfl) 0 242 i0 _ 65 72 underlying142 Bg AX AY Ba (by rfl) (by omega) lk E.loose.length (NW E.loose) (by rfl) (((ry.alloc _).alloc _).drew) ⟨w1.heap.size+1,0,none⟩ 1 1 (PW ((a:Int)+(k:Int)) x).toList (by rfl) (ay7 _ _ XQ) (axq (w1.alloc (.cells (Db x) 240)) _ _ _ Tn) (ay8 _ _) (by omega) (by unfold maxLen;omega) ahU (by omega) (w1.heap.size+2) (by simp) ?_;intro gg cap2 w2 KT AJ hat OA;have Gz:=AJ.cell (abG _).1 (Ne.symm XE);have auu:=(ak5 (abG _) AJ (Ne.symm XE) (Ne.symm aj5)).2.1;have KO:=AJ.cell (abH _).1 (Ne.symm XE);have aCL:=(ak5 (abH _) AJ (Ne.symm XE) (Ne.symm aj5)).2.1))
    all_goals
     clear abG abH r9 Ot hf2 PG hf3 Tn Ag ry d2 d3 df2 bA c3 PE jr ahU Bg AX AY Ba;go_wp2_with fail;have CY:Bw w1 ((w1.alloc (Obj.cells (Db x) 240)).alloc (Obj.cells (PW (↑a+ ↑k) x) 242)).drew:=(((Ah _ w1).alloc (Ae _) _).alloc avj _).drew;have Uy:(if E.left -1 < -1 then(-1:Int) else E.left -1)=max (E.left -1) (-1):=(by split<;>omega);rw[Uy];obtain⟨g1,g2,g3⟩:=wrote (a:=a+k) (L:=max (E.left -1) (-1)) Jd CY AJ rfl KT (awx _ _ _ _) (hat.imp (fun h=>h) (fun h=>by omega)) (by have:=HEN.out;omega) XQ (by omega);refine⟨⟨rfl,k+1,_,_,by omega,rfl,g1,HEN,?_,?_,?_,?_⟩,?_⟩
     ·show(E.loose++[(a+k,x)]).length=_
      rw[Az,HEL.out];rfl
     ·rw[HW.out,Bi.out,Aa HL.out,ap5.out];rfl
     ·refine(HU.trans (ub HB1) (fun _ f=>f.elim)).trans g2 (fun i hi=>?_);exact Qi i hi
     ·intro i hi;have avk:=(HU.trans (ub HB1) (fun _ f=>f.elim)).size;rcases g3 i hi with h|h
      ·exact Qi i h
      ·exact .inr (by omega)
     ·show n -((k:Int)+1).toNat < n -((k:Int)).toNat
      omega
  ·have hkn:k=n:=(by omega);subst hkn;have HE:=Hi hE;have HW:=Hi hW;have HU:=Hi hU;have Qi:=Hi hS;clear hE hW hU hS bM Xc c0 c1 c2 c3 c4 cf;go_wp2_with fail;rw[Exit.noGoto_ret];go_ret;rw[HW.out,Nat.sub_self];exact⟨rfl,lk,HE,HU,Qi⟩
theorem mg{w:World}{b:Nat}{D:A8}{fp:Nat→Prop}(h:BI w b D fp)(a:Int)(s:List UInt8)(ha: -9223372036854775808≤a∧a≤9223372036854775807)(hl:s.length≤1000000000)(Hw:D.loose.length+s.length / 64≤1000000000):
  Calls prog 137 #[.pointer (some ⟨b,0,none⟩),.int .i64 a,.string (bs s)] w fun e w'=>e=.returned (.int .i64 (D.write a s).2)∧∃ fp',BI w' b (D.write a s).1 fp'∧A7 fp w w'∧Di fp fp' w:=by
 obtain⟨m,lv,hI,rfl⟩:=h;by_cases hd:D.down=true
 ·have hu:Hid (D.up=40):=Hi (by unfold A8.up;rw[hd];rfl);have hW:D.write a s=(D,40):=by unfold A8.write;rw[Ac hd]
  rw[hW];have HI:=Hi hI;clear hW hd
  go_in
  go_wp2_with fail
  go_step3
  go_wp2_with fail;refine(Ye hI).mono ?_;rw[hu.out];rintro e w1⟨rfl,rfl⟩;go_wp2_with fail;rw[Exit.noGoto_ret];go_ret;exact⟨rfl,_,⟨m,lv,HI,rfl⟩,A7.refl _ _,fun _ h=>.inl h⟩
 ·have Za:D.down=false:=by simpa using hd
  by_cases hc:s.length % 64=0∧D.inside a (s.length / 64:Nat)=true
  ·have hW:D.write a s=A8.writes D a.toNat s (s.length / 64):=(by unfold A8.write;rw[Aa hd,Ac hc]);obtain⟨h1,h2⟩:=hc;have h3:=h2;simp only[A8.inside,Bool.and_eq_true,decide_eq_true_eq] at h3;have e:a=(a.toNat:Int):=(by omega);rw[hW];have hE:=aBs hI a.toNat s Za (s.length / 64) (by omega) (by rw[←e];exact h2) Hw;rw[←e] at hE;refine hE.mono ?_;rintro e w1⟨rfl,sI,g1,g2,g3⟩;exact⟨rfl,_,⟨m,sI,g1,rfl⟩,g2,g3⟩
  ·have hu:Hid (D.up=0):=Hi (by unfold A8.up;rw[Za];rfl);have hW:D.write a s=(D,2):=(by unfold A8.write;rw[Aa hd,Aa hc]);rw[hW];have HI:=Hi hI;by_cases hr:(s.length:Int) % 64=0
   ·have DV:D.inside a (s.length / 64:Nat)=false:=by
     rcases hb:D.inside a (s.length / 64:Nat) with _|_
     ·rfl
     ·exact absurd ⟨by omega,hb⟩ hc
    have Lb:=Hi DV;clear hW hd Za hc DV;have hq:((s.length:Int) / 64)=((s.length / 64:Nat):Int):=(by omega);generalize s.length / 64=n at*;have HR:=Hi hr;have HQ:=Hi hq;clear hr hq
    go_in
    go_wp2_with fail
    go_step3
    go_wp2_with fail;refine(Ye hI).mono ?_;rw[hu.out];rintro e w1⟨rfl,rfl⟩;have hq:=HQ.out;have hr:=HR.out;go_wp2_with fail;refine(abC hI a n (by omega) (by omega) (by omega) (by omega)).mono ?_;rw[Lb.out];rintro e w1⟨rfl,rfl⟩;go_wp2_with fail;rw[Exit.noGoto_ret];go_ret;exact⟨rfl,_,⟨m,lv,HI,rfl⟩,A7.refl _ _,fun _ h=>.inl h⟩
   ·have HR:=Hi hr;clear hW hd Za hc hr
    go_in
    go_wp2_with fail
    go_step3
    go_wp2_with fail;refine(Ye hI).mono ?_;rw[hu.out];rintro e w1⟨rfl,rfl⟩;have hr:=HR.out;go_wp2_with fail;rw[Exit.noGoto_ret];go_ret;exact⟨rfl,_,⟨m,lv,HI,rfl⟩,A7.refl _ _,fun _ h=>.inl h⟩
end
section
section
variable {F:Fence}{n:Nat}{P:Program}{ops:Array Oper}{Q:Exit→Act→World→Prop}{md:Region.Mode}
structure apA(a0:Act)(d m:Nat)(vals:Array Value)(listed:Array Bool)(a:Act):Prop where
 defers:a.defers=a0.defers
 size:a.tmps.size=a0.tmps.size
 out:∀ s,(s < d∨d+m≤s)→a.tmps.getD s undef=a0.tmps.getD s undef
 got:∀ j,j < m→listed.getD j false=true→a.tmps.getD (d+j) undef=vals.getD j undef
theorem pM{α:Type}(xs:Array α)(i j:Nat)(v d:α):(xs.setIfInBounds i v).getD j d=if i=j∧i < xs.size then v else xs.getD j d:=by
 simp only[Array.getD_eq_getD_getElem?,Array.getElem?_setIfInBounds];by_cases h:i=j
 ·subst h;by_cases h2:i < xs.size
  ·simp[h2]
  ·simp[h2]
 ·simp[h]
theorem count_set(xs:Array Bool)(i:Nat)(hi:i < xs.size)(hf:xs.getD i true=false):(xs.setIfInBounds i true).toList.count false+1=xs.toList.count false:=by
 rw[Array.toList_setIfInBounds,List.count_set (by simpa using hi)];have h:xs.toList[i]'(by simpa using hi)=false:=by
  rw[Array.getD_eq_getD_getElem?,Ws hi] at hf;simpa using hf
 have hp:0 < xs.toList.count false:=List.count_pos_iff.2 (by rw[←h];exact Dc _);rw[h]
 show xs.toList.count false -1+0+1=_
 omega
theorem least(p:Nat→Bool):∀ m,p m=false→∃ j,p j=false∧∀ i,i < j→p i=true:=by
 intro m
 induction m using Nat.strongRecOn with
 |_ m ih=>
  intro h;by_cases hx:∃ i,i < m∧p i=false
  ·obtain⟨i,h1,h2⟩:=hx;exact ih i h1 h2
  ·exact⟨m,h,fun i hi=>by
    cases hp:p i with
    |true=>rfl
    |false=>exact absurd ⟨i,hi,hp⟩ hx⟩
def apP(md:Region.Mode)(ops:Array Oper):Bool:=(List.range ops.size).all fun j=>match ops[j]? with|some o=>o.after.all (fun e=>!Region.binds md e || decide (e.on < j))|none=>true
def lastB(md:Region.Mode)(ops:Array Oper)(m:Nat):Bool:=(List.range m).all fun j=>match ops[m]? with|some o=>o.after.any (fun e=>Region.binds md e && decide (e.on=j))|none=>true
theorem aBn{a0:Act}{W:World}{d m:Nat}{vals:Array Value}(JJ:ops.size=m+1)(hd:d+m≤a0.tmps.size)
  (hops:∀ j,j < m→∃ o,ops[j]?=some o∧o.dst=some (d+j)∧o.guard=none)
  (atO:apP md ops=true)(auL:lastB md ops m=true)
  (hrun:∀ j,j < m→∀ o,ops[j]?=some o→∀ a:Act,a.defers=a0.defers→(∀ s,(s < d∨d+m≤s)→a.tmps.getD s undef=a0.tmps.getD s undef)→
   (∀ e∈o.after,Region.binds md e=true→a.tmps.getD (d+e.on) undef=vals.getD e.on undef)→(∀ f,o.about P W a.eval=some f→F.fn f)∧(o.semAt F.round a.eval).run P W=.ok (.value (vals.getD j undef)) W)
  (hfin:∀ a:Act,a.defers=a0.defers→a.tmps.size=a0.tmps.size→(∀ s,(s < d∨d+m≤s)→a.tmps.getD s undef=a0.tmps.getD s undef)→(∀ j,j < m→a.tmps.getD (d+j) undef=vals.getD j undef)→wpOpIn F n P ops Q m (fun a' w'=>Q .normal a' w') a W):
  wpAnyIn F n P md ops Q ops.size (Array.replicate ops.size false) a0 W:=by
 have qC:∀ j o,ops[j]?=some o→∀ e∈o.after,Region.binds md e=true→e.on < j:=by
  intro j o ho e he hb;have hj:=(Dm.1 ho).1;have:=Mr.1 atO j (List.mem_range.2 hj);rw[ho] at this;have h2:=(Array.all_eq_true_iff_forall_mem.1 this) e he;simpa[hb] using h2
 have dA:∀ o,ops[m]?=some o→∀ j,j < m→∃ e∈o.after,Region.binds md e=true∧e.on=j:=by
  intro o ho j hj;have:=Mr.1 auL j (List.mem_range.2 hj);rw[ho] at this;have h2:o.after.any (fun e=>Region.binds md e && decide (e.on=j))=true:=this;rw[Array.any_eq_true] at h2;obtain⟨i,hi,h3⟩:=h2;exact⟨_,Array.getElem_mem hi,by simpa using h3⟩
 have main:∀ (fuel:Nat) (listed:Array Bool) (a:Act),listed.size=m+1→listed.toList.count false=fuel→listed.getD m true=false→apA a0 d m vals listed a→wpAnyIn F n P md ops Q fuel listed a W:=by
  intro fuel
  induction fuel with
  |zero=>
   intro listed a hs hc hm _;exfalso;rw[List.count_eq_zero] at hc;apply hc;rw[Array.getD_eq_getD_getElem?,Ws (by omega)] at hm;have:listed[m]'(by omega)=false:=(by simpa using hm);rw[←this];exact Array.mem_toList_iff.2 (Array.getElem_mem _)
  |succ fuel ih=>
   intro listed a hs hc hm hR;have hex:∃ i,i∈Region.ready md ops listed:=by
    obtain⟨j,hj,auV⟩:=least (fun j=>listed.getD j true) m hm;have hjs:j < m+1:=by
     rcases Nat.lt_or_ge j (m+1) with h|h
     ·exact h
     ·rw[Array.getD_eq_getD_getElem?,Array.getElem?_eq_none (by omega)] at hj;simp at hj
    refine⟨j,mem_ready.2 ⟨hj,ops[j]'(by omega),Ws _,fun e he hb=>?_⟩⟩;have hlt:=qC j _ (Ws (by omega)) e he hb;have:=auV e.on hlt;rw[Array.getD_eq_getD_getElem?,Ws (by omega)] at this ⊢;simpa using this
   refine⟨fun h0=>by obtain⟨i,hi⟩:=hex;rw[h0] at hi;exact(List.not_mem_nil hi).elim,fun i hi=>?_⟩;obtain⟨Tq,o,ho,hall⟩:=mem_ready.1 hi;have his:i < m+1:=by
    have:=(Dm.1 ho).1;omega
   by_cases qU:i < m
   ·obtain⟨o',RD,auc,hg⟩:=hops i qU;obtain rfl:o'=o:=(by rw[ho] at RD;exact(Gu RD).symm);have Rz:∀ j,j < m→listed.getD j false=true→a.tmps.getD (d+j) undef=vals.getD j undef:=hR.got
    obtain⟨hab,VO⟩:=hrun i qU o' ho a hR.defers hR.out (fun e he hb=>by
     have h1:=hall e he hb;have h2:=qC i o' ho e he hb;exact Rz e.on (by omega) h1)
    unfold wpOpIn;simp only[ho];rw[Ac (by simp[Region.wanted,hg])];refine⟨hab,?_⟩;rw[VO];simp only[Oper.uponIn];have Oq:=count_set listed i (by omega) Tq;refine ih _ _ (by rw[Array.size_setIfInBounds];exact hs) (by omega) ?_ ?_
    ·rw[pM,Aa (by omega)];exact hm
    ·rw[auc];refine⟨hR.defers,?_,?_,?_⟩
     ·simp only[Act.put,Array.size_setIfInBounds];exact hR.size
     ·intro s hsx;simp only[Act.put];rw[pM,Aa (by omega)];exact hR.out s hsx
     ·intro j hj hl;simp only[Act.put];rw[pM] at hl ⊢;by_cases qR:i=j
      ·subst qR;rw[Ac ⟨rfl,by rw[hR.size];omega⟩]
      ·rw[Aa (by omega)];rw[Aa (by omega)] at hl;exact hR.got j hj hl
   ·obtain rfl:i=m:=(by omega);have ahz:∀ j,j < i→listed.getD j false=true:=fun j hj=>by
     obtain⟨e,he,hb,rfl⟩:=dA o ho j hj;exact hall e he hb
    refine wpOpIn_mono ?_ (hfin a hR.defers hR.size hR.out (fun j hj=>hR.got j hj (ahz j hj)));intro a' w' hq;have Oq:=count_set listed i (by omega) Tq;have rC:Region.ready md ops (listed.setIfInBounds i true)=[]:=by
     rw[UW];intro j hj;obtain⟨Xx,oj,dJ,_⟩:=mem_ready.1 hj;have hjs:=(Dm.1 dJ).1;rw[pM] at Xx;by_cases qR:i=j
     ·rw[Ac ⟨qR,by omega⟩] at Xx;cases Xx
     ·rw[Aa (by omega)] at Xx;have:=ahz j (by omega);rw[Array.getD_eq_getD_getElem?,Ws (by omega)] at this Xx;simp at this Xx;rw[this] at Xx;cases Xx
    cases fuel with
    |zero=>exact⟨rC,hq⟩
    |succ fuel=>exact⟨fun _=>hq,fun j hj=>by rw[rC] at hj;cases hj⟩
 refine main ops.size _ a0 (by simp[JJ]) (by simp) ?_ ⟨rfl,rfl,fun _ _=>rfl,fun j hj hl=>?_⟩
 ·rw[Array.getD_eq_getD_getElem?,Array.getElem?_replicate,Ac (by omega)];rfl
 ·rw[Array.getD_eq_getD_getElem?,Array.getElem?_replicate,Ac (by omega)] at hl;cases hl
end
end
section
open Go.RowKit Go.Maps Go.Shelf
attribute [local go_sem] O4
def acg(p:Value):Sem Value:=Instr.loadAt 242 p
theorem alK(p:Value):Instr.loadAt 242 p=acg p:=rfl
def alG(p v:Value):Sem Unit:=Instr.storeAt 242 p v
theorem alL(p v:Value):Instr.storeAt 242 p v=alG p v:=rfl
theorem alC{W:World}{g o:Nat}{p:Nat×List UInt8}(h:p.2.length=64)(hr:W.rangeAt g o (Value.int .i64 (p.1:Int) :: Cc p.2)):(acg (.pointer (some ⟨g,o,none⟩))).run prog W=.ok (.agg (putRow p)) W:=by
 have:=run_loadAt_mid (P:=prog) W g o 242 _ _ hr underlying242 rfl (u7 p h);rw[u6] at this;exact this
theorem ay3(W:World){p:Nat×List UInt8}(h:p.2.length=64):(acg (.pointer (some ⟨W.heap.size,0,none⟩))).run prog (W.alloc (.cells (putRow p) 242))=.ok (.agg (putRow p)) (W.alloc (.cells (putRow p) 242)):=by
 refine alC h (fun j v hv=>?_);rw[GJ,E8,←Dx,ZQ];exact hv
theorem alH(W:World){p:Nat×List UInt8}(h:p.2.length=64)(Z:Array Value)(hZ:Z.size=65):(alG (.pointer (some ⟨W.heap.size,0,none⟩)) (.agg (putRow p))).run prog (W.alloc (.cells Z 242))=.ok () (W.alloc (.cells (putRow p) 242)):=
 run_storeAt_new W _ Z (putRow p) (uf p h) (by rw[hZ,ack p h]) (tX p)
attribute [local go_sem ↓] alK alL
abbrev Item(N:Nat):={ p:Nat×List UInt8 // p.1 < N∧p.2.length=64 }
def encI{N:Nat}(x:Item N):Array Value:=#[.agg (putRow x.1)]
def apr(m n₀ k:Nat):Prop:=k=m∨n₀≤k
def Kp(m n₀:Nat)(W W':World):Prop:=A7 (apr m n₀) W W'
theorem abK{m n₀:Nat}{A B C:World}(h:Kp m n₀ A B)(k:Kp m n₀ B C):Kp m n₀ A C:=h.trans k (fun _ h=>.inl h)
theorem aw6{m n₀ M:Nat}(hM:n₀≤M):∀ (W:World) (l:Nat) (o o':Obj),M≤l→W.heap[l]?=some o→o.isCells=false→o.isWalk=false→Kp m n₀ W (W.putObj l o'):=fun W l o o' h _ _ _=>by
 have hg:=grownBy_putObj' W l o';exact A7.of_grownBy hg (fun k e=>.inr (by cases e;omega))
structure aU(m n₀:Nat)(W:World)(lv:Value)(L:List (Nat×List UInt8)):Prop where
 row:W.ownsRow 0 242 65 lv L.length (NW L)
 old:∀ g,lv.ownBlock=some g→g < n₀∧g≠m
 len:∀ p∈L,p.2.length=64
theorem aU.upd{m n₀:Nat}{W W':World}{lv:Value}{L:List (Nat×List UInt8)}(h:aU m n₀ W lv L)(hk:Kp m n₀ W W'):aU m n₀ W' lv L:=
 ⟨BH h.row hk (fun g hg f=>by obtain⟨h1,h2⟩:=h.old g hg;rcases f with f|f;exact h2 f;omega),h.old,h.len⟩
theorem values_in(F:Fence)(n:Nat)(hf:F.fn 211)(hro:F.round=none)(a:Option Addr)(len cap:Nat)(w:World):
  CallsIn F n prog 211 #[.slice a len cap] w fun e w'=>e=.returned (.func (.func 260) #[] #[.pointer (some ⟨w.heap.size,0,none⟩)])∧w'=w.alloc (.cells #[.slice a len cap] 142):=by
 refine callsIn_of_wp func211 rfl hf ?_ hro;simp only[ntmps211,Kr,BN,Iu,Nat.reduceAdd,Nat.reduceSub,Mm,Mq,Mv,Ms,Ev,Hf]
 gi_wp2
 go_ret;exact⟨rfl,rfl⟩
theorem values_stops(F:Fence)(n:Nat)(hf:F.fn 260)(hro:F.round=none)(hn:1≤n)(N m n₀ Bs:Nat)(lv:Value)(L:List (Item N))(w:World)(hc:w.cell? ⟨Bs,0,none⟩=some lv)(hL:aU m n₀ w lv (L.map (·.1)))(hlen:L.length≤1000000000):
  SeqStopsK F n prog 260 #[.pointer (some ⟨Bs,0,none⟩)] (encI (N:=N)) (Kp m n₀) (fun ys=>ys=L) (fun _=>True) L.length w:=fun l J Jx W hW hJ _ hY h0=>by
 have Oq:=(hW.cell (p:=⟨Bs,0,none⟩) (D7 hc)).trans hc;have hL':aU m n₀ W lv (L.map (·.1)):=⟨BH hL.row (ub hW) (fun _ _ f=>f),hL.old,hL.len⟩;obtain⟨q,cap,rfl⟩:∃ q cap,lv=.slice q L.length cap:=by
  rcases hL.row.2 with⟨e1,e2⟩|⟨g,cap,_,e1,_⟩
  ·rw[Ca] at e2;exact⟨none,0,by rw[e1,e2]⟩
  ·rw[Ca] at e1;exact⟨_,cap,e1⟩
 have HL:=Hi hL';clear hL hL' hc;refine callsIn_of_wp func260 rfl hf ?_ hro;simp only[ntmps260,Kr,BN,Iu,Nat.reduceAdd,Nat.reduceSub,Mm,Mq,Mv,Ms,Ev,Hf]
 gi_wp2
 gi_loopw [7] (fun i wr=>∃ k:Nat,k≤L.length∧i=.int .i64 k∧J (L.take k) wr∧Kp m n₀ W wr)
  (fun i _=>L.length -(intOf i).toNat)
 case atStart=>exact⟨0,AZ _,rfl,by rw[I8];exact h0,A7.refl _ _⟩
 case round=>
  obtain⟨k,hk,rfl,Rs,Gn⟩:=hrel;by_cases hlt:k < L.length
  ·have Rz:=(HL.upd Gn).row;obtain⟨g,rfl⟩:∃ g,q=some ⟨g,0,none⟩:=by
    rcases Rz.2 with⟨e1,e2⟩|⟨g,cap,_,e1,_⟩
    ·rw[Ca] at e2;omega
    ·exact⟨g,by injection e1⟩
   have Jn:k < (L.map (·.1)).length:=(by rw[Ca];exact hlt);have hr:=akv (by rw[Ca] at Rz ⊢;exact Rz) HL.len k Jn;have Jm:=IM prog 142 242 underlying142 65 alJ ⟨g,0,none⟩ L.length cap k hlt;have iP:(⟨g,0,none⟩:Addr).add (k*65)=⟨g,k*65,none⟩:=(by unfold Addr.add;split<;>simp_all);rw[iP] at Jm;rw[List.getElem_map] at hr;have VT:L.take (k+1)=L.take k++[L[k]]:=(by rw[List.take_add_one,Ei hlt];rfl);have CX:=Hi VT;have GR:=alC L[k].2.2 hr;have PR:=alH wr L[k].2.2 Tryz.zeroCells242 ug;have GU:=ay3 wr L[k].2.2;generalize L[k]=x at*;have hJ':J (L.take k) (wr.alloc (.cells (putRow x.1) 242)):=hJ _ _ _ none Rs (World.grownBy_alloc _ _ none) (fun r e=>by cases e);obtain⟨fn,tmps,assign,body,hy,hR⟩:=hY _ x _ hJ' (by rw[Be];omega);unfold encI at hy;have Dh:=Hi Gn;clear hr Rz iP VT Gn Rs
   gi_wp2
   refine hR.mono ?_;rintro e W3 (⟨rfl,hJ3,Xy⟩|⟨rfl,aa2⟩)
   ·gi_wp2
    go_roundw
    case rel=>
     have h1:Kp m n₀ wr (wr.alloc (.cells (putRow x.1) 242)):=(A7.refl _ wr).alloc _;exact⟨k+1,by omega,by simp,by rw[CX.out];exact hJ3,abK Dh (abK h1 Xy)⟩
    case measure=>simp[intOf];omega
   ·gi_wp2
    refine EI (results_none rfl _ _ _) rfl ?_;exact⟨⟨_,rfl⟩,.inr ⟨_,trivial,aa2⟩⟩
  ·obtain rfl:k=L.length:=by omega
   gi_wp2
   go_end0
   exact⟨⟨_,rfl⟩,.inl ⟨_,rfl,by rw[Dq] at Rs;exact Rs⟩⟩
end
section
open Go.RowKit Go.Maps Go.Shelf
attribute [local go_sem] O4
attribute [local go_sem ↓] alK alL acI
def laid(D:A8)(pre:List (Item D.n)):A8:={ D with base:=A8.lay D.base (pre.map (·.1)) }
theorem akf(D:A8)(pre:List (Item D.n))(x:Item D.n):laid D (pre++[x])={ laid D pre with base:=fun k=>if k=x.1.1 then x.1.2 else(laid D pre).base k }:=by
 unfold laid;rw[D6,Ce,Kq,A8.akj]
theorem awi{D:A8}(h:D.BX)(pre:List (Item D.n)):(laid D pre).BX:=
 ⟨h.n1,h.n2,A8.kM h.base (fun p hp=>by obtain⟨y,_,rfl⟩:=BA.1 hp;exact y.2),h.loose,h.left⟩
theorem F9.put{w:World}{b m:Nat}{lv:Value}{D:A8}(h:F9 w b m lv D){f:Nat→List UInt8}{w':World}(hs:Ny w' m D.n f)(hg:w.grownBy w' (some m))(hf:A8.BX { D with base:=f }):F9 w' b m lv { D with base:=f }:=by
 have hu:A7 (fun k=>k=m) w w':=A7.of_grownBy hg (fun k e=>by cases e;rfl);refine⟨?_,hs,BH h.loose hu (fun g Ox e=>h.lm (by rw[Ox,e])),h.mb,h.lb,h.lm,hf⟩;rw[hu.block b (Dm.1 h.struct).1 (Ne.symm h.mb)];exact h.struct
theorem azn{W:World}{g o:Nat}{x:List UInt8}(h:x.length=64)(hr:W.rangeAt g o (Cc x)):(acH (.pointer (some ⟨g,o,none⟩))).run prog W=.ok (.agg (Db x)) W:=by
 have:=run_loadAt_mid (P:=prog) W g o 240 _ _ hr underlying240 rfl (lI x h);rw[fC] at this;exact this
theorem awl{w:World}{b m:Nat}{lv:Value}{D:A8}(h:F9 w b m lv D){gf:Nat}{lb:Array Value}(he:∀ args w,(callFunc gf args).run prog w=.ok (.enter gf args) w){n₀:Nat}(av2:n₀≤w.heap.size){L:List (Item D.n)}{N n:Nat}(hn:3≤n)
  (hs:SeqStopsK Fence.wide (n -1) prog gf lb (encI (N:=D.n)) (Kp m n₀) (fun ys=>ys=L) (fun _=>True) N w):
  CallsIn Fence.wide n prog 75 #[.pointer (some ⟨b,0,none⟩),.func (.func gf) #[] lb] w fun e w'=>(∃ v,e=.returned v)∧F9 w' b m lv (laid D L)∧A7 (fun k=>k=m) w w':=by
 have h1:1≤n:=by omega
 have QA:prog.follows .mixedOrders=true:=by kernel_rfl
 have PI:=h.fine;have HD:=Hi h;have hb:b < w.heap.size:=(Dm.1 h.struct).1;have hm:m < w.heap.size:=h.base.lt;clear h;refine callsIn_of_wp_marks func75 rfl trivial ?_ rfl;simp only[ntmps75,Kr,BN,Iu,Nat.reduceAdd,Nat.reduceSub,Mm,Mq,Mv,Ms,Ev,Hf]
 gi_wp2
 have Z5:=Boxed.new w 70 (.pointer (some ⟨b,0,none⟩));have hU0:A7 (fun k=>k=m) w (w.alloc (.cells #[.pointer (some ⟨b,0,none⟩)] 70)):=(A7.refl _ w).alloc _;have hD0:F9 (w.alloc (.cells #[.pointer (some ⟨b,0,none⟩)] 70)) b m lv (laid D []):=HD.upd ((A7.refl (fun _=>False) w).alloc _) (fun _ _ f=>f);have BL:(w.alloc (.cells #[.pointer (some ⟨b,0,none⟩)] 70)).heap.size=w.heap.size+1:=Ar _ _;refine wpIn_rangeFunc_ownH rfl h1 (gf:=gf) (lb:=lb) rfl trivial he hs abK (aw6 (by omega)) ((Ah _ w).alloc (Ae _) _) (fun _=>rfl)
  (fun pre W=>(F9 W b m lv (laid D pre)∧Boxed W w.heap.size 70 (.pointer (some ⟨b,0,none⟩)))∧A7 (fun k=>k=m) w W)
  (fun _ _ _=>False)
  (fun s A B row hs hg hr=>?hown)
  (fun _ _ _ _ _ hs _ _=>hs)
  ⟨⟨hD0,Z5⟩,hU0⟩
  (fun x a' W=>∃ Bx,w.heap.size < Bx∧W.heap[Bx]?=some (.cells (putRow x.1) 242 (0,0))∧a'={ tmps:=#[.pointer (some ⟨b,0,none⟩),.func (.func gf) #[] lb,.pointer (some ⟨w.heap.size,0,none⟩),undef,.pointer (some ⟨Bx,0,none⟩),.func (.func gf) #[] lb,.agg (putRow x.1),undef,undef,undef,undef,undef,undef,undef,undef],defers:=[] })
  (fun x a' _ X Y row hs hg hr=>?hAx)
  ?assign ?body ?done ?stop
 case hown=>
  have hu:A7 (fun k=>w.heap.size+1≤k) A B:=A7.of_grownBy hg (fun k e=>by have:=(hr k e).1;omega);obtain⟨⟨g1,g2⟩,g3⟩:=hs;refine⟨⟨g1.upd hu (fun k hk=>?_),g2.kept hg (fun e=>?_)⟩,g3.trans hu (fun i hi=>.inr (by omega))⟩
  ·rcases hk with rfl|rfl|hk
   ·omega
   ·omega
   ·have:=ZP HD.loose hk;omega
  ·have:=(hr _ e.symm).1;omega
 case hAx=>
  obtain⟨Bx,g1,g2,g3⟩:=hs;refine⟨Bx,g1,(hg.block Bx (Dm.1 g2).1 (fun e=>?_)).trans g2,g3⟩;obtain⟨_,o,ho,hc⟩:=hr Bx e.symm;rw[g2] at ho;cases ho;cases hc
 case assign=>
  rintro l pre x W K⟨⟨hD,hB⟩,hU⟩ hK;have PR:=alH W x.2.2 Tryz.zeroCells242 ug;unfold encI
  gi_wp2
  exact hK _ _ ((KeepsOthers.alloc _ _).from _) ((A7.refl _ W).alloc _) ⟨⟨hD.upd ((A7.refl (fun _=>False) W).alloc _) (fun _ _ f=>f),hB.alloc _⟩,hU.alloc _⟩ ⟨W.heap.size,hB.lt,World.alloc_heap_new W _,rfl⟩
 case body=>
  rintro l pre x a' W hl⟨r,hr⟩ ⟨⟨hD,hB⟩,hU⟩ ⟨Bx,Ik,hx,rfl⟩ hlt;have c0:=hB.cell;obtain⟨_,c1,_,_,_,_⟩:=hD.cells;have RI:W.cell? ⟨Bx,0,none⟩=some (.int .i64 (x.1.1:Int)):=by rw[BF W Bx 0 _ _ _ hx];exact alF x.1
  have hxs:W.rangeAt Bx 1 (Cc x.1.2):=fun j v hv=>by
   rw[BF W Bx (1+j) _ _ _ hx,←Dx,ZQ,Nat.add_comm 1 j];exact hv
  have hls:=azn (W:=W.drew) x.2.2 (fun j v hv=>hxs j v hv);obtain⟨w2,dM,qp,El⟩:=Ny.put (w:=W.drew) (hD.base.kept rfl) x.1.1 x.2.1 (by exact hD.fine.n2) x.1.2
  gi_wp2
  refine wpIn_region_any QA ?_;refine aBn (m:=8) (d:=7) (vals:=#[.pointer (some ⟨b,0,none⟩),.pointer (some ⟨b,0,none⟩),.pointer (some ⟨b,1,none⟩),.map (some m),.pointer (some ⟨Bx,0,none⟩),.int .i64 (x.1.1:Int),.pointer (some ⟨Bx,1,none⟩),.agg (Db x.1.2)]) rfl (by simp) ?hops (by kernel_rfl) (by kernel_rfl) ?hrun ?hfin
  case hops=>
   intro j hj;have:j=0∨j=1∨j=2∨j=3∨j=4∨j=5∨j=6∨j=7:=(by omega);rcases this with rfl|rfl|rfl|rfl|rfl|rfl|rfl|rfl<;>exact⟨_,rfl,rfl,rfl⟩
  case hrun=>
   intro j hj;have:j=0∨j=1∨j=2∨j=3∨j=4∨j=5∨j=6∨j=7:=(by omega);have a2:∀ a:Act,(∀ s,(s < 7∨7+8≤s)→a.tmps.getD s undef=(#[Value.pointer (some ⟨b,0,none⟩),.func (.func gf) #[] lb,.pointer (some ⟨w.heap.size,0,none⟩),undef,.pointer (some ⟨Bx,0,none⟩),.func (.func gf) #[] lb,.agg (putRow x.1),undef,undef,undef,undef,undef,undef,undef,undef]:Array Value).getD s undef)→a.tmps.getD 2 undef=.pointer (some ⟨w.heap.size,0,none⟩)∧a.tmps.getD 4 undef=.pointer (some ⟨Bx,0,none⟩):=fun a h=>⟨h 2 (by omega),h 4 (by omega)⟩
   rcases this with rfl|rfl|rfl|rfl|rfl|rfl|rfl|rfl<;>(intro o ho;cases ho;intro a _ hout DV;obtain⟨t2,t4⟩:=a2 a hout;simp[Region.binds] at DV;refine⟨fun f hf=>(by simp[Oper.about] at hf),?_⟩;simp[go_sem, *])
  case hfin=>
   intro a hdf aDa hout qM;have t10:=qM 3 (by omega);have t12:=qM 5 (by omega);have t14:=qM 7 (by omega);clear qM hout;simp at t10 t12 t14;unfold wpOpIn;simp[Region.wanted,Oper.wpIn,go_sem,t10,t12,t14,dM];have hD1:F9 W.drew b m lv (laid D pre):=hD.upd ((A7.refl (fun _=>False) W).drew) (fun _ _ f=>f);have hfin:(laid D (pre++[x])).BX:=awi PI _;rw[akf] at hfin;have qd:=hD1.put qp El hfin;rw[←akf] at qd;have Eu:A7 (fun k=>k=m) W w2:=((A7.refl _ W).drew).trans (A7.of_grownBy (F:=fun k=>k=m) El (fun k e=>by cases e;rfl)) (fun _ h=>.inl h);refine⟨?_,Eu.mono (fun i e=>.inl e),⟨qd,?_⟩,hU.trans Eu (fun _ h=>.inl h)⟩
   ·exact((KeepsOthers.drew W).from _).trans (KeepsFrom.of_grownBy El (fun j e=>by cases e;omega))
   ·exact(Eu.block _ hB.lt (by omega)).trans hB
 case done=>
  rintro DD ys W hDD rfl⟨⟨hD,hB⟩,hU⟩ hK
  gi_wp2
  refine⟨by simp,.inl ⟨_,_,rfl,run_takeDeferred hK,?_⟩⟩;have hu:A7 (fun k=>k=DD) W (W.putObj DD (.deferred none)):=A7.of_grownBy (grownBy_putObj' W DD (.deferred none)) (fun k e=>by cases e;rfl);refine⟨_,results_none rfl _ _ _,⟨_,rfl⟩,hD.upd hu (fun k hk e=>?_),hU.trans hu (fun i hi=>.inr (by omega))⟩;subst e;rcases hk with rfl|rfl|hk
  ·omega
  ·omega
  ·have:=ZP HD.loose hk;omega
 case stop=>
  rintro DD c pre W _ _ h _;exact h.elim
end
section
open Go.RowKit Go.Maps Go.Shelf
theorem ak0{N:Nat}:∀ (l:List (Nat×List UInt8)),(∀ p∈l,p.1 < N∧p.2.length=64)→∃ L:List (Item N),L.map (·.1)=l
 |[],_=>⟨[],rfl⟩
 |p :: l,h=>by
  obtain⟨L,hL⟩:=ak0 l (fun q hq=>h q (GI _ hq));exact⟨⟨p,h p Hg⟩ :: L,by rw[Ce,hL]⟩
theorem F9.looseAt{w:World}{b m:Nat}{lv:Value}{D:A8}(h:F9 w b m lv D):aU m w.heap.size w lv D.loose:=
 ⟨h.loose,fun _ hg=>⟨ZP h.loose hg,fun e=>h.lm (by rw[hg,e])⟩,fun p hp=>(h.fine.loose p hp).2⟩
theorem F9.drop{w:World}{b m:Nat}{lv:Value}{D:A8}(h:F9 w b m lv D):F9 (w.setCell ⟨b,2,none⟩ (.slice none 0 0)) b m (.slice none 0 0) { D with loose:=[] }:=by
 have hu:A7 (fun k=>k=b) w (w.setCell ⟨b,2,none⟩ (.slice none 0 0)):=(A7.refl (fun k=>k=b) w).setCell (p:=⟨b,2,none⟩) (.inl rfl) _;refine⟨?_,h.base.kept (hu.block m h.base.lt h.mb),?_,h.mb,by simp[Value.ownBlock],by simp[Value.ownBlock],⟨h.fine.n1,h.fine.n2,h.fine.base,fun p hp=>by simp at hp,h.fine.left⟩⟩
 ·exact Cf w b 2 _ _ (.slice none 0 0) h.struct
 ·show World.ownsRow _ 0 _ 65 (.slice none 0 0) 0 _
  rw[akt];exact E5 _ _ _ _
theorem aB3(a:Option Addr)(len cap:Nat)(w:World):
  Calls prog 211 #[.slice a len cap] w fun e w'=>e=.returned (.func (.func 260) #[] #[.pointer (some ⟨w.heap.size,0,none⟩)])∧w'=w.alloc (.cells #[.slice a len cap] 142):=
 Dr.1 (values_in Fence.wide 3 trivial rfl a len cap w)
theorem awn{w:World}{b m:Nat}{q:Option Addr}{cap:Nat}{D:A8}(h:F9 w b m (.slice q D.loose.length cap) D)(hlen:D.loose.length≤1000000000):
  Calls prog 75 #[.pointer (some ⟨b,0,none⟩),.func (.func 260) #[] #[.pointer (some ⟨w.heap.size,0,none⟩)]] (w.alloc (.cells #[.slice q D.loose.length cap] 142)) fun e w'=>(∃ v,e=.returned v)∧F9 w' b m (.slice q D.loose.length cap) { D with base:=A8.lay D.base D.loose }∧A7 (fun k=>k=m) w w':=by
 obtain⟨L,hL⟩:=ak0 (N:=D.n) D.loose h.fine.loose;have hb:=(Ah w.heap.size w).alloc (Ae _) (.cells #[.slice q D.loose.length cap] 142);have h':=h.below hb;have Z5:=Boxed.new w 142 (.slice q D.loose.length cap);have FN:L.length=D.loose.length:=by rw[←hL,Ca]
 have hs:=values_stops Fence.wide 2 trivial rfl (by omega) D.n m (w.alloc (.cells #[.slice q D.loose.length cap] 142)).heap.size w.heap.size (.slice q D.loose.length cap) L _ Z5.cell (by rw[hL];exact h'.looseAt) (by omega);refine(Dr.1 (awl h' (enters_of func260 (by kernel_rfl) rfl) (Ae _) (n:=3) (by omega) hs)).mono ?_;rintro e w'⟨g1,g2,g3⟩;refine⟨g1,?_,(A7.of_below hb).trans g3 (fun _ h=>.inl h)⟩;unfold laid at g2;rw[hL] at g2;exact g2
theorem pg{w:World}{b:Nat}{D:A8}{fp:Nat→Prop}(h:BI w b D fp)(hlen:D.loose.length≤1000000000):
  Calls prog 143 #[.pointer (some ⟨b,0,none⟩)] w fun e w'=>e=.returned (.int .i64 D.flush.2)∧∃ fp',BI w' b D.flush.1 fp'∧A7 fp w w'∧Di fp fp' w:=by
 obtain⟨m,lv,hI,rfl⟩:=h;have HI:=Hi hI;by_cases hd:D.down=true
 ·have hu:Hid (D.up=40):=Hi (by unfold A8.up;rw[hd];rfl);have hF:D.flush=(D,40):=by unfold A8.flush;rw[Ac hd]
  rw[hF];clear hF hd
  go_in
  go_wp2_with fail;refine(Ye hI).mono ?_;rw[hu.out];rintro e w1⟨rfl,rfl⟩;go_wp2;go_ret;exact⟨rfl,_,⟨m,lv,HI,rfl⟩,A7.refl _ _,fun _ h=>.inl h⟩
 ·have Za:D.down=false:=by simpa using hd
  have hu:Hid (D.up=0):=Hi (by unfold A8.up;rw[Za];rfl);have hF:D.flush=({ D with base:=A8.lay D.base D.loose,loose:=[] },0):=by unfold A8.flush;rw[Aa hd]
  rw[hF];clear hF hd Za;obtain⟨q,cap,rfl⟩:∃ q cap,lv=.slice q D.loose.length cap:=by
   rcases hI.loose.2 with⟨e1,e2⟩|⟨g,cap,_,e1,_⟩
   ·exact⟨none,0,by rw[e1,e2]⟩
   ·exact⟨_,cap,e1⟩
  obtain⟨_,_,c2,_,_,_⟩:=hI.cells
  go_in
  go_wp2_with fail;refine(Ye hI).mono ?_;rw[hu.out];rintro e w1⟨rfl,rfl⟩;go_wp2_with fail;refine(aB3 _ _ _ _).mono ?_;rintro e w1⟨rfl,rfl⟩;go_wp2_with fail;refine(awn HI hlen).mono ?_;rintro e w1⟨⟨v,rfl⟩,hD,hU⟩;have HD:=Hi hD;have HU:=Hi hU;obtain⟨_,_,d2,_,_,df⟩:=hD.cells;have df2:=df 2;clear hI hD hU df c2;go_wp2;go_ret;refine⟨rfl,_,⟨m,_,HD.drop,rfl⟩,(HU.mono (fun _ e=>.inr (.inl e))).setCell (p:=⟨b,2,none⟩) (.inl (.inl rfl)) _,?_⟩;rintro k (rfl|rfl|hk)
  ·exact .inl (.inl rfl)
  ·exact .inl (.inr (.inl rfl))
  ·simp[Value.ownBlock] at hk
end
section
open Go.RowKit Go.Maps Go.Shelf
end
section
open Go.RowKit Go.Maps
theorem ank(w:World)(n:Nat)(hn:n≤1000000000):∃ C,(Instr.makeSlice 54 (.int .i64 (n:Int)) (.int .i64 (n:Int))).run prog w=.ok (.slice (some ⟨w.heap.size,0,none⟩) n n) (w.alloc (.cells C 5))∧
  BytesAt (w.alloc (.cells C 5)) w.heap.size (List.replicate n 0):=by
 have Zg:(prog.info? 5).map (fun i=>(i.zero,i.size,i.bytes))=some (some (.int .u8 0),1,1):=by kernel_rfl
 obtain⟨i0,hi,AX,AY,Ba⟩:=DI Zg;have hrun:=run_make (P:=prog) w 54 5 i0 _ underlying54 hi AX .i64 .i64 n n (by omega) (Int.le_refl _) (by rw[Ba];omega) (by omega);rw[Int.toNat_natCast] at hrun;refine⟨_,hrun,afk w _ _ _ (fun i hi=>?_)⟩;rw[List.length_replicate] at hi;rw[AY,List.getElem_replicate];simp[madeCells,Value.cells];exact⟨i,by rw[Array.getElem?_range,Ac hi],by rw[Nat.mod_one];rfl⟩
theorem Bp{w:World}{base e s:Nat}{v:Value}{n:Nat}{xs:List Value}(h:w.ownsRow base e s v n xs):∃ q cap,v=.slice q n cap:=by
 rcases h.2 with⟨e1,e2⟩|⟨g,cap,_,e1,_⟩
 ·exact⟨none,0,by rw[e1,e2]⟩
 ·exact⟨_,cap,e1⟩
theorem Ch{w w':World}{base e s:Nat}{v:Value}{n:Nat}{xs:List Value}(h:w.ownsRow base e s v n xs)(hb:Bw w w'):w'.ownsRow base e s v n xs:=BH h (ub hb) (fun _ _ f=>f)
end
section
open Go.RowKit Go.Maps
@[irreducible] def strCells (l:List (List UInt8)):List Value:=l.map fun s=>Value.string (bs s)
theorem strCells_length(l:List (List UInt8)):(strCells l).length=l.length:=by unfold strCells;simp
theorem Y8(l:List (List UInt8))(i:Nat)(h:i < l.length):(strCells l)[i]?=some (.string (bs l[i])):=by
 unfold strCells;rw[O3,Ei h];rfl
theorem RV(l:List (List UInt8))(s:List UInt8):strCells (l++[s])=strCells l++[.string (bs s)]:=by unfold strCells;simp
theorem acQ(l:List (List UInt8)):∀ u∈strCells l,u.oneCell'=true:=by
 intro u hu;unfold strCells at hu;obtain⟨s,_,rfl⟩:=BA.1 hu;rfl
@[irreducible] def aDw (l:List (Nat×List UInt8)):List Value:=l.flatMap fun p=>[Value.int .i64 (p.1:Int),.string (bs p.2)]
end
section
open Go.RowKit Go.Maps
end
section
open Go.RowKit Go.Maps
theorem acR:(prog.info? 9).map (fun i=>(i.zero,i.size,i.bytes))=some (some (.string ByteArray.empty),1,16):=by kernel_rfl
end
section
open Go.RowKit Go.Maps
end
section
open Go.RowKit Go.Maps
end
section
open Go.RowKit Go.Maps
end
section
open Go.RowKit Go.Maps
end
section
open Go.RowKit Go.Maps
end
section
open Go.RowKit Go.Maps
end
section
open Go.RowKit Go.Maps
end
section
open Go.RowKit Go.Maps
