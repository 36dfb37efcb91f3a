/- DiskRW Rounds DiskF DiskFill Copies Ref Oct StrHeap -/
import Derived.Test.YtkmninbcgipliaaGreatDoorW0
import Derived.Deep.RegionHeld3
import Derived.Deep.RegionLaw
import Derived.Deep.AppendLies
import Derived.OrdersIn
import Derived.RangeFuncNested
import Derived.RangeFuncBound
import Derived.RangeFuncCalls
import Derived.RangeFuncLeaves
import Derived.RangeFuncBox
import Derived.Shelf.Abstract
import Derived.Shelf.RegionOpen
import Derived.OwnWalkIn
import Derived.TacticsInMore
import Derived.LoopNIn
import Derived.LoopIn
import Derived.Laws.MakeOwn
import Derived.OneCell
import Derived.Laws.OwnMore
import Derived.Lib.EndianBits
import Derived.Outline
import Derived.Lib.AppendStr
import Derived.StringKeys
set_option maxHeartbeats 4000000
set_option maxRecDepth 100000
set_option linter.all false
namespace Go.Proofs.YtkmninbcgipliaaGreatDoor
open Tryz hiding t1 t2
section
open Go.RowKit Go.Maps
theorem BytesAt.upd{F:Nat→Prop}{w w':World}{b:Nat}{l:List UInt8}(h:BytesAt w b l)(hu:A7 F w w')(hF:¬ F b):BytesAt w' b l:=by
 have hlt:=h.lt;obtain⟨C,e,fr,h1,h2⟩:=h;exact⟨C,e,fr,by rw[hu.block b hlt hF];exact h1,h2⟩
theorem aAg{w:World}{base e s:Nat}{v:Value}{n:Nat}{xs:List Value}(h:w.ownsRow base e s v n xs):n≤9223372036854775807:=by
 rcases h.2 with⟨_,e⟩|⟨g,cap,_,_,_,_,h1,h2,_⟩
 ·omega
 ·unfold maxLen at h2;omega
theorem Fv.below{w w':World}{b m:Nat}{lv:Value}{D:A8}(h:Fv w b m lv D)(hb:Bw w w'):Fv w' b m lv D:=h.upd (ub hb) (fun _ _ f=>f)
theorem aC4(w:World)(n:Nat)(hn:n≤16384):∃ C,(Instr.makeSlice 308 ↑(n:Int) ↑(n:Int)).run prog w=.ok (.slice w.heap.size n n) (w.alloc (.cells C 240))∧
  BytesAt (w.alloc (.cells C 240)) w.heap.size (List.replicate (64*n) 0):=by
 have aG:(prog.info? 240).map (fun i=>(i.zero,i.size,i.bytes))=some (some (.agg (Dk NW)),64,64):=by kernel_rfl
 obtain⟨i0,hi,AY,AZ,Bb⟩:=Dy aG;have hrun:=run_make (P:=prog) w 308 240 i0 _ underlying308 hi AY .i64 .i64 n n (by omega) (Int.le_refl _) (by rw[Bb];omega) (by omega);rw[Int.toNat_natCast] at hrun;refine⟨_,hrun,ahi w _ _ _ (fun i hi=>?_)⟩;have Bh:=hi;rw[List.length_replicate] at hi;rw[AZ];have hs:NW.length=64:=by simp[NW]
 have hg:=iX NW (i % 64) (by rw[hs];exact Nat.mod_lt _ (by decide));have hz:NW[i % 64]'(by rw[hs];exact Nat.mod_lt _ (by decide))=0:=List.getElem_replicate _;rw[hz] at hg;clear hz hrun;have Bb:(List.replicate (64*n) (0:UInt8))[i]'Bh=0:=List.getElem_replicate _;rw[Bb];unfold madeCells;simp only[Value.cells,oL,hs];rw[Array.getElem?_map,Array.getElem?_range,Ae (by omega)];simp only[EZ];rw[getElem!_def,hg]
theorem aBf{w:World}{b m:Nat}{lv:Value}{D:A8}(h:Fv w b m lv D)(at_ n:Int)(hd:D.down=true):
  Calls prog 159 #[b,.int .i64 at_,.int .i64 n] w fun e w'=>e=.returned (.tuple #[.string (bs []),.int .i64 40])∧w=w':=by
 have hu:Hid (D.up=40):=Hi (by unfold A8.up;rw[hd];rfl);clear hd
 go_in
 go_wp2_with fail;refine(Zg h).mono ?_;rw[hu.out];rintro e w1⟨rfl,rfl⟩;go_wp2;go_ret2;exact⟨rfl,rfl⟩
theorem wU{w:World}{b m:Nat}{lv:Value}{D:A8}(h:Fv w b m lv D)(a n:Nat)(hd:D.down=false)(hi:D.inside a n=true):
  Calls prog 159 #[b,.int .i64 a,.int .i64 n] w (Rt w (.tuple #[(A8.text D.now a n),.int .i64 0])):=by
 have hu:Hid (D.up=0):=Hi (by unfold A8.up;rw[hd];rfl);have HI:=Hi hi;have hN:=h.fine.n2;have Dj:a+n≤D.n:=by
  simp[A8.inside] at hi;omega
 clear hd hi;obtain⟨C,Ot,Af⟩:=aC4 w n (by omega);have BF:=Hi Af;clear Af;have HD:=Hi h
 go_in
 go_wp2_with fail;refine(Zg h).mono ?_;rw[hu.out];rintro e w1⟨rfl,rfl⟩;go_wp2_with fail;refine(adn h a n (by omega) (by omega) (by omega) (by omega)).mono ?_;rw[HI.out];rintro e w1⟨rfl,rfl⟩;clear h;go_wp2
 go_loopw [30] (fun i wr=>∃ k:Nat,k≤n∧i=.int .i64 k∧BytesAt wr w.heap.size (A8.text (A8.upTo D.base (a+k)) a n)∧Bw w wr) (fun i _=>n -(intOf i).toNat)
 case atStart=>
  refine⟨0,by omega,rfl,?_,(Ai _ _).alloc (Ag _) _⟩;rw[Nat.add_zero,A8.aDu];exact BF.out
 case round=>
  obtain⟨k,hk,rfl,hat,hb⟩:=hrel;by_cases hlt:k < n
  ·have Jg:=Hi hat;have Yp:=HD.below hb;obtain⟨_,c1,_,_,_,_⟩:=Yp.cells;have LG:=Yp.base.get (a+k) (by omega) hN;rw[Int.natCast_add] at LG;clear hat Yp;have Ct:=HD.fine.base;have M0:=Hi (Ct (a+k) (by omega));have Ij:∀ j,a≤j→j < a+n→(A8.upTo D.base (a+k) j).length=64:=fun j _ h2=>A8.xO Ct _ j (by omega)
   have NB:=Hi Ij;have hlen:(A8.text (A8.upTo D.base (a+k)) a n).length=64*n:=A8.YW Ij;have Bj:=Jg.store prog (k*64) (D.base (a+k)) (by rw[M0.out,hlen];omega);have zC:=Hi (Jg.seg (D.base (a+k)) (k*64) (by rw[M0.out,hlen];omega));have Ho:=M0.out;clear Ct hlen Ij;go_wp2;go_roundw
   case rel=>
    refine⟨k+1,by omega,by go_num,?_,below_setCells hb (Ag _) _ _⟩;have e:=zC.out;rw[Nat.mul_comm k 64,←A8.apz NB hlt M0.out,←A8.aDv] at e;rw[Nat.mul_comm k 64];exact e
   case measure=>simp[intOf];omega
  ·obtain rfl:k=n:=(by omega);rw[A8.aDt] at hat;have Jg:=Hi hat;have Yp:=HD.below hb;obtain⟨_,_,c2,_,_,_⟩:=Yp.cells;have hl:∃ q cap,lv=.slice q D.loose.length cap:=by
    rcases Yp.loose.2 with⟨e1,e2⟩|⟨g,cap,_,e1,_⟩
    ·exact⟨none,0,by rw[e1,e2]⟩
    ·exact⟨_,cap,e1⟩
   obtain⟨q,cap,rfl⟩:=hl;have axE:=aAg Yp.loose;have HB:=Hi hb;clear hat Yp hb Ot;go_wp2
   go_loopw [50] (fun i wr=>∃ j:Nat,j≤D.loose.length∧i=.int .i64 j∧BytesAt wr w.heap.size (A8.text (A8.lay D.base (D.loose.take j)) a k)∧Bw w wr) (fun i _=>D.loose.length -(intOf i).toNat)
   case atStart=>exact⟨0,by omega,rfl,Jg,HB⟩
   case round=>
    clear Jg HB
    rename_i wr0
    obtain⟨j,hj,rfl,hat,hb⟩:=hrel;by_cases hlt:j < D.loose.length
    ·have SQ:=(HD.below hb).loose;obtain⟨g,rfl⟩:∃ g,q=some ⟨g,0,none⟩:=by
      rcases SQ.2 with⟨e1,e2⟩|⟨g,cap,_,e1,_⟩
      ·omega
      ·exact⟨g,by cases e1;rfl⟩
     obtain⟨p1,p2⟩:=HD.fine.loose D.loose[j] (CK hlt);have hall:∀ p∈D.loose,p.2.length=64:=fun p hp=>(HD.fine.loose p hp).2
     have hr:=amN SQ hall j hlt;have II:=Hy prog 142 242 underlying142 65 ao5 ⟨g,0,none⟩ D.loose.length cap j hlt;have kJ:(⟨g,0,none⟩:Addr).add (j*65)=⟨g,j*65,none⟩:=(by unfold Addr.add;split<;>simp_all);rw[kJ] at II;have HS:=Hi (A8.az4 D.base D.loose j hlt);have J5:∀ i,i < D.n→(A8.lay D.base (D.loose.take j) i).length=64:=A8.nI HD.fine.base (fun p hp=>HD.fine.loose p (List.mem_of_mem_take hp));have QP:=Hi J5;have HR:=Hi hr;have Ll:=Hi p2;have Jg:=Hi hat;generalize D.loose[j]=p at*;clear SQ hall hr J5 kJ p2 hat;have hz:=ao1 p;have hlen:(A8.text (A8.lay D.base (D.loose.take j)) a k).length=64*k:=A8.YW (fun i _ h2=>QP i (by omega));have FO:=Hi hlen;have HB:=Hi hb;clear hlen hb;by_cases ace:a≤p.1∧p.1 < a+k
     ·obtain⟨i1,i2⟩:=ace;have WL:=Jg.below ((Ai _ wr).alloc (Ag _) (.cells (putRow p) 242));have Bj:=WL.store prog ((p.1 -a)*64) p.2 (by rw[Ll.out,FO.out];omega);have zC:=Hi (WL.seg p.2 ((p.1 -a)*64) (by rw[Ll.out,FO.out];omega));have Ho:=Ll.out;clear WL;go_wp2_with (first|(refine wpList_load_mid rfl 242 _ rfl g (j*65) rfl _ _ HR underlying242 rfl (wR p Ll) ?_;rw[wQ])|(refine wpList_store_row rfl 242 _ _ rfl wr.heap.size (putRow p) rfl rfl 242 _ (AU wr _) (wS p Ll) (ae8 p Ll) (wN p) ?_;rw[World.setRow_alloc_new])|(refine wpList_load_mid rfl 240 _ rfl wr.heap.size 1 rfl _ _ (aAN wr p _) underlying240 rfl (oz p.2 Ll) ?_;rw[iV]));go_roundw
      case rel=>
       refine⟨j+1,by omega,by go_num,?_,below_setCells (HB.alloc HB.size _) (Ag _) _ _⟩;have e:=zC.out;have e2:=A8.apz (f:=A8.lay D.base (D.loose.take j)) (k:=a) (n:=k) (i:=p.1 -a) (x:=p.2) (fun i _ h2=>QP i (by omega)) (by omega) Ll.out;rw[show a+(p.1 -a)=p.1 by omega,←HS.out] at e2;rw[Nat.mul_comm (p.1 -a) 64,←e2] at e;rw[Nat.mul_comm (p.1 -a) 64];exact e
      case measure=>simp[intOf];omega
     ·have alN:A8.text (A8.lay D.base (D.loose.take (j+1))) a k=A8.text (A8.lay D.base (D.loose.take j)) a k:=by
       rw[HS.out];exact A8.QE a k (fun i h1 h2=>by unfold A8.upd;rw[A9 (by omega)])
      have agk:=Hi alN;clear alN;by_cases uN:a≤p.1
      ·have hhi:a+k≤p.1:=(by omega);clear ace;go_wp2_with (first|(refine wpList_load_mid rfl 242 _ rfl g (j*65) rfl _ _ HR underlying242 rfl (wR p Ll) ?_;rw[wQ])|(refine wpList_store_row rfl 242 _ _ rfl wr.heap.size (putRow p) rfl rfl 242 _ (AU wr _) (wS p Ll) (ae8 p Ll) (wN p) ?_;rw[World.setRow_alloc_new]));go_roundw
       case rel=>exact⟨j+1,by omega,by go_num,by rw[agk.out];exact Jg.below ((Ai _ wr).alloc (Ag _) _),HB.alloc HB.size _⟩
       case measure=>simp[intOf];omega
      ·clear ace;go_wp2_with (first|(refine wpList_load_mid rfl 242 _ rfl g (j*65) rfl _ _ HR underlying242 rfl (wR p Ll) ?_;rw[wQ])|(refine wpList_store_row rfl 242 _ _ rfl wr.heap.size (putRow p) rfl rfl 242 _ (AU wr _) (wS p Ll) (ae8 p Ll) (wN p) ?_;rw[World.setRow_alloc_new]));go_roundw
       case rel=>exact⟨j+1,by omega,by go_num,by rw[agk.out];exact Jg.below ((Ai _ wr).alloc (Ag _) _),HB.alloc HB.size _⟩
       case measure=>simp[intOf];omega
    ·obtain rfl:j=D.loose.length:=(by omega);rw[D5] at hat;have Jg:=Hi hat;have HB:=Hi hb;have QP:=Hi HD.fine.now;clear hat hb c2 HD BF axE;go_wp2_with fail;have al7:=Et.made wr;obtain⟨wo,rfl⟩:∃ wo:World,wo=wr:=⟨_,rfl⟩;have Qv:=Jg.lt;have Pw:=(Ai wo.heap.size wo).alloc (Ag _) (.cells #[.pointer none,()] 210);have WK:=Jg.below Pw;have Ak:Bw w (wo.alloc (.cells #[.pointer none,()] 210)):=HB.alloc HB.size _;have akv:(A8.text D.now a k).length=64*k:=A8.YW (fun i _ h2=>QP i (by omega));have FO:=Hi akv;clear akv Pw;have aln:A8.lay D.base D.loose=D.now:=rfl;rw[aln] at WK;clear aln
     go_loopw [77] (fun i wl=>∃ (j:Nat) (fp:Nat→Prop),j≤k∧i=.int .i64 j∧BytesAt wl w.heap.size (A8.text D.now a k)∧Et wl wo.heap.size ((A8.text D.now a k).take (64*j)) fp∧(∀ q,fp q→wo.heap.size≤q)∧Bw w wl) (fun i _=>k -(intOf i).toNat)
     case atStart=>
      refine⟨0,_,by omega,rfl,WK,al7,?_,Ak⟩;rintro q (rfl|hq)
      ·exact Ag _
      ·simp[Value.ownBlock] at hq
     case round=>
      clear al7 WK Ak;obtain⟨j,fp,hj,rfl,hat,FJ,GH,hb⟩:=hrel;by_cases hlt:j < k
      ·have acF:=A8.apx (f:=D.now) (k:=a) (n:=k) (i:=j) (fun i _ h2=>QP i (by omega)) hlt;have hr:=hat.range (j*64) 64 (by rw[FO.out];omega);rw[Nat.mul_comm j 64,acF.2.1] at hr;have hx:(D.now (a+j)).length=64:=QP _ (by omega);have HX:=Hi hx;have HR:=Hi hr
       have HT:Hid ((A8.text D.now a k).take (64*(j+1))=(A8.text D.now a k).take (64*j)++D.now (a+j)):=Hi (by
        rw[show 64*(j+1)=64*j+64 by omega,List.take_add,acF.2.1])
       have Pw:=(Ai wr.heap.size wr).alloc (Ag _) (.cells (Dk (D.now (a+j))) 240);have aqF:=Hi (hat.below Pw);have Dl:=Hi (FJ.upd (ub Pw) (fun _ _ f=>f));have Fw:=Hi GH;have Lj:=Hi FJ.lt;have XT:Hid (wo.heap.size≤wr.heap.size):=Hi (Nat.le_of_lt (FJ.lt wo.heap.size FJ.own));have pR:=Hi (hb.alloc hb.size (.cells (Dk (D.now (a+j))) 240));generalize hxx:D.now (a+j)=x at*;clear acF hr hx hat FJ GH hb Pw hxx;have CS:=fun W=>aBQ prog W 240 5 64 wr.heap.size underlying240 (by kernel_rfl)
       go_wp2_with (first|(refine wpList_load_mid rfl 240 _ rfl w.heap.size (j*64) rfl _ _ (by rw[Nat.mul_comm];exact HR.out) underlying240 rfl (oz x HX) ?_;rw[iV])|(refine wpList_store_row rfl 240 _ _ rfl wr.heap.size (Dk x) rfl rfl 240 _ (AU wr _) (by rw[oL,HX.out];exact aes) (by rw[oL,HX.out];rfl) (aeN x) ?_;rw[World.setRow_alloc_new]));refine(ahf Dl wr.heap.size 0 64 x (fun i hi=>by rw[GQ,E5];exact iX x i hi) (fun hf=>Nat.lt_irrefl _ (Lj _ hf)) (by rw[Bc,FO.out,HX.out];omega) 64 HX).mono ?_;rintro e w2⟨rfl,fp2,Yl,ED,alR⟩;have PQ:=Hi Yl;have Sv:=Hi ED;have arM:=Hi alR;clear Yl ED alR;go_wp2;go_roundw
       case rel=>
        refine⟨j+1,fp2,by omega,by go_num,aqF.upd Sv (fun hf=>by have:=Fw _ hf;omega),by rw[HT.out];exact PQ.out,?_,Cz pR Sv (fun q hq=>Ay (Nat.le_of_lt Qv) (Fw q hq)) pR.size⟩;intro q hq;rcases arM q hq with h1|h1
        ·exact Fw q h1
        ·have:=XT.out;rw[Az] at h1;omega
       case measure=>simp[intOf];omega
      ·obtain rfl:j=k:=(by omega);rw[Gx (by rw[FO.out];omega)] at FJ;have Dl:=Hi FJ;have Fw:=Hi GH;have Aj:=Hi hb;clear FJ GH hb hat;go_wp2_with fail;refine(XY Dl).mono ?_;rintro e w2⟨rfl,ED⟩;go_wp2;go_ret2;exact⟨rfl,Cz Aj ED (fun q hq=>Ay (Nat.le_of_lt Qv) (Fw q hq)) Aj.size⟩
end
section
open Go.RowKit Go.Maps
theorem chunk(s:List UInt8)(k:Nat)(h:64*(k+1)≤s.length):(s.take (64*(k+1))).drop (64*k)=(s.drop (64*k)).take 64∧((s.drop (64*k)).take 64).length=64:=by
 refine⟨?_,by rw[Bc,CF];omega⟩;rw[List.drop_take,show 64*(k+1) -64*k=64 by omega]
theorem aAR:(prog.info? 242).map (fun i=>(i.zero,i.size,i.bytes))=some (some (.agg Tryz.zeroCells242),65,72):=by kernel_rfl
theorem aA0(w:World)(C:Array Value)(T:TypeId)(N:Nat)(hN:w.heap.size=N):∀ j u,C.toList[j]?=some u→(w.alloc (.cells C T)).drew.cell? ((⟨N,0,none⟩:Addr).add j)=some u:=by
 subst hN;intro j u h;have e:(⟨w.heap.size,0,none⟩:Addr).add j=⟨w.heap.size,j,none⟩:=by unfold Addr.add;split<;>simp_all
 rw[e]
 show(w.alloc (.cells C T)).cell? _=_
 rw[E5,←Dx];exact h
theorem aAM(i:Int)(x:List UInt8):∀ u∈(QD i x).toList,u.oneCell'=true:=by
 unfold QD;intro u hu;rcases Ch.1 hu with rfl|h
 ·rfl
 ·exact oK _ u h
theorem aAL(i:Int)(x:List UInt8)(h:x.length=64):(QD i x).toList.length=1*65:=by rw[Array.length_toList,ae3 i x h]
theorem aAT{w w':World}{row:Option Nat}(hg:w.grownBy w' row){b o:Nat}{cs:List Value}(h:w.rangeAt b o cs)(hne:some b≠row):w'.rangeAt b o cs:=fun j v hv=>hg.cell (h j v hv) hne
theorem aml{w:World}{a:Addr}{v:Value}{b2 o:Nat}{cs:List Value}(h1:w.cell? a=some v)(h0:w.frozen? a=false)(h2:w.rangeAt b2 o cs)(ob:Obj):(w.alloc ob).drew.cell? a=some v∧(w.alloc ob).drew.frozen? a=false∧(w.alloc ob).drew.rangeAt b2 o cs:=by
 have hb:=(Ai w.heap.size w).alloc (Ag _) ob;refine⟨(hb.cell (Cv h1)).trans h1,(hb.frozen (Cv h1)).trans h0,fun j u hj=>?_⟩;have:=h2 j u hj;exact(hb.cell (Cv this)).trans this
theorem amm{w w':World}{a:Addr}{v:Value}{b2 o:Nat}{cs:List Value}(h:w.cell? a=some v∧w.frozen? a=false∧w.rangeAt b2 o cs){row:Option Nat}(hg:w.grownBy w' row)(hne:some a.block≠row)(YG:some b2≠row):w'.cell? a=some v∧w'.frozen? a=false∧w'.rangeAt b2 o cs:=
 ⟨hg.cell h.1 hne,(hg.frozen_far a (Cv h.1) hne).trans h.2.1,aAT hg h.2.2 YG⟩
theorem wrote{w1 W w2:World}{b m:Nat}{lk:Value}{E:A8}(h:Fv w1 b m lk E)(hW:Bw w1 W)(AJ:W.grownBy w2 lk.ownBlock){gg cap a:Nat}{x:List UInt8}{L:Int}{C:List Value}{N:Nat}(hN:E.loose.length+1=N)
  (hown:w2.ownsRow 0 242 65 (.slice gg N cap) N C)(hC:C=Oz (E.loose++[(a,x)]))(hat:lk.ownBlock=some gg∨w1.heap.size≤gg)(ha:a < E.n)(hx:x.length=64)(hL: -1≤L∧L≤9223372036854775807):
  Fv ((w2.setCell ⟨b,2,none⟩ (.slice gg N cap)).setCell ⟨b,3,none⟩ (.int .i64 L)) b m (.slice gg N cap) { E with loose:=E.loose++[(a,x)],left:=L }∧
  A7 (R7 b m lk) w1 ((w2.setCell ⟨b,2,none⟩ (.slice gg N cap)).setCell ⟨b,3,none⟩ (.int .i64 L))∧Dq (R7 b m lk) (R7 b m (.slice gg N cap)) w1:=by
 subst hC;subst hN;have hb:b < w1.heap.size:=(Dn.1 h.struct).1;have hm:m < w1.heap.size:=h.base.lt;have u1:A7 (R7 b m lk) w1 w2:=(A7.of_below hW).trans (A7.of_grownBy (F:=fun k=>lk.ownBlock=some k) AJ (fun k e=>e)) (fun k hk=>.inl (.inr (.inr hk)));have u2:A7 (fun k=>lk.ownBlock=some k) w1 w2:=(A7.of_below hW).trans (A7.of_grownBy (F:=fun k=>lk.ownBlock=some k) AJ (fun k e=>e)) (fun k hk=>.inl hk);have Om:gg≠b:=fun e=>by
  rcases hat with hat|hat
  ·exact h.lb (by rw[hat,e])
  ·omega
 have JI:gg≠m:=fun e=>by
  rcases hat with hat|hat
  ·exact h.lm (by rw[hat,e])
  ·omega
 have hs:w2.heap[b]?=some (.cells #[(E.n:Int),.map (some m),lk,.int .i64 E.left,E.down] 144):=by
  rw[u2.block b hb h.lb];exact h.struct
 have hF:A8.Cg { E with loose:=E.loose++[(a,x)],left:=L }:=by
  refine⟨h.fine.n1,h.fine.n2,h.fine.base,fun p hp=>?_,hL⟩;rcases Es.1 hp with hp|hp
  ·exact h.fine.loose p hp
  ·simp at hp;subst hp;exact⟨ha,hx⟩
 have hv:∀ (v v':Value),A7 (fun k=>k=b) w2 ((w2.setCell ⟨b,2,none⟩ v).setCell ⟨b,3,none⟩ v'):=fun v v'=>((A7.refl (fun k=>k=b) w2).setCell (p:=⟨b,2,none⟩) (.inl rfl) v).setCell (p:=⟨b,3,none⟩) (.inl rfl) v'
 refine⟨⟨?_,?_,?_,h.mb,fun e=>Om (by simpa[Value.ownBlock] using e),fun e=>JI (by simpa[Value.ownBlock] using e),hF⟩,?_,?_⟩
 ·have e1:=Cs w2 b 2 _ _ (.slice gg (E.loose.length+1:Nat) cap) hs;have e2:=Cs _ b 3 _ _ (.int .i64 L) e1;exact e2
 ·refine(h.base.kept (u2.block m hm h.lm)).kept ((hv _ _).block m (Ip hm u2.size) h.mb)
 ·have e:(E.loose++[(a,x)]).length=E.loose.length+1:=by simp
  show World.ownsRow _ 0 _ 65 _ (E.loose++[(a,x)]).length _
  rw[e];exact BD hown (hv _ _) (fun g hg e=>Om (by simp[Value.ownBlock] at hg;omega))
 ·exact(u1.setCell (p:=⟨b,2,none⟩) (.inl (.inl rfl)) _).setCell (p:=⟨b,3,none⟩) (.inl (.inl rfl)) _
 ·rintro k (rfl|rfl|hk)
  ·exact .inl (.inl rfl)
  ·exact .inl (.inr (.inl rfl))
  ·simp[Value.ownBlock] at hk;subst hk;rcases hat with hat|hat
   ·exact .inl (.inr (.inr hat))
   ·exact .inr hat
theorem azg(l:List (Nat×List UInt8))(a k:Nat)(x:List UInt8):Oz l++(QD ((a:Int)+(k:Int)) x).toList=Oz (l++[(a+k,x)]):=by
 rw[azf,aAK,bN]
def aeq(p:Value):Sem Value:=Instr.loadAt 240 p
theorem aer(p:Value):Instr.loadAt 240 p=aeq p:=rfl
attribute [local go_sem ↓] aer
attribute [local simp] iV aAP ae3 aAQ
theorem aEp{w:World}{b m:Nat}{lv:Value}{D:A8}(h:Fv w b m lv D)(a:Nat)(s:List UInt8)(hd:D.down=false)(n:Nat)(hs:s.length=64*n)(hi:D.inside a n=true)(Ih:D.loose.length+n≤1000000000):
  Calls prog 137 #[b,.int .i64 a,s] w fun e w'=>e=.returned (.int .i64 (A8.writes D a s n).2)∧∃ vK,Fv w' b m vK (A8.writes D a s n).1∧A7 (R7 b m lv) w w'∧Dq (R7 b m lv) (R7 b m vK) w:=by
 have hu:Hid (D.up=0):=Hi (by unfold A8.up;rw[hd];rfl);have HI:=Hi hi;have hN:=h.fine.n2;have Dj:a+n≤D.n:=by
  simp[A8.inside] at hi;omega
 clear hd hi;have HS:=Hi hs;have hq:((s.length:Int) / 64)=(n:Int):=by omega
 have hr:(s.length:Int) % 64=0:=by omega
 have HD:=Hi h;clear hs;have HQ:=Hi hq;have HR:=Hi hr;clear hq hr
 go_in
 go_wp2_with fail
 go_step3
 go_wp2_with fail;refine(Zg h).mono ?_;rw[hu.out];rintro e w1⟨rfl,rfl⟩;have hq:=HQ.out;have hr:=HR.out;go_wp2_with fail;refine(adn h a n (by omega) (by omega) (by omega) (by omega)).mono ?_;rw[HI.out];rintro e w1⟨rfl,rfl⟩;clear h hq hr;go_wp2_with fail
 go_step3
 go_wp2
 go_loopw [6,31] (fun e i wr=>e=.int .i64 0∧∃ (k:Nat) (lk:Value) (E:A8),k≤n∧i=.int .i64 k∧Fv wr b m lk E∧E.n=D.n∧E.loose.length=D.loose.length+k∧A8.writes D a s n=A8.writes E (a+k) (s.drop (64*k)) (n -k)∧A7 (R7 b m lv) w wr∧Dq (R7 b m lv) (R7 b m lk) w) (fun _ i _=>n -(intOf i).toNat)
 case atStart=>exact⟨rfl,0,lv,D,by omega,rfl,HD,rfl,rfl,by rw[Nat.mul_zero,List.drop_zero];rfl,A7.refl _ _,fun _ h=>.inl h⟩
 case round=>
  obtain⟨rfl,k,lk,E,hk,rfl,hE,fq,Ya,hW,hU,hS⟩:=hrel;obtain⟨c0,c1,c2,c3,c4,cf⟩:=hE.cells;by_cases hlt:k < n
  ·obtain⟨Eo,Ee⟩:=chunk s k (by rw[HS.out];omega);have hstep:A8.writes E (a+k) (s.drop (64*k)) (n -k)=if E.left=0 then({ E with down:=true },40) else A8.writes { E with loose:=E.loose++[(a+k,(s.drop (64*k)).take 64)],left:=max (E.left -1) (-1) } (a+k+1) ((s.drop (64*k)).drop 64) (n -(k+1)):=by
    rw[show n -k=(n -(k+1))+1 by omega];rfl
   have Ba:=Hi hstep;have HE:=Hi hE;have XC:=Hi fq;have HEL:=Hi Ya;have HW:=Hi hW;have HU:=Hi hU;have Wi:=Hi hS;have Qa:=Hi Eo;have Sz:=Hi Ee;have cf3:=cf 3;have rF:=cf 4;have cf2:=cf 2;clear hstep hE fq Ya hW hU hS Eo Ee cf c0 c1;by_cases N8:E.left=0
   ·have Be:(E.left == 0)=true:=(by simp[N8]);have HL:=Hi N8;clear N8;go_wp2_with fail;rw[Exit.noGoto_ret];go_ret;have Qr:A8.Cg { E with down:=true }:=⟨HE.fine.n1,HE.fine.n2,HE.fine.base,HE.fine.loose,HE.fine.left⟩;refine⟨by rw[HW.out,Ba.out,Ae HL.out];rfl,lk,?_,HU.setCell (p:=⟨b,4,none⟩) (.inl (.inl rfl)) _,Wi.out⟩;rw[HW.out,Ba.out,Ae HL.out];exact HE.set (D':={ E with down:=true }) 4 _ rfl rfl rfl rfl Qr
   ·have Be:(E.left == 0)=false:=(by simp[N8]);have HL:=Hi N8;clear N8;have CS:64*(k+1)≤s.length:=(by rw[HS.out];omega);have nC:List.drop (k*64) (List.take ((k+1)*64) s)=(s.drop (64*k)).take 64:=(by rw[Nat.mul_comm k,Nat.mul_comm (k+1)];exact Qa.out);have arI:Hid ((s.drop (64*k)).drop 64=s.drop (64*(k+1))):=Hi (by rw[List.drop_drop,show 64*k+64=64*(k+1) by omega]);generalize (s.drop (64*k)).take 64=x at*;obtain⟨w1,cap,NJ,SG,Ak,Qz⟩:=atj prog 9 54 5 underlying9 underlying54 underlying5 wr x;have lH:=fun W=>run_arrayAt prog W 240 5 64 (some ⟨wr.heap.size,0,none⟩) x.length cap underlying240 (by rw[Sz.out];exact Ag _)
    have acN:=SG.range 0 64 (by rw[Sz.out];exact Ag _);rw[List.drop_zero,Gx (by rw[Sz.out];exact Ag _)] at acN;have UN:=Hi acN;have DR:=Hi Qz;clear Qz;have HB1:=Hi Ak;have hE1:=HE.below Ak;obtain⟨_,_,d2,d3,_,df⟩:=hE1.cells;have Jz:=Hi hE1;have df2:=df 2;have eG:=df 3;clear acN Ak Qa SG c2 c4 cf3 rF cf2 hE1 df;go_wp2_with (first|(refine wpList_load_mid rfl 240 _ rfl wr.heap.size 0 rfl _ _ UN underlying240 rfl (oz x Sz) ?_;rw[iV])|(refine wpList_store_row rfl 240 _ _ rfl w1.heap.size (Dk x) rfl rfl 240 _ (AU w1 _) (by rw[oL,Sz.out];exact aes) (by rw[oL,Sz.out];rfl) (aeN x) ?_;rw[World.setRow_alloc_new]));have uN:=(Jz.loose);have alY:=underlying240;have akJ:=oz x Sz.out;have Pn:(w1.alloc (.cells (Dk x) 240)).cell? ⟨b,2,none⟩=some lk:=by
     rw[←d2];exact((Ai _ w1).alloc (Ag _) _).cell (Cv d2)
    have hf2:(w1.alloc (.cells (Dk x) 240)).frozen? ⟨b,2,none⟩=false:=by
     rw[←df2];exact((Ai _ w1).alloc (Ag _) _).frozen (Cv d2)
    have Af:(w1.alloc (.cells (Dk x) 240)).rangeAt w1.heap.size 0 (Cq x):=by
     intro j v hv;rw[GQ,E5,←Dx,aeM];exact hv
    obtain⟨i0,Bh,AY,AZ,Bb⟩:=Dy aAR;have YR:=Sz.out;have bz:IntKind.i64.wrap ((a:Int)+(k:Int))=(a:Int)+(k:Int):=EN _ (by omega);have YG:=Jz.lb;have ali:lk.ownBlock≠some w1.heap.size:=fun e=>by have:=bM uN e;omega
    have ak5:(E.loose.length+1)*72≤140737488355328:=(by rw[HEL.out];omega);have Ue:(w1.alloc (.cells (Dk x) 240)).heap.size=w1.heap.size+1:=Array.size_push _;have aFC:w1.heap.size≠b:=(by have:=Cv d2;simp at this;omega);have ay6:w1.heap.size≤(w1.alloc (.cells (Dk x) 240)).heap.size:=(by rw[Ue];omega);have Qp:(w1.alloc (.cells (Dk x) 240)).cell? ⟨b,3,none⟩=some (.int .i64 E.left):=by
     rw[←d3];exact((Ai _ w1).alloc (Ag _) _).cell (Cv d3)
    have hf3:(w1.alloc (.cells (Dk x) 240)).frozen? ⟨b,3,none⟩=false:=by
     rw[←eG];exact((Ai _ w1).alloc (Ag _) _).frozen (Cv d3)
    have ads:=fun ob=>aml Qp hf3 Af ob
    obtain⟨GZ,Ho⟩:=HE.fine.left;have adr:=fun ob=>aml Pn hf2 Af ob
    have uM:(aeq (.pointer w1.heap.size)).run prog (w1.alloc (.cells (Dk x) 240)).drew=.ok (.agg (Dk x)) (w1.alloc (.cells (Dk x) 240)).drew:=by
     have:=run_loadAt_mid (w1.alloc (.cells (Dk x) 240)).drew w1.heap.size 0 240 (Cq x) _ (fun j u hj=>Af j u hj) alY rfl akJ;rw[iV,aer] at this;exact this
    clear alY akJ
    go_region_law
     ((refine step_append_lies _ (by rfl) _ _ _ (by rfl) 0 242 i0 _ 65 72 underlying142 Bh AY AZ Bb (by rfl) (by omega) lk E.loose.length (Oz E.loose) (by rfl) (((uN.alloc _).alloc _).drew) ⟨w1.heap.size+1,0,none⟩ 1 1 (QD ((a:Int)+(k:Int)) x).toList (by rfl) (aAL _ _ YR) (aA0 (w1.alloc (.cells (Dk x) 240)) _ _ _ Ue) (aAM _ _) (by omega) (by unfold maxLen;omega) ak5 (by omega) (w1.heap.size+2) (by simp) ?_;intro gg cap2 w2 LK AJ hat Pv;have GY:=AJ.cell (adr _).1 (Ne.symm YG);have axg:=(amm (adr _) AJ (Ne.symm YG) (Ne.symm ali)).2.1;have KN:=AJ.cell (ads _).1 (Ne.symm YG);have aFQ:=(amm (ads _) AJ (Ne.symm YG) (Ne.symm ali)).2.1))
    all_goals
     clear adr ads uM Pn hf2 Qp hf3 Ue Af uN d2 d3 df2 eG c3 NJ lH ak5 Bh AY AZ Bb;go_wp2_with fail;have De:Bw w1 ((w1.alloc (Obj.cells (Dk x) 240)).alloc (Obj.cells (QD (↑a+ ↑k) x) 242)).drew:=(((Ai _ w1).alloc (Ag _) _).alloc ay6 _).drew;have WT:(if E.left -1 < -1 then(-1:Int) else E.left -1)=max (E.left -1) (-1):=(by split<;>omega);rw[WT];obtain⟨g1,g2,g3⟩:=wrote (a:=a+k) (L:=max (E.left -1) (-1)) Jz De AJ rfl LK (azg _ _ _ _) (hat.imp (fun h=>h) (fun h=>by omega)) (by have:=XC.out;omega) YR (by omega);refine⟨⟨rfl,k+1,_,_,by omega,rfl,g1,XC,?_,?_,?_,?_⟩,?_⟩
     ·show(E.loose++[(a+k,x)]).length=_
      rw[AA,HEL.out];rfl
     ·rw[HW.out,Ba.out,A9 HL.out,arI.out];rfl
     ·refine(HU.trans (ub HB1) (fun _ f=>f.elim)).trans g2 (fun i hi=>?_);exact Wi i hi
     ·intro i hi;have ay7:=(HU.trans (ub HB1) (fun _ f=>f.elim)).size;rcases g3 i hi with h|h
      ·exact Wi i h
      ·exact .inr (by omega)
     ·show n -((k:Int)+1).toNat < n -((k:Int)).toNat
      omega
  ·have fT:k=n:=(by omega);subst fT;have HE:=Hi hE;have HW:=Hi hW;have HU:=Hi hU;have Wi:=Hi hS;clear hE hW hU hS fq Ya c0 c1 c2 c3 c4 cf;go_wp2_with fail;rw[Exit.noGoto_ret];go_ret;rw[HW.out,Nat.sub_self];exact⟨rfl,lk,HE,HU,Wi⟩
theorem p8{w:World}{b:Nat}{D:A8}{fp:Nat→Prop}(h:BP w b D fp)(a:Int)(s:List UInt8)(ha: -9223372036854775808≤a∧a≤9223372036854775807)(hl:s.length≤1000000000)(Ih:D.loose.length+s.length / 64≤1000000000):
  Calls prog 137 #[b,.int .i64 a,s] w fun e w'=>e=.returned (.int .i64 (D.write a s).2)∧∃ fp',BP w' b (D.write a s).1 fp'∧A7 fp w w'∧Dq fp fp' w:=by
 obtain⟨m,lv,hI,rfl⟩:=h;by_cases hd:D.down=true
 ·have hu:Hid (D.up=40):=Hi (by unfold A8.up;rw[hd];rfl);have hW:D.write a s=(D,40):=by unfold A8.write;rw[Ae hd]
  rw[hW];have HI:=Hi hI;clear hW hd
  go_in
  go_wp2_with fail
  go_step3
  go_wp2_with fail;refine(Zg hI).mono ?_;rw[hu.out];rintro e w1⟨rfl,rfl⟩;go_wp2_with fail;rw[Exit.noGoto_ret];go_ret;exact⟨rfl,_,⟨m,lv,HI,rfl⟩,A7.refl _ _,fun _ h=>.inl h⟩
 ·have az:D.down=false:=by simpa using hd
  by_cases hc:s.length % 64=0∧D.inside a (s.length / 64:Nat)=true
  ·have hW:D.write a s=A8.writes D a.toNat s (s.length / 64):=(by unfold A8.write;rw[A9 hd,Ae hc]);obtain⟨h1,h2⟩:=hc;have h3:=h2;simp only[A8.inside,Bool.and_eq_true,decide_eq_true_eq] at h3;have e:a=(a.toNat:Int):=(by omega);rw[hW];have hE:=aEp hI a.toNat s az (s.length / 64) (by omega) (by rw[←e];exact h2) Ih;rw[←e] at hE;refine hE.mono ?_;rintro e w1⟨rfl,vK,g1,g2,g3⟩;exact⟨rfl,_,⟨m,vK,g1,rfl⟩,g2,g3⟩
  ·have hu:Hid (D.up=0):=Hi (by unfold A8.up;rw[az];rfl);have hW:D.write a s=(D,2):=(by unfold A8.write;rw[A9 hd,A9 hc]);rw[hW];have HI:=Hi hI;by_cases hr:(s.length:Int) % 64=0
   ·have Dj:D.inside a (s.length / 64:Nat)=false:=by
     rcases hb:D.inside a (s.length / 64:Nat) with _|_
     ·rfl
     ·exact absurd ⟨by omega,hb⟩ hc
    have M4:=Hi Dj;clear hW hd az hc Dj;have hq:((s.length:Int) / 64)=((s.length / 64:Nat):Int):=(by omega);generalize s.length / 64=n at*;have HR:=Hi hr;have HQ:=Hi hq;clear hr hq
    go_in
    go_wp2_with fail
    go_step3
    go_wp2_with fail;refine(Zg hI).mono ?_;rw[hu.out];rintro e w1⟨rfl,rfl⟩;have hq:=HQ.out;have hr:=HR.out;go_wp2_with fail;refine(adn hI a n (by omega) (by omega) (by omega) (by omega)).mono ?_;rw[M4.out];rintro e w1⟨rfl,rfl⟩;go_wp2_with fail;rw[Exit.noGoto_ret];go_ret;exact⟨rfl,_,⟨m,lv,HI,rfl⟩,A7.refl _ _,fun _ h=>.inl h⟩
   ·have HR:=Hi hr;clear hW hd az hc hr
    go_in
    go_wp2_with fail
    go_step3
    go_wp2_with fail;refine(Zg hI).mono ?_;rw[hu.out];rintro e w1⟨rfl,rfl⟩;have hr:=HR.out;go_wp2_with fail;rw[Exit.noGoto_ret];go_ret;exact⟨rfl,_,⟨m,lv,HI,rfl⟩,A7.refl _ _,fun _ h=>.inl h⟩
end
section
section
variable {F:Fence}{n:Nat}{P:Program}{ops:Array Oper}{Q:Exit→Act→World→Prop}{md:Region.Mode}
structure asb(a0:Act)(d m:Nat)(vals:Array Value)(listed:Array Bool)(a:Act):Prop where
 defers:a.defers=a0.defers
 size:a.tmps.size=a0.tmps.size
 out:∀ s,(s < d∨d+m≤s)→a.tmps.getD s undef=a0.tmps.getD s undef
 got:∀ j,j < m→listed.getD j false=true→a.tmps.getD (d+j) undef=vals.getD j undef
theorem sV{α:Type}(xs:Array α)(i j:Nat)(v d:α):(xs.setIfInBounds i v).getD j d=if i=j∧i < xs.size then v else xs.getD j d:=by
 simp only[Array.getD_eq_getD_getElem?,Array.getElem?_setIfInBounds];by_cases h:i=j
 ·subst h;by_cases h2:i < xs.size
  ·simp[h2]
  ·simp[h2]
 ·simp[h]
theorem count_set(xs:Array Bool)(i:Nat)(hi:i < xs.size)(hf:xs.getD i true=false):(xs.setIfInBounds i true).toList.count false+1=xs.toList.count false:=by
 rw[Array.toList_setIfInBounds,List.count_set (by simpa using hi)];have h:xs.toList[i]'(by simpa using hi)=false:=by
  rw[Array.getD_eq_getD_getElem?,Xu hi] at hf;simpa using hf
 have hp:0 < xs.toList.count false:=List.count_pos_iff.2 (by rw[←h];exact CK _);rw[h]
 show xs.toList.count false -1+0+1=_
 omega
theorem least(p:Nat→Bool):∀ m,p m=false→∃ j,p j=false∧∀ i,i < j→p i=true:=by
 intro m
 induction m using Nat.strongRecOn with
 |_ m ih=>
  intro h;by_cases hx:∃ i,i < m∧p i=false
  ·obtain⟨i,h1,h2⟩:=hx;exact ih i h1 h2
  ·exact⟨m,h,fun i hi=>by
    cases hp:p i with
    |true=>rfl
    |false=>exact absurd ⟨i,hi,hp⟩ hx⟩
def asw(md:Region.Mode)(ops:Array Oper):Bool:=(List.range ops.size).all fun j=>match ops[j]? with|some o=>o.after.all (fun e=>!Region.binds md e || decide (e.on < j))|none=>true
def lastB(md:Region.Mode)(ops:Array Oper)(m:Nat):Bool:=(List.range m).all fun j=>match ops[m]? with|some o=>o.after.any (fun e=>Region.binds md e && decide (e.on=j))|none=>true
theorem aEk{a0:Act}{W:World}{d m:Nat}{vals:Array Value}(Ki:ops.size=m+1)(hd:d+m≤a0.tmps.size)
  (hops:∀ j,j < m→∃ o,ops[j]?=some o∧o.dst=some (d+j)∧o.guard=none)
  (awx:asw md ops=true)(axu:lastB md ops m=true)
  (hrun:∀ j,j < m→∀ o,ops[j]?=some o→∀ a:Act,a.defers=a0.defers→(∀ s,(s < d∨d+m≤s)→a.tmps.getD s undef=a0.tmps.getD s undef)→
   (∀ e∈o.after,Region.binds md e=true→a.tmps.getD (d+e.on) undef=vals.getD e.on undef)→(∀ f,o.about P W a.eval=some f→F.fn f)∧(o.semAt F.round a.eval).run P W=.ok (.value (vals.getD j undef)) W)
  (hfin:∀ a:Act,a.defers=a0.defers→a.tmps.size=a0.tmps.size→(∀ s,(s < d∨d+m≤s)→a.tmps.getD s undef=a0.tmps.getD s undef)→(∀ j,j < m→a.tmps.getD (d+j) undef=vals.getD j undef)→wpOpIn F n P ops Q m (fun a' w'=>Q .normal a' w') a W):
  wpAnyIn F n P md ops Q ops.size (Array.replicate ops.size false) a0 W:=by
 have uf:∀ j o,ops[j]?=some o→∀ e∈o.after,Region.binds md e=true→e.on < j:=by
  intro j o ho e he hb;have hj:=(Dn.1 ho).1;have:=Nl.1 awx j (List.mem_range.2 hj);rw[ho] at this;have h2:=(Array.all_eq_true_iff_forall_mem.1 this) e he;simpa[hb] using h2
 have fZ:∀ o,ops[m]?=some o→∀ j,j < m→∃ e∈o.after,Region.binds md e=true∧e.on=j:=by
  intro o ho j hj;have:=Nl.1 axu j (List.mem_range.2 hj);rw[ho] at this;have h2:o.after.any (fun e=>Region.binds md e && decide (e.on=j))=true:=this;rw[Array.any_eq_true] at h2;obtain⟨i,hi,h3⟩:=h2;exact⟨_,Array.getElem_mem hi,by simpa using h3⟩
 have main:∀ (fuel:Nat) (listed:Array Bool) (a:Act),listed.size=m+1→listed.toList.count false=fuel→listed.getD m true=false→asb a0 d m vals listed a→wpAnyIn F n P md ops Q fuel listed a W:=by
  intro fuel
  induction fuel with
  |zero=>
   intro listed a hs hc hm _;exfalso;rw[List.count_eq_zero] at hc;apply hc;rw[Array.getD_eq_getD_getElem?,Xu (by omega)] at hm;have:listed[m]'(by omega)=false:=(by simpa using hm);rw[←this];exact Array.mem_toList_iff.2 (Array.getElem_mem _)
  |succ fuel ih=>
   intro listed a hs hc hm hR;have hex:∃ i,i∈Region.ready md ops listed:=by
    obtain⟨j,hj,axF⟩:=least (fun j=>listed.getD j true) m hm;have hjs:j < m+1:=by
     rcases Nat.lt_or_ge j (m+1) with h|h
     ·exact h
     ·rw[Array.getD_eq_getD_getElem?,Array.getElem?_eq_none (by omega)] at hj;simp at hj
    refine⟨j,mem_ready.2 ⟨hj,ops[j]'(by omega),Xu _,fun e he hb=>?_⟩⟩;have hlt:=uf j _ (Xu (by omega)) e he hb;have:=axF e.on hlt;rw[Array.getD_eq_getD_getElem?,Xu (by omega)] at this ⊢;simpa using this
   refine⟨fun h0=>by obtain⟨i,hi⟩:=hex;rw[h0] at hi;exact(List.not_mem_nil hi).elim,fun i hi=>?_⟩;obtain⟨Ug,o,ho,hall⟩:=mem_ready.1 hi;have his:i < m+1:=by
    have:=(Dn.1 ho).1;omega
   by_cases uH:i < m
   ·obtain⟨o',SX,awW,hg⟩:=hops i uH;obtain rfl:o'=o:=(by rw[ho] at SX;exact(GR SX).symm);have SQ:∀ j,j < m→listed.getD j false=true→a.tmps.getD (d+j) undef=vals.getD j undef:=hR.got
    obtain⟨hab,WU⟩:=hrun i uH o' ho a hR.defers hR.out (fun e he hb=>by
     have h1:=hall e he hb;have h2:=uf i o' ho e he hb;exact SQ e.on (by omega) h1)
    unfold wpOpIn;simp only[ho];rw[Ae (by simp[Region.wanted,hg])];refine⟨hab,?_⟩;rw[WU];simp only[Oper.uponIn];have Pm:=count_set listed i (by omega) Ug;refine ih _ _ (by rw[Array.size_setIfInBounds];exact hs) (by omega) ?_ ?_
    ·rw[sV,A9 (by omega)];exact hm
    ·rw[awW];refine⟨hR.defers,?_,?_,?_⟩
     ·simp only[Act.put,Array.size_setIfInBounds];exact hR.size
     ·intro s hsx;simp only[Act.put];rw[sV,A9 (by omega)];exact hR.out s hsx
     ·intro j hj hl;simp only[Act.put];rw[sV] at hl ⊢;by_cases Yw:i=j
      ·subst Yw;rw[Ae ⟨rfl,by rw[hR.size];omega⟩]
      ·rw[A9 (by omega)];rw[A9 (by omega)] at hl;exact hR.got j hj hl
   ·obtain rfl:i=m:=(by omega);have ajE:∀ j,j < i→listed.getD j false=true:=fun j hj=>by
     obtain⟨e,he,hb,rfl⟩:=fZ o ho j hj;exact hall e he hb
    refine wpOpIn_mono ?_ (hfin a hR.defers hR.size hR.out (fun j hj=>hR.got j hj (ajE j hj)));intro a' w' hq;have Pm:=count_set listed i (by omega) Ug;have uQ:Region.ready md ops (listed.setIfInBounds i true)=[]:=by
     rw[VI];intro j hj;obtain⟨YA,oj,gG,_⟩:=mem_ready.1 hj;have hjs:=(Dn.1 gG).1;rw[sV] at YA;by_cases Yw:i=j
     ·rw[Ae ⟨Yw,by omega⟩] at YA;cases YA
     ·rw[A9 (by omega)] at YA;have:=ajE j (by omega);rw[Array.getD_eq_getD_getElem?,Xu (by omega)] at this YA;simp at this YA;rw[this] at YA;cases YA
    cases fuel with
    |zero=>exact⟨uQ,hq⟩
    |succ fuel=>exact⟨fun _=>hq,fun j hj=>by rw[uQ] at hj;cases hj⟩
 refine main ops.size _ a0 (by simp[Ki]) (by simp) ?_ ⟨rfl,rfl,fun _ _=>rfl,fun j hj hl=>?_⟩
 ·rw[Array.getD_eq_getD_getElem?,Array.getElem?_replicate,Ae (by omega)];rfl
 ·rw[Array.getD_eq_getD_getElem?,Array.getElem?_replicate,Ae (by omega)] at hl;cases hl
end
end
section
open Go.RowKit Go.Maps Go.Shelf
attribute [local go_sem] OJ
def ae0(p:Value):Sem Value:=Instr.loadAt 242 p
theorem ao6(p:Value):Instr.loadAt 242 p=ae0 p:=rfl
def ao2(p v:Value):Sem Unit:=Instr.storeAt 242 p v
theorem ao7(p v:Value):Instr.storeAt 242 p v=ao2 p v:=rfl
theorem anY{W:World}{g o:Nat}{p:Nat×List UInt8}(h:p.2.length=64)(hr:W.rangeAt g o (Value.int .i64 (p.1:Int) :: Cq p.2)):(ae0 (.pointer (some ⟨g,o,none⟩))).run prog W=.ok (.agg (putRow p)) W:=by
 have:=run_loadAt_mid (P:=prog) W g o 242 _ _ hr underlying242 rfl (wR p h);rw[wQ] at this;exact this
theorem aAH(W:World){p:Nat×List UInt8}(h:p.2.length=64):(ae0 (.pointer W.heap.size)).run prog (W.alloc (.cells (putRow p) 242))=.ok (.agg (putRow p)) (W.alloc (.cells (putRow p) 242)):=by
 refine anY h (fun j v hv=>?_);rw[GQ,E5,←Dx,bN];exact hv
theorem ao3(W:World){p:Nat×List UInt8}(h:p.2.length=64)(Z:Array Value)(hZ:Z.size=65):(ao2 (.pointer W.heap.size) (.agg (putRow p))).run prog (W.alloc (.cells Z 242))=.ok () (W.alloc (.cells (putRow p) 242)):=
 run_storeAt_new W _ Z (putRow p) (wS p h) (by rw[hZ,ae4 p h]) (wN p)
attribute [local go_sem ↓] ao6 ao7
abbrev Item(N:Nat):={ p:Nat×List UInt8 // p.1 < N∧p.2.length=64 }
def encI{N:Nat}(x:Item N):Array Value:=#[.agg (putRow x.1)]
def as2(m n₀ k:Nat):Prop:=k=m∨n₀≤k
def Kp(m n₀:Nat)(W W':World):Prop:=A7 (as2 m n₀) W W'
theorem ady{m n₀:Nat}{A B C:World}(h:Kp m n₀ A B)(k:Kp m n₀ B C):Kp m n₀ A C:=h.trans k (fun _ h=>.inl h)
theorem ayQ{m n₀ M:Nat}(hM:n₀≤M):∀ (W:World) (l:Nat) (o o':Obj),M≤l→W.heap[l]?=some o→o.isCells=false→o.isWalk=false→Kp m n₀ W (W.putObj l o'):=fun W l o o' h _ _ _=>by
 have hg:=grownBy_putObj' W l o';exact A7.of_grownBy hg (fun k e=>.inr (by cases e;omega))
structure dR(m n₀:Nat)(W:World)(lv:Value)(L:List (Nat×List UInt8)):Prop where
 row:W.ownsRow 0 242 65 lv L.length (Oz L)
 old:∀ g,lv.ownBlock=some g→g < n₀∧g≠m
 len:∀ p∈L,p.2.length=64
theorem dR.upd{m n₀:Nat}{W W':World}{lv:Value}{L:List (Nat×List UInt8)}(h:dR m n₀ W lv L)(hk:Kp m n₀ W W'):dR m n₀ W' lv L:=
 ⟨BD h.row hk (fun g hg f=>by obtain⟨h1,h2⟩:=h.old g hg;rcases f with f|f;exact h2 f;omega),h.old,h.len⟩
theorem values_in(F:Fence)(n:Nat)(hf:F.fn 211)(hro:F.round=none)(a:Option Addr)(len cap:Nat)(w:World):
  CallsIn F n prog 211 #[.slice a len cap] w fun e w'=>e=.returned (.func (.func 260) #[] #[.pointer w.heap.size])∧w'=w.alloc (.cells #[.slice a len cap] 142):=by
 refine callsIn_of_wp func211 rfl hf ?_ hro;simp only[ntmps211,Kz,BM,IV,Nat.reduceAdd,Nat.reduceSub,Nj,Nk,Nq,Nn,EE,I5]
 gi_wp2
 go_ret;exact⟨rfl,rfl⟩
theorem values_stops(F:Fence)(n:Nat)(hf:F.fn 260)(hro:F.round=none)(hn:1≤n)(N m n₀ Bs:Nat)(lv:Value)(L:List (Item N))(w:World)(hc:w.cell? Bs=some lv)(hL:dR m n₀ w lv (L.map (·.1)))(hlen:L.length≤1000000000):
  SeqStopsK F n prog 260 #[.pointer Bs] (encI (N:=N)) (Kp m n₀) (fun ys=>ys=L) (fun _=>True) L.length w:=fun l J Jx W hW hJ _ hY h0=>by
 have Pm:=(hW.cell (p:=⟨Bs,0,none⟩) (Cv hc)).trans hc;have hL':dR m n₀ W lv (L.map (·.1)):=⟨BD hL.row (ub hW) (fun _ _ f=>f),hL.old,hL.len⟩;obtain⟨q,cap,rfl⟩:∃ q cap,lv=.slice q L.length cap:=by
  rcases hL.row.2 with⟨e1,e2⟩|⟨g,cap,_,e1,_⟩
  ·rw[Ca] at e2;exact⟨none,0,by rw[e1,e2]⟩
  ·rw[Ca] at e1;exact⟨_,cap,e1⟩
 have HL:=Hi hL';clear hL hL' hc;refine callsIn_of_wp func260 rfl hf ?_ hro;simp only[ntmps260,Kz,BM,IV,Nat.reduceAdd,Nat.reduceSub,Nj,Nk,Nq,Nn,EE,I5]
 gi_wp2
 gi_loopw [7] (fun i wr=>∃ k:Nat,k≤L.length∧i=.int .i64 k∧J (L.take k) wr∧Kp m n₀ W wr)
  (fun i _=>L.length -(intOf i).toNat)
 case atStart=>exact⟨0,AV _,rfl,by rw[Gm];exact h0,A7.refl _ _⟩
 case round=>
  obtain⟨k,hk,rfl,SE,GK⟩:=hrel;by_cases hlt:k < L.length
  ·have SQ:=(HL.upd GK).row;obtain⟨g,rfl⟩:∃ g,q=some ⟨g,0,none⟩:=by
    rcases SQ.2 with⟨e1,e2⟩|⟨g,cap,_,e1,_⟩
    ·rw[Ca] at e2;omega
    ·exact⟨g,by injection e1⟩
   have JK:k < (L.map (·.1)).length:=(by rw[Ca];exact hlt);have hr:=amN (by rw[Ca] at SQ ⊢;exact SQ) HL.len k JK;have II:=Hy prog 142 242 underlying142 65 ao5 ⟨g,0,none⟩ L.length cap k hlt;have kJ:(⟨g,0,none⟩:Addr).add (k*65)=⟨g,k*65,none⟩:=(by unfold Addr.add;split<;>simp_all);rw[kJ] at II;rw[List.getElem_map] at hr;have X4:L.take (k+1)=L.take k++[L[k]]:=(by rw[List.take_add_one,CZ hlt];rfl);have CL:=Hi X4;have GZ:=anY L[k].2.2 hr;have WV:=ao3 wr L[k].2.2 Tryz.zeroCells242 wT;have Ho:=aAH wr L[k].2.2;generalize L[k]=x at*;have hJ':J (L.take k) (wr.alloc (.cells (putRow x.1) 242)):=hJ _ _ _ none SE (World.grownBy_alloc _ _ none) (fun r e=>by cases e);obtain⟨fn,tmps,assign,body,hy,hR⟩:=hY _ x _ hJ' (by rw[Bc];omega);unfold encI at hy;have CW:=Hi GK;clear hr SQ kJ X4 GK SE
   gi_wp2
   refine hR.mono ?_;rintro e W3 (⟨rfl,hJ3,Vj⟩|⟨rfl,abD⟩)
   ·gi_wp2
    go_roundw
    case rel=>
     have h1:Kp m n₀ wr (wr.alloc (.cells (putRow x.1) 242)):=(A7.refl _ wr).alloc _;exact⟨k+1,by omega,by simp,by rw[CL.out];exact hJ3,ady CW (ady h1 Vj)⟩
    case measure=>simp[intOf];omega
   ·gi_wp2
    refine EO (results_none rfl _ _ _) rfl ?_;exact⟨⟨_,rfl⟩,.inr ⟨_,trivial,abD⟩⟩
  ·obtain rfl:k=L.length:=by omega
   gi_wp2
   go_end0
   exact⟨⟨_,rfl⟩,.inl ⟨_,rfl,by rw[D5] at SE;exact SE⟩⟩
end
section
open Go.RowKit Go.Maps Go.Shelf
attribute [local go_sem] OJ
attribute [local go_sem ↓] ao6 ao7 aer
def laid(D:A8)(pre:List (Item D.n)):A8:={ D with base:=A8.lay D.base (pre.map (·.1)) }
theorem amx(D:A8)(pre:List (Item D.n))(x:Item D.n):laid D (pre++[x])={ laid D pre with base:=fun k=>if k=x.1.1 then x.1.2 else(laid D pre).base k }:=by
 unfold laid;rw[CQ,Ce,Kw,A8.amB]
theorem az0{D:A8}(h:D.Cg)(pre:List (Item D.n)):(laid D pre).Cg:=
 ⟨h.n1,h.n2,A8.nI h.base (fun p hp=>by obtain⟨y,_,rfl⟩:=Bv.1 hp;exact y.2),h.loose,h.left⟩
theorem Fv.put{w:World}{b m:Nat}{lv:Value}{D:A8}(h:Fv w b m lv D){f:Nat→List UInt8}{w':World}(hs:Oa w' m D.n f)(hg:w.grownBy w' (some m))(hf:A8.Cg { D with base:=f }):Fv w' b m lv { D with base:=f }:=by
 have hu:A7 (fun k=>k=m) w w':=A7.of_grownBy hg (fun k e=>by cases e;rfl);refine⟨?_,hs,BD h.loose hu (fun g Ps e=>h.lm (by rw[Ps,e])),h.mb,h.lb,h.lm,hf⟩;rw[hu.block b (Dn.1 h.struct).1 (Ne.symm h.mb)];exact h.struct
theorem aC3{W:World}{g o:Nat}{x:List UInt8}(h:x.length=64)(hr:W.rangeAt g o (Cq x)):(aeq (.pointer (some ⟨g,o,none⟩))).run prog W=.ok (.agg (Dk x)) W:=by
 have:=run_loadAt_mid (P:=prog) W g o 240 _ _ hr underlying240 rfl (oz x h);rw[iV] at this;exact this
theorem az3{w:World}{b m:Nat}{lv:Value}{D:A8}(h:Fv w b m lv D){gf:Nat}{lb:Array Value}(he:∀ args w,(callFunc gf args).run prog w=.ok (.enter gf args) w){n₀:Nat}(axN:n₀≤w.heap.size){L:List (Item D.n)}{N n:Nat}(hn:3≤n)
  (hs:SeqStopsK Fence.wide (n -1) prog gf lb (encI (N:=D.n)) (Kp m n₀) (fun ys=>ys=L) (fun _=>True) N w):
  CallsIn Fence.wide n prog 75 #[.pointer b,.func (.func gf) #[] lb] w fun e w'=>(∃ v,e=.returned v)∧Fv w' b m lv (laid D L)∧A7 (fun k=>k=m) w w':=by
 have h1:1≤n:=by omega
 have Rn:prog.follows .mixedOrders=true:=by kernel_rfl
 have Qr:=h.fine;have HD:=Hi h;have hb:b < w.heap.size:=(Dn.1 h.struct).1;have hm:m < w.heap.size:=h.base.lt;clear h;refine callsIn_of_wp_marks func75 rfl trivial ?_ rfl;simp only[ntmps75,Kz,BM,IV,Nat.reduceAdd,Nat.reduceSub,Nj,Nk,Nq,Nn,EE,I5]
 gi_wp2
 have ak:=Boxed.new w 70 (.pointer b);have hU0:A7 (fun k=>k=m) w (w.alloc (.cells #[b] 70)):=(A7.refl _ w).alloc _;have hD0:Fv (w.alloc (.cells #[b] 70)) b m lv (laid D []):=HD.upd ((A7.refl (fun _=>False) w).alloc _) (fun _ _ f=>f);have BS:(w.alloc (.cells #[b] 70)).heap.size=w.heap.size+1:=Az _ _;refine wpIn_rangeFunc_ownH rfl h1 (gf:=gf) (lb:=lb) rfl trivial he hs ady (ayQ (by omega)) ((Ai _ w).alloc (Ag _) _) (fun _=>rfl)
  (fun pre W=>(Fv W b m lv (laid D pre)∧Boxed W w.heap.size 70 (.pointer b))∧A7 (fun k=>k=m) w W)
  (fun _ _ _=>False)
  (fun s A B row hs hg hr=>?hown)
  (fun _ _ _ _ _ hs _ _=>hs)
  ⟨⟨hD0,ak⟩,hU0⟩
  (fun x a' W=>∃ Bx,w.heap.size < Bx∧W.heap[Bx]?=some (.cells (putRow x.1) 242 (0,0))∧a'={ tmps:=#[.pointer b,.func (.func gf) #[] lb,.pointer w.heap.size,undef,.pointer (some ⟨Bx,0,none⟩),.func (.func gf) #[] lb,.agg (putRow x.1),undef,undef,undef,undef,undef,undef,undef,undef],defers:=[] })
  (fun x a' _ X Y row hs hg hr=>?hAx)
  ?assign ?body ?done ?stop
 case hown=>
  have hu:A7 (fun k=>w.heap.size+1≤k) A B:=A7.of_grownBy hg (fun k e=>by have:=(hr k e).1;omega);obtain⟨⟨g1,g2⟩,g3⟩:=hs;refine⟨⟨g1.upd hu (fun k hk=>?_),g2.kept hg (fun e=>?_)⟩,g3.trans hu (fun i hi=>.inr (by omega))⟩
  ·rcases hk with rfl|rfl|hk
   ·omega
   ·omega
   ·have:=bM HD.loose hk;omega
  ·have:=(hr _ e.symm).1;omega
 case hAx=>
  obtain⟨Bx,g1,g2,g3⟩:=hs;refine⟨Bx,g1,(hg.block Bx (Dn.1 g2).1 (fun e=>?_)).trans g2,g3⟩;obtain⟨_,o,ho,hc⟩:=hr Bx e.symm;rw[g2] at ho;cases ho;cases hc
 case assign=>
  rintro l pre x W K⟨⟨hD,hB⟩,hU⟩ hK;have WV:=ao3 W x.2.2 Tryz.zeroCells242 wT;unfold encI
  gi_wp2
  exact hK _ _ ((KeepsOthers.alloc _ _).from _) ((A7.refl _ W).alloc _) ⟨⟨hD.upd ((A7.refl (fun _=>False) W).alloc _) (fun _ _ f=>f),hB.alloc _⟩,hU.alloc _⟩ ⟨W.heap.size,hB.lt,World.alloc_heap_new W _,rfl⟩
 case body=>
  rintro l pre x a' W hl⟨r,hr⟩ ⟨⟨hD,hB⟩,hU⟩ ⟨Bx,IE,hx,rfl⟩ hlt;have c0:=hB.cell;obtain⟨_,c1,_,_,_,_⟩:=hD.cells;have Ox:W.cell? ⟨Bx,0,none⟩=some ↑(x.1.1:Int):=by rw[BJ W Bx 0 _ _ _ hx];exact ao1 x.1
  have hxs:W.rangeAt Bx 1 (Cq x.1.2):=fun j v hv=>by
   rw[BJ W Bx (1+j) _ _ _ hx,←Dx,bN,Nat.add_comm 1 j];exact hv
  have hls:=aC3 (W:=W.drew) x.2.2 (fun j v hv=>hxs j v hv);obtain⟨w2,gK,tT,Ec⟩:=Oa.put (w:=W.drew) (hD.base.kept rfl) x.1.1 x.2.1 (by exact hD.fine.n2) x.1.2
  gi_wp2
  refine wpIn_region_any Rn ?_;refine aEk (m:=8) (d:=7) (vals:=#[.pointer b,.pointer b,.pointer (some ⟨b,1,none⟩),.map (some m),.pointer (some ⟨Bx,0,none⟩),.int .i64 (x.1.1:Int),.pointer (some ⟨Bx,1,none⟩),.agg (Dk x.1.2)]) rfl (by simp) ?hops (by kernel_rfl) (by kernel_rfl) ?hrun ?hfin
  case hops=>
   intro j hj;have:j=0∨j=1∨j=2∨j=3∨j=4∨j=5∨j=6∨j=7:=(by omega);rcases this with rfl|rfl|rfl|rfl|rfl|rfl|rfl|rfl<;>exact⟨_,rfl,rfl,rfl⟩
  case hrun=>
   intro j hj;have:j=0∨j=1∨j=2∨j=3∨j=4∨j=5∨j=6∨j=7:=(by omega);have a2:∀ a:Act,(∀ s,(s < 7∨7+8≤s)→a.tmps.getD s undef=(#[Value.pointer b,.func (.func gf) #[] lb,.pointer w.heap.size,undef,.pointer (some ⟨Bx,0,none⟩),.func (.func gf) #[] lb,.agg (putRow x.1),undef,undef,undef,undef,undef,undef,undef,undef]:Array Value).getD s undef)→a.tmps.getD 2 undef=.pointer w.heap.size∧a.tmps.getD 4 undef=.pointer (some ⟨Bx,0,none⟩):=fun a h=>⟨h 2 (by omega),h 4 (by omega)⟩
   rcases this with rfl|rfl|rfl|rfl|rfl|rfl|rfl|rfl<;>(intro o ho;cases ho;intro a _ hout Dj;obtain⟨t2,t4⟩:=a2 a hout;simp[Region.binds] at Dj;refine⟨fun f hf=>(by simp[Oper.about] at hf),?_⟩;simp[go_sem, *])
  case hfin=>
   intro a hdf aGi hout uC;have t10:=uC 3 (by omega);have t12:=uC 5 (by omega);have t14:=uC 7 (by omega);clear uC hout;simp at t10 t12 t14;unfold wpOpIn;simp[Region.wanted,Oper.wpIn,go_sem,t10,t12,t14,gK];have hD1:Fv W.drew b m lv (laid D pre):=hD.upd ((A7.refl (fun _=>False) W).drew) (fun _ _ f=>f);have hfin:(laid D (pre++[x])).Cg:=az0 Qr _;rw[amx] at hfin;have tJ:=hD1.put tT Ec hfin;rw[←amx] at tJ;have ED:A7 (fun k=>k=m) W w2:=((A7.refl _ W).drew).trans (A7.of_grownBy (F:=fun k=>k=m) Ec (fun k e=>by cases e;rfl)) (fun _ h=>.inl h);refine⟨?_,ED.mono (fun i e=>.inl e),⟨tJ,?_⟩,hU.trans ED (fun _ h=>.inl h)⟩
   ·exact((KeepsOthers.drew W).from _).trans (KeepsFrom.of_grownBy Ec (fun j e=>by cases e;omega))
   ·exact(ED.block _ hB.lt (by omega)).trans hB
 case done=>
  rintro DD ys W hDD rfl⟨⟨hD,hB⟩,hU⟩ hK
  gi_wp2
  refine⟨by simp,.inl ⟨_,_,rfl,run_takeDeferred hK,?_⟩⟩;have hu:A7 (fun k=>k=DD) W (W.putObj DD (.deferred none)):=A7.of_grownBy (grownBy_putObj' W DD (.deferred none)) (fun k e=>by cases e;rfl);refine⟨_,results_none rfl _ _ _,⟨_,rfl⟩,hD.upd hu (fun k hk e=>?_),hU.trans hu (fun i hi=>.inr (by omega))⟩;subst e;rcases hk with rfl|rfl|hk
  ·omega
  ·omega
  ·have:=bM HD.loose hk;omega
 case stop=>
  rintro DD c pre W _ _ h _;exact h.elim
end
section
open Go.RowKit Go.Maps Go.Shelf
theorem amg{N:Nat}:∀ (l:List (Nat×List UInt8)),(∀ p∈l,p.1 < N∧p.2.length=64)→∃ L:List (Item N),L.map (·.1)=l
 |[],_=>⟨[],rfl⟩
 |p :: l,h=>by
  obtain⟨L,hL⟩:=amg l (fun q hq=>h q (Fs _ hq));exact⟨⟨p,h p Gl⟩ :: L,by rw[Ce,hL]⟩
theorem Fv.looseAt{w:World}{b m:Nat}{lv:Value}{D:A8}(h:Fv w b m lv D):dR m w.heap.size w lv D.loose:=
 ⟨h.loose,fun _ hg=>⟨bM h.loose hg,fun e=>h.lm (by rw[hg,e])⟩,fun p hp=>(h.fine.loose p hp).2⟩
theorem Fv.drop{w:World}{b m:Nat}{lv:Value}{D:A8}(h:Fv w b m lv D):Fv (w.setCell ⟨b,2,none⟩ ↑()) b m ↑() { D with loose:=[] }:=by
 have hu:A7 (fun k=>k=b) w (w.setCell ⟨b,2,none⟩ ↑()):=(A7.refl (fun k=>k=b) w).setCell (p:=⟨b,2,none⟩) (.inl rfl) _;refine⟨?_,h.base.kept (hu.block m h.base.lt h.mb),?_,h.mb,by simp[Value.ownBlock],by simp[Value.ownBlock],⟨h.fine.n1,h.fine.n2,h.fine.base,fun p hp=>by simp at hp,h.fine.left⟩⟩
 ·exact Cs w b 2 _ _ ↑() h.struct
 ·show World.ownsRow _ 0 _ 65 ↑() 0 _
  rw[amL];exact DZ _ _ _ _
theorem aDW(a:Option Addr)(len cap:Nat)(w:World):
  Calls prog 211 #[.slice a len cap] w fun e w'=>e=.returned (.func (.func 260) #[] #[.pointer w.heap.size])∧w'=w.alloc (.cells #[.slice a len cap] 142):=
 DK.1 (values_in Fence.wide 3 trivial rfl a len cap w)
theorem az5{w:World}{b m:Nat}{q:Option Addr}{cap:Nat}{D:A8}(h:Fv w b m (.slice q D.loose.length cap) D)(hlen:D.loose.length≤1000000000):
  Calls prog 75 #[b,.func (.func 260) #[] #[.pointer w.heap.size]] (w.alloc (.cells #[.slice q D.loose.length cap] 142)) fun e w'=>(∃ v,e=.returned v)∧Fv w' b m (.slice q D.loose.length cap) { D with base:=A8.lay D.base D.loose }∧A7 (fun k=>k=m) w w':=by
 obtain⟨L,hL⟩:=amg (N:=D.n) D.loose h.fine.loose;have hb:=(Ai w.heap.size w).alloc (Ag _) (.cells #[.slice q D.loose.length cap] 142);have h':=h.below hb;have ak:=Boxed.new w 142 (.slice q D.loose.length cap);have EA:L.length=D.loose.length:=by rw[←hL,Ca]
 have hs:=values_stops Fence.wide 2 trivial rfl (by omega) D.n m (w.alloc (.cells #[.slice q D.loose.length cap] 142)).heap.size w.heap.size (.slice q D.loose.length cap) L _ ak.cell (by rw[hL];exact h'.looseAt) (by omega);refine(DK.1 (az3 h' (enters_of func260 (by kernel_rfl) rfl) (Ag _) (n:=3) (by omega) hs)).mono ?_;rintro e w'⟨g1,g2,g3⟩;refine⟨g1,?_,(A7.of_below hb).trans g3 (fun _ h=>.inl h)⟩;unfold laid at g2;rw[hL] at g2;exact g2
theorem sJ{w:World}{b:Nat}{D:A8}{fp:Nat→Prop}(h:BP w b D fp)(hlen:D.loose.length≤1000000000):
  Calls prog 143 #[b] w fun e w'=>e=.returned (.int .i64 D.flush.2)∧∃ fp',BP w' b D.flush.1 fp'∧A7 fp w w'∧Dq fp fp' w:=by
 obtain⟨m,lv,hI,rfl⟩:=h;have HI:=Hi hI;by_cases hd:D.down=true
 ·have hu:Hid (D.up=40):=Hi (by unfold A8.up;rw[hd];rfl);have hF:D.flush=(D,40):=by unfold A8.flush;rw[Ae hd]
  rw[hF];clear hF hd
  go_in
  go_wp2_with fail;refine(Zg hI).mono ?_;rw[hu.out];rintro e w1⟨rfl,rfl⟩;go_wp2;go_ret;exact⟨rfl,_,⟨m,lv,HI,rfl⟩,A7.refl _ _,fun _ h=>.inl h⟩
 ·have az:D.down=false:=by simpa using hd
  have hu:Hid (D.up=0):=Hi (by unfold A8.up;rw[az];rfl);have hF:D.flush=({ D with base:=A8.lay D.base D.loose,loose:=[] },0):=by unfold A8.flush;rw[A9 hd]
  rw[hF];clear hF hd az;obtain⟨q,cap,rfl⟩:∃ q cap,lv=.slice q D.loose.length cap:=by
   rcases hI.loose.2 with⟨e1,e2⟩|⟨g,cap,_,e1,_⟩
   ·exact⟨none,0,by rw[e1,e2]⟩
   ·exact⟨_,cap,e1⟩
  obtain⟨_,_,c2,_,_,_⟩:=hI.cells
  go_in
  go_wp2_with fail;refine(Zg hI).mono ?_;rw[hu.out];rintro e w1⟨rfl,rfl⟩;go_wp2_with fail;refine(aDW _ _ _ _).mono ?_;rintro e w1⟨rfl,rfl⟩;go_wp2_with fail;refine(az5 HI hlen).mono ?_;rintro e w1⟨⟨v,rfl⟩,hD,hU⟩;have HD:=Hi hD;have HU:=Hi hU;obtain⟨_,_,d2,_,_,df⟩:=hD.cells;have df2:=df 2;clear hI hD hU df c2;go_wp2;go_ret;refine⟨rfl,_,⟨m,_,HD.drop,rfl⟩,(HU.mono (fun _ e=>.inr (.inl e))).setCell (p:=⟨b,2,none⟩) (.inl (.inl rfl)) _,?_⟩;rintro k (rfl|rfl|hk)
  ·exact .inl (.inl rfl)
  ·exact .inl (.inr (.inl rfl))
  ·simp[Value.ownBlock] at hk
end
section
open Go.RowKit Go.Maps Go.Shelf
end
section
open Go.RowKit Go.Maps
theorem apI(w:World)(n:Nat)(hn:n≤1000000000):∃ C,(Instr.makeSlice 54 ↑(n:Int) ↑(n:Int)).run prog w=.ok (.slice w.heap.size n n) (w.alloc (.cells C 5))∧
  BytesAt (w.alloc (.cells C 5)) w.heap.size (List.replicate n 0):=by
 have aG:(prog.info? 5).map (fun i=>(i.zero,i.size,i.bytes))=some (some (.int .u8 0),1,1):=by kernel_rfl
 obtain⟨i0,hi,AY,AZ,Bb⟩:=Dy aG;have hrun:=run_make (P:=prog) w 54 5 i0 _ underlying54 hi AY .i64 .i64 n n (by omega) (Int.le_refl _) (by rw[Bb];omega) (by omega);rw[Int.toNat_natCast] at hrun;refine⟨_,hrun,ahi w _ _ _ (fun i hi=>?_)⟩;rw[List.length_replicate] at hi;rw[AZ,List.getElem_replicate];simp[madeCells,Value.cells];exact⟨i,by rw[Array.getElem?_range,Ae hi],by rw[Nat.mod_one];rfl⟩
theorem Bp{w:World}{base e s:Nat}{v:Value}{n:Nat}{xs:List Value}(h:w.ownsRow base e s v n xs):∃ q cap,v=.slice q n cap:=by
 rcases h.2 with⟨e1,e2⟩|⟨g,cap,_,e1,_⟩
 ·exact⟨none,0,by rw[e1,e2]⟩
 ·exact⟨_,cap,e1⟩
theorem Cc{w w':World}{base e s:Nat}{v:Value}{n:Nat}{xs:List Value}(h:w.ownsRow base e s v n xs)(hb:Bw w w'):w'.ownsRow base e s v n xs:=BD h (ub hb) (fun _ _ f=>f)
end
section
open Go.RowKit Go.Maps
@[irreducible] def strCells (l:List (List UInt8)):List Value:=l.map fun s=>Value.string (bs s)
theorem strCells_length(l:List (List UInt8)):(strCells l).length=l.length:=by unfold strCells;simp
theorem Zb(l:List (List UInt8))(i:Nat)(h:i < l.length):(strCells l)[i]?=some (.string (bs l[i])):=by
 unfold strCells;rw[JS,CZ h];rfl
theorem Tj(l:List (List UInt8))(s:List UInt8):strCells (l++[s])=strCells l++[.string (bs s)]:=by unfold strCells;simp
theorem aeA(l:List (List UInt8)):∀ u∈strCells l,u.oneCell'=true:=by
 intro u hu;unfold strCells at hu;obtain⟨s,_,rfl⟩:=Bv.1 hu;rfl
@[irreducible] def aGF (l:List (Nat×List UInt8)):List Value:=l.flatMap fun p=>[Value.int .i64 (p.1:Int),.string (bs p.2)]
end
section
open Go.RowKit Go.Maps
end
section
open Go.RowKit Go.Maps
theorem aeB:(prog.info? 9).map (fun i=>(i.zero,i.size,i.bytes))=some (some (.string ByteArray.empty),1,16):=by kernel_rfl
end
section
open Go.RowKit Go.Maps
end
section
open Go.RowKit Go.Maps
end
section
open Go.RowKit Go.Maps
end
section
open Go.RowKit Go.Maps
end
section
open Go.RowKit Go.Maps
end
section
open Go.RowKit Go.Maps
end
section
open Go.RowKit Go.Maps
end
section
open Go.RowKit Go.Maps
end
section
open Go.RowKit
open Aw
theorem FP(w:World)(n:Nat):Bw w (w.drewN n):=⟨rfl,rfl,rfl,Ag _,fun _ _=>rfl⟩
theorem Z7(P:Program)(W:World)(t:TypeId)(hu:P.underlying t=some .string)(s:List UInt8)(lo hi:Nat)(h1:lo≤hi)(h2:hi≤s.length):
  (Instr.slice t ↑s (some ↑(lo:Int)) (some ↑(hi:Int)) none).run P W=.ok ↑((s.take hi).drop lo) W:=by
 have g2:(hi:Int)≤(s.length:Int):=by omega
 simp[Instr.slice,He hu,Instr.sliceBounds,run_sliceBound,go_sem,h1,g2]
theorem aAe(V b k:Nat)(hV:V < 256 ^ k)(hb:b < 256)(hk:k < 8):bits BinOp.or IntKind.u64 (V:Int) (IntKind.u64.wrap (IntKind.u64.wrap (b:Int)*2 ^ (8*k)))=((V+256 ^ k*b:Nat):Int):=by
 have hp:(2:Int) ^ (8*k)=((256 ^ k:Nat):Int):=by rw[Int.pow_mul];norm_cast
 have hle:256 ^ k*256≤256 ^ 8:=by rw[←Nat.pow_succ];exact Nat.pow_le_pow_right (by decide) (by omega)
 have hmul:256 ^ k*b < 256 ^ 8:=Ip (Nat.mul_lt_mul_of_pos_left hb (Nat.pow_pos (by decide))) hle;have EI:0 < 256 ^ k:=Nat.pow_pos (by decide);have h8:(256:Nat) ^ 8=18446744073709551616:=by decide
 have hV8:V < 18446744073709551616:=by
  have:256 ^ k≤256 ^ 8:=Nat.pow_le_pow_right (by decide) (by omega);rw[←h8];exact Ip hV this
 have he:(b:Int)*2 ^ (8*k)=((256 ^ k*b:Nat):Int):=by rw[hp,Int.natCast_mul,Int.mul_comm]
 have hdv:((256 ^ k*b:Nat):Int) % 2 ^ (8*k)=0:=by rw[hp,←Int.natCast_emod,Nat.mul_mod_right];rfl
 have WG:(2:Int) ^ 64=18446744073709551616:=by decide
 have WS:256 ^ k*b < 18446744073709551616:=by rw[←h8];exact hmul
 generalize 256 ^ k*b=m at*;have e1:IntKind.u64.wrap (b:Int)=(b:Int):=u64_wrap_id _ (by omega) (by omega);have e2:IntKind.u64.wrap (m:Int)=(m:Int):=u64_wrap_id _ (by omega) (by omega);rw[e1,he,e2];rw[bits_join_low .u64 64 (by decide) wraps_u64 (8*k) (V:Int) (m:Int) (by omega) (by rw[hp];omega) (by rw[WG];omega) (by omega) hdv (by rw[WG];omega)];exact(Int.natCast_add V m).symm
theorem aeZ(s:List UInt8)(k:Nat)(h:k < s.length):Ab.val (s.take (k+1))=Ab.val (s.take k)+256 ^ k*s[k].toNat:=by
 rw[Cr h,Ab.val_append,Bc,Iq (by omega)];simp[Ab.val]
theorem Y7(s:List UInt8)(w:World)(h1:1≤s.length)(h8:s.length≤8):
  Calls prog 160 #[s] w fun e w'=>e=.returned (.tuple #[.int .u64 (Ab.val s:Nat),.int .i64 0])∧w=w':=by
 have d1:decide ((s.length:Int) < 1)=false:=by simp;omega
 have d2:decide (8 < (s.length:Int))=false:=by simp;omega
 go_in
 go_wp2
 go_loop [2,15] (fun v i=>∃ k:Nat,k≤s.length∧i=.int .i64 k∧v=.int .u64 (Ab.val (s.take k):Nat)) (fun _ i=>s.length -(intOf i).toNat)
 case atStart=>exact⟨0,by omega,rfl,by simp[Ab.val]⟩
 case round=>
  obtain⟨k,hk,rfl,rfl⟩:=hrel;by_cases hlt:k < s.length
  ·have hv:=Ab.Jw (s.take k);rw[Bc,Iq hk] at hv;have SY:=aAe (Ab.val (s.take k)) s[k].toNat k hv (by have:=s[k].toNat_lt;omega) (by omega);rw[←aeZ s k hlt] at SY;have HOR:=Hi SY;clear SY hv;go_wp2
   go_round
   case rel=>exact⟨k+1,by omega,by go_num,by rw[HOR.out]⟩
   case measure=>simp[intOf];omega
  ·go_wp2;go_ret2;have E9:k=s.length:=(by omega);exact⟨by rw[E9,D5];rfl,rfl⟩
theorem adV(s:List UInt8)(w:World)(h:s.length≤65535):
  Calls prog 190 #[s] w (Rt w (.tuple #[(Ab.le 2 s.length++s),.int .i64 0])):=by
 go_in
 go_wp2_with fail;refine(kG s.length 2 _ (by decide)).mono ?_;rintro e w1⟨rfl,hb⟩;go_wp2;go_ret2;exact⟨rfl,hb⟩
theorem adU(s:List UInt8)(w:World)(h:65535 < s.length):
  Calls prog 190 #[s] w fun e w'=>e=.returned (.tuple #[.string (bs []),.int .i64 5])∧w=w':=by
 go_in
 go_wp2;go_ret2;exact⟨rfl,rfl⟩
theorem val_two(s:List UInt8)(h:2≤s.length):Ab.val (s.take 2)=s[0].toNat+256*s[1].toNat:=by
 rw[aeZ s 1 (by omega),aeZ s 0 (by omega)];simp[Ab.val]
def FM(s:List UInt8):List UInt8×Nat×Int:=match Ea s with|none=>([],0,6)|some p=>(p.1,p.2,0)
theorem iC(s:List UInt8)(w:World)(hl:s.length≤1099511627776):
  Calls prog 254 #[s] w (Rt w (.tuple #[(FM s).1,.int .i64 ((FM s).2.1:Nat),.int .i64 (FM s).2.2])):=by
 by_cases h2:s.length < 2
 ·have hR:Hid (FM s=([],0,6)):=Hi (by unfold FM Ea;rw[Ae h2]);rw[hR.out]
  go_in
  go_wp2;go_ret3;exact⟨rfl,Ai _ _⟩
 ·have hv:=val_two s (by omega);have b0:=s[0].toNat_lt;have b1:=s[1].toNat_lt;have hz:(0:Nat) < s.length:=by omega
  have AZ:(1:Nat) < s.length:=by omega
  have Bb:(1:Int) < (s.length:Int):=by omega
  have hz3:(2:Int)≤(s.length:Int):=by omega
  by_cases h3:2+Ab.val (s.take 2)≤s.length
  ·have hR:Hid (FM s=((s.take (2+Ab.val (s.take 2))).drop 2,2+Ab.val (s.take 2),0)):=Hi (by unfold FM Ea;rw[A9 h2,Ae h3]);rw[hR.out];rw[hv] at h3 ⊢;clear hv hR
   go_in
   go_wp2
   go_quiet (fail)
   have e:(2:Int)+(s[0].toNat:Int)+(s[1].toNat:Int)*(256:Int)=((2+(s[0].toNat+256*s[1].toNat):Nat):Int):=(by omega);simp only[e];clear e;have GJ:2≤2+(s[0].toNat+256*s[1].toNat):=(by omega);generalize hn:2+(s[0].toNat+256*s[1].toNat)=n at*;have HN:=Hi hn;clear hn;have hcut:∀ W,(Instr.slice 9 ↑s (some (.int .i64 2)) (some ↑(n:Int)) none).run prog W=.ok ↑((s.take n).drop 2) W:=fun W=>Z7 prog W 9 underlying9 s 2 n GJ h3
   go_wp2;go_ret3;obtain rfl:=HN.out;exact⟨rfl,FP _ _⟩
  ·have hR:Hid (FM s=([],0,6)):=Hi (by unfold FM Ea;rw[A9 h2,A9 h3]);rw[hR.out];rw[hv] at h3;clear hv hR
   go_in
   go_wp2
   go_quiet (fail)
   go_wp2;go_ret3;exact⟨rfl,FP _ _⟩
end
section
open Go.RowKit Go.Maps
open Aw
theorem aCL(k:List UInt8):Lib.strCells (bs k)=Cq k:=by unfold Lib.strCells Cq Dk;rfl
theorem aBK{P:Program}(w:World)(t u ty e:TypeId)(i:TypeInfo)(ht:P.underlying t=some (.slice e))(hu:P.underlying u=some .string)(hi:P.info? e=some i)(hz:i.zero=some (.int .u8 0))
  (Ki:i.size=1)(SG:i.bytes=1)(v:Value)(n:Nat)(xs:List Value)(hown:w.ownsRow 0 e 1 v n xs)(k:List UInt8)(hl:n+k.length≤140737488355328):
  ∃ v' w',(Builtin.append_ #[t,u] ty #[v,.string (bs k)]).run P w=.ok v' w'∧w'.ownsRow 0 e 1 v' (n+k.length) (xs++Cq k)∧w.grownBy w' v.ownBlock∧
   (v'= ↑()↔v= ↑()∧k.length=0)∧(v'.ownBlock=v.ownBlock∨v'.ownBlock=some w.heap.size):=by
 have BS:(bs k).size=k.length:=rfl;obtain⟨v',w',hr,h2,h3,h4⟩:=Lib.run_append_own_string (P:=P) w 0 t u ty e i ht hu hi hz Ki SG v n xs hown (bs k) (by unfold maxLen;rw[BS];omega) (by rw[BS];omega) (AV _);rw[aCL] at h2;refine⟨v',w',hr,h2,h3,h4,?_⟩;rcases hown.2 with⟨rfl,rfl⟩|⟨g,cap,cur,rfl,_,hg,hnc,Qo,DV,ay9⟩
 ·by_cases hk:k.length=0
  ·rw[h4.2 ⟨rfl,hk⟩];exact .inl rfl
  ·have YK:=run_append_nil_string (P:=P) w t u ty e i (.int .u8 0) ht hu hi hz (bs k) (by rw[BS];omega) (by rw[BS];omega) (by rw[SG,BS];omega);rw[hr] at YK;injection YK with e1 _
   rw[e1];exact .inr rfl
 ·by_cases Jo:n+(bs k).size≤cap
  ·have YK:=Lib.run_append_room_string (P:=P) w t u ty e i ht hu hi Ki g n cap cur hg (bs k) Jo (by omega);rw[hr] at YK;injection YK with e1 _
   rw[e1];exact .inl rfl
  ·have YK:=Lib.run_append_grow_string (P:=P) w t u ty e i (.int .u8 0) ht hu hi hz ⟨g,0,none⟩ n cap xs (by rw[Ki];exact hown.1) (hown.cells (g:=g) rfl) (bs k) (by omega) (by rw[BS];omega) (by rw[SG];exact growslice_fits (by omega) (by rw[BS];omega));rw[hr] at YK;injection YK with e1 _
   rw[e1];exact .inr rfl
theorem aEm{P:Program}{w:World}{ops:Array Oper}{rest:List Oper}{o:Oper}{a:Act}{Q:Exit→Act→World→Prop}(Jm:o.guard=none)(sl x:Operand)(t u:TypeId)
  (ho:o.op=.call { callee:=.builtin .append,args:=#[sl,x],argTypes:=#[t,u] })
  (e:TypeId)(i:TypeInfo)(ht:P.underlying t=some (.slice e))(hu:P.underlying u=some .string)(hi:P.info? e=some i)(hz:i.zero=some (.int .u8 0))(Ki:i.size=1)(SG:i.bytes=1)
  (v:Value)(n:Nat)(xs:List Value)(hs:a.eval sl=v)(hown:w.ownsRow 0 e 1 v n xs)(k:List UInt8)(hx:a.eval x= ↑k)(hl:n+k.length≤140737488355328)
  (h:∀ v' w',w'.ownsRow 0 e 1 v' (n+k.length) (xs++Cq k)→w.grownBy w' v.ownBlock→(v'= ↑()↔v= ↑()∧k.length=0)→(v'.ownBlock=v.ownBlock∨v'.ownBlock=some w.heap.size)→wpList P ops Q rest (a.put o.dst v') w'):wpList P ops Q (o :: rest) a w:=by
 refine wpList_plain Jm fun K hK=>?_
 obtain⟨v',w',hr,h2,h3,h4,h5⟩:=aBK (P:=P) w t u o.type e i ht hu hi hz Ki SG v n xs hown k hl;unfold Oper.wp execOp;simp only[ho,resolve,invoke,builtin,Sem.run_bind,Sem.run_pure,Result.andThen_ok,List.map_toArray,Ce,Kw,hs,hx,hr];exact hK _ _ (h v' w' h2 h3 h4 h5)
theorem XZ{w:World}{b:Nat}{l:List UInt8}{fp:Nat→Prop}(h:Et w b l fp)(k:List UInt8)(hlen:l.length+k.length≤1099511627776):
  Calls prog 188 #[b,.string (bs k)] w fun e w'=>e=.returned (.tuple #[(k.length:Int),.nilIface])∧∃ fp',Et w' b (l++k) fp'∧A7 fp w w'∧Dq fp fp' w:=by
 obtain⟨p,v,hb,hp,hown,hne,YI,rfl⟩:=h;have qx:=Hi YI;clear YI;obtain⟨i0,hi,AY,AZ,Bb⟩:=Dy ZV
 go_in
 go_wp2_with fail;refine(aaC b p v _ hb hp).mono ?_;rintro e w1⟨rfl,Ak,G8⟩;have lM:b < w.heap.size:=(Dn.1 hb).1;have LK:w1.ownsRow 0 5 1 v l.length (Cq l):=BD hown G8 (fun q hq e=>hne (by rw[hq,e]));have c1:w1.cell? ⟨b,1,none⟩=some v:=by rw[Lib.cell_of_heap Ak];rfl
 go_wp2_with (at_builtin;refine aEm rfl _ _ 54 9 rfl 5 i0 underlying54 underlying9 hi AY AZ Bb _ _ _ rfl LK k rfl ?c3 ?_)
 case c3=>omega
 intro v' w2 Cf AJ Px hat;have JY:=Hi Px;clear Px;have Ac:w2.heap[b]?=some (.cells #[b,v] 210):=by
  rw[AJ.block b (Ip lM G8.size) (fun e=>hne e.symm)];exact Ak
 have d1:w2.cell? ⟨b,1,none⟩=some v:=by rw[Lib.cell_of_heap Ac];rfl
 have f1:w2.frozen? ⟨b,1,none⟩=false:=Lib.frozen_of_heap Ac 1;have Kj:v'.ownBlock≠some b:=by
  rcases hat with hat|hat
  ·rw[hat];exact hne
  ·rw[hat];intro e;have:=GR e;have:=G8.size;omega
 have Zy:Hid (l++k=[]→v'= ↑()):=Hi (fun e=>by
  obtain⟨e1,e2⟩:=List.append_eq_nil_iff.1 e;exact JY.2 ⟨qx e1,by rw[e2]⟩)
 obtain⟨ao,n',cap,rfl⟩:∃ ao n' cap,v'=.slice ao n' cap:=by
  rcases Cf.2 with⟨hv,_⟩|⟨g,cap,cur,hv,_⟩
  ·exact⟨_,_,_,hv⟩
  ·exact⟨_,_,_,hv⟩
 clear c1;go_wp2;go_ret2;have ED:A7 (fun k=>k=b∨v.ownBlock=some k) w w2:=(G8.mono (fun i e=>Or.inl e)).trans (A7.of_grownBy (F:=fun k=>k=b∨v.ownBlock=some k) AJ (fun q e=>.inr e)) (fun i e=>.inl e);have Du:=ED.setCell (p:=⟨b,1,none⟩) (.inl (.inl rfl)) (.slice ao n' cap);refine⟨rfl,fun q=>q=b∨(Value.slice ao n' cap).ownBlock=some q,⟨some ⟨b,0,none⟩,.slice ao n' cap,Cs w2 b 1 _ _ _ Ac,.inr rfl,?_,Kj,Zy.out,rfl⟩,Du,?_⟩
 ·rw[AA,Ze];exact BD Cf ((A7.refl (fun q=>q=b) w2).setCell (p:=⟨b,1,none⟩) (.inl rfl) _) (fun q hq e=>Kj (by rw[hq,e]))
 ·rintro q (rfl|hq)
  ·exact .inl (.inl rfl)
  ·rcases hat with hat|hat
   ·exact .inl (.inr (by rw[←hat];exact hq))
   ·rw[hat] at hq;have:=GR hq;exact .inr (by have:=G8.size;omega)
def Dz(w:World)(a:Option Addr)(l:List (List UInt8)):Prop:=∀ i,(h:i < l.length)→∃ p:Addr,a=some p∧w.cell? (p.add i)=some ↑l[i]
theorem Dz.below{w w':World}{a:Option Addr}{l:List (List UInt8)}(h:Dz w a l)(hb:Bw w w'):Dz w' a l:=fun i hi=>by
 obtain⟨p,hp,h1⟩:=h i hi;exact⟨p,hp,(hb.cell (Cv h1)).trans h1⟩
theorem Dz.index{w:World}{a:Option Addr}{l:List (List UInt8)}(h:Dz w a l)(cap k:Nat)(hk:k < l.length):
  ∃ q:Addr,(∀ W,(Instr.indexAt 61 (.slice a l.length cap) ↑(k:Int)).run prog W=.ok (.pointer (some q)) W)∧w.cell? q=some ↑l[k]:=by
 obtain⟨p,rfl,h1⟩:=h k hk;refine⟨p.add k,fun W=>?_,h1⟩;have:=Hy prog 61 9 underlying61 1 (by kernel_rfl) p l.length cap k hk W;rw[Nat.mul_one] at this;exact this
def rowLen(l:List (List UInt8)):Nat:=2+(l.map fun s=>2+s.length).sum
theorem aBw(l:List (List UInt8))(k:Nat)(h:k < l.length):rowLen (l.take (k+1))=rowLen (l.take k)+(2+l[k].length):=by
 unfold rowLen;rw[Cr h,CQ,LX];simp;omega
theorem aek(l:List (List UInt8))(k:Nat):rowLen (l.take k)≤rowLen l:=by
 unfold rowLen
 conv=>rhs;rw[←Lb k l,CQ,LX]
 omega
theorem Xo{l:List (List UInt8)}{s:List UInt8}(h:BL l=some s):2+s.length=rowLen l:=by
 induction l generalizing s with
 |nil=>simp[BL] at h;subst h;rfl
 |cons x l ih=>
  simp only[BL] at h;cases h1:Er x with
  |none=>rw[h1] at h;cases h
  |some a=>
   cases h2:BL l with
   |none=>rw[h1,h2] at h;cases h
   |some b=>
    rw[h1,h2] at h;simp at h;subst h;have h3:=ih h2;unfold Er at h1;split at h1
    ·simp at h1;subst h1;simp[rowLen,Ab.Cb] at h3 ⊢;omega
    ·cases h1
def Dg(l:List (List UInt8)):List UInt8×Int:=match GM l with|none=>([],5)|some s=>(s,0)
theorem aeI{l:List (List UInt8)}{k:Nat}(h:k < l.length){s:List UInt8}(hs:BL (l.take k)=some s):BL (l.take (k+1))=(Er l[k]).map (s++ ·):=by
 rw[Cr h,apC,hs];simp only[CU,BL];cases Er l[k] with
 |none=>rfl
 |some x=>simp
theorem xI{l:List (List UInt8)}{k:Nat}(h:k < l.length)(hk:65535 < l[k].length):BL l=none:=by
 induction l generalizing k with
 |nil=>simp at h
 |cons x l ih=>
  simp only[BL];cases k with
  |zero=>
   have:Er x=none:=(by unfold Er;rw[A9 (by simp at hk;omega)]);rw[this];rfl
  |succ k=>
   rw[ih (k:=k) (by simpa using h) (by simpa using hk)];cases Er x<;>rfl
theorem anu(l:List (List UInt8))(a:Option Addr)(cap:Nat)(w:World)(hl:Dz w a l)(hlen:l.length≤maxLen)(Df:rowLen l≤1000000000):
  Calls prog 105 #[.slice a l.length cap] w (Rt w (.tuple #[(Dg l).1,.int .i64 (Dg l).2])):=by
 unfold maxLen at hlen;by_cases abU:65535 < l.length
 ·have hR:Hid (Dg l=([],5)):=Hi (by unfold Dg GM;rw[A9 (by omega)]);rw[hR.out];clear hl
  go_in
  go_wp2;go_ret2;exact⟨rfl,Ai _ _⟩
 ·have HL:=Hi hl;have Be:Bw w (w.alloc (.cells #[.pointer none,()] 210)):=(Ai _ w).alloc (Ag _) _;have AP:=Hi Be;have Dl:=Hi (Et.made w);have Wj:=Hi Df;clear hl Be Df
  go_in
  go_wp2_with fail;refine(kG l.length 2 _ (by decide)).mono ?_;rintro e w1⟨rfl,hb⟩;have FJ:=Dl.upd (ub hb) (fun _ _ f=>f);have QK:=Hi FJ;have HB1:=Hi (AP.trans (hb.mono (by rw[Az];omega)));clear hb FJ;go_wp2_with fail;refine(XZ QK (Ab.le 2 l.length) (by simp[Ab.Cb])).mono ?_;rintro e w2⟨rfl,fp2,h1,h2,h3⟩;rw[EE] at h1;have GH:∀ q,fp2 q→w.heap.size≤q:=fun q hq=>by
   rcases h3 q hq with h|h
   ·rcases h with h|h
    ·omega
    ·simp[Value.ownBlock] at h
   ·have:=HB1.size;omega
  have Aj:=Hi (Cz HB1 h2 (fun i hi=>by rcases hi with h|h;omega;simp[Value.ownBlock] at h) HB1.size);have PQ:=Hi h1;have Fw:=Hi GH;clear h1 h2 h3 GH;go_wp2
  go_loopw [19] (fun i wr=>∃ (k:Nat) (S:List UInt8) (fp:Nat→Prop),k≤l.length∧i=.int .i64 k∧BL (l.take k)=some S∧Et wr w.heap.size (Ab.le 2 l.length++S) fp∧(∀ q,fp q→w.heap.size≤q)∧Bw w wr) (fun i _=>l.length -(intOf i).toNat)
  case atStart=>exact⟨0,[],fp2,by omega,rfl,rfl,by rw[Eg];exact PQ.out,Fw,Aj⟩
  case round=>
   clear Dl QK PQ AP HB1 Aj Fw;obtain⟨k,S,fp,hk,rfl,hS,FJ,GH,hb⟩:=hrel;have HS:=Hi hS;have Dl:=Hi FJ;have Fw:=Hi GH;have HB:=Hi hb;clear hS FJ GH hb;by_cases hlt:k < l.length
   ·obtain⟨q,II,hq⟩:=(HL.below HB).index cap k hlt;have JK:rowLen (l.take (k+1))=rowLen (l.take k)+(2+l[k].length):=aBw l k hlt;have GZ:=aek l (k+1);have Ho:=Xo HS.out;have Hq:=Wj.out;have Lr:=Hi (aeI hlt HS);by_cases Pj:65535 < l[k].length
    ·have hR:Hid (Dg l=([],5)):=Hi (by unfold Dg GM;rw[Ae (by omega),xI hlt Pj];rfl);clear JK GZ Ho Hq;generalize l[k]=x at*;go_wp2_with fail;refine(adU x _ Pj).mono ?_;rintro e w3⟨rfl,rfl⟩;go_wp2;go_ret2;rw[hR.out];exact⟨rfl,HB⟩
    ·have Gv:l[k].length≤65535:=(by omega);have hle:S.length+l[k].length≤1000000000:=(by omega);clear JK GZ Ho Hq Pj;generalize l[k]=x at*;go_wp2_with fail;refine(adV x _ Gv).mono ?_;rintro e w3⟨rfl,Av⟩;have UC:=Hi (Dl.upd (ub Av) (fun _ _ f=>f));have Au:=bH HB Av;clear Av hq;go_wp2_with fail;refine(XZ UC (Ab.le 2 x.length++x) (by simp[Ab.Cb];omega)).mono ?_;rintro e w4⟨rfl,Qi,h1,h2,h3⟩;have yw:=Hi h1
     have yM:=Hi (show ∀ q,Qi q→w.heap.size≤q from fun q hq=>by
      rcases h3 q hq with h|h
      ·exact Fw q h
      ·exact Ay Au.size h)
     have AX:=Hi (Cz Au h2 Fw Au.size);clear h1 h2 h3;go_wp2;go_roundw
     case rel=>exact⟨k+1,S++(Ab.le 2 x.length++x),Qi,by omega,by go_num,by rw[Lr.out];unfold Er;rw[Ae Gv];rfl,by rw[←DJ];exact yw.out,yM.out,AX.out⟩
     case measure=>simp[intOf];omega
   ·obtain rfl:k=l.length:=(by omega);go_wp2_with fail;refine(XY Dl).mono ?_;rintro e w3⟨rfl,hu⟩;have Au:=Hi (Cz HB hu Fw HB.size)
    have hR:Hid (Dg l=(Ab.le 2 l.length++S,0)):=Hi (by
     have h:=HS.out;rw[D5] at h;unfold Dg GM;rw[Ae (by omega),h];rfl)
    clear hu;go_wp2;go_ret2;rw[hR.out];exact⟨rfl,Au⟩
end
section
open Go.RowKit Go.Maps
open Aw
theorem Nh(P:Program)(W:World)(t:TypeId)(hu:P.underlying t=some .string)(s:List UInt8)(lo:Nat)(h1:lo≤s.length):
  (Instr.slice t ↑s (some ↑(lo:Int)) none none).run P W=.ok ↑(s.drop lo) W:=by
 have g2:(lo:Int)≤(s.length:Int):=by omega
 simp[Instr.slice,He hu,Instr.sliceBounds,run_sliceBound,go_sem,g2]
structure dY(w:World)(p q:Nat)(s:List UInt8)(l:List (List UInt8))(fp:Nat→Prop):Prop where
 left:w.heap[p]?=some (.cells #[s] 9)
 ne:p≠q
 row:∃ v,w.heap[q]?=some (.cells #[v] 61)∧w.ownsRow 0 9 1 v l.length (strCells l)∧v.ownBlock≠some p∧v.ownBlock≠some q∧fp=fun k=>k=p∨k=q∨v.ownBlock=some k
theorem aAX{w w1 w2:World}{p q gg cap2:Nat}{v:Value}{s0 t:List UInt8}{l:List (List UInt8)}{ob:Obj}(hne:p≠q)(hb:Bw w w1)
  (hp:w1.heap[p]?=some (.cells #[s0] 9))(hq:w1.heap[q]?=some (.cells #[v] 61))(YO:v.ownBlock≠some p)(X8:v.ownBlock≠some q)
  (AJ:((w1.alloc ob).drew).grownBy w2 v.ownBlock)(hown:w2.ownsRow 0 9 1 (.slice gg (l.length+1) cap2) (l.length+1) (strCells l++[.string (bs t)]))
  (hat:v.ownBlock=some gg∨gg=w1.heap.size+1)(s:List UInt8)(GL:p < w.heap.size)(uY:q < w.heap.size):
  A7 (fun k=>k=p∨k=q∨v.ownBlock=some k) w ((w2.setCell q (.slice gg (l.length+1) cap2)).setCell p ↑s)∧
  Dq (fun k=>k=p∨k=q∨v.ownBlock=some k) (fun k=>k=p∨k=q∨(Value.slice gg (l.length+1) cap2).ownBlock=some k) w∧
  dY ((w2.setCell q (.slice gg (l.length+1) cap2)).setCell p ↑s) p q s (l++[t]) (fun k=>k=p∨k=q∨(Value.slice gg (l.length+1) cap2).ownBlock=some k):=by
 have WV:=hb.size;have uV:p < w1.heap.size:=by omega
 have uZ:q < w1.heap.size:=by omega
 have ha:Bw w1 (w1.alloc ob).drew:=((Ai _ _).alloc (Ag _) _).drew;have u1:A7 (fun k=>k=p∨k=q∨v.ownBlock=some k) w w1:=A7.of_below hb;have u2:A7 (fun k=>k=p∨k=q∨v.ownBlock=some k) w (w1.alloc ob).drew:=u1.trans (G:=fun _=>False) (A7.of_below ha) (fun _ f=>f.elim);have u3:A7 (fun k=>k=p∨k=q∨v.ownBlock=some k) w w2:=u2.trans (A7.of_grownBy (F:=fun k=>v.ownBlock=some k) AJ (fun k e=>e)) (fun k e=>.inl (.inr (.inr e)));have BS:(w1.alloc ob).drew.heap.size=w1.heap.size+1:=by rw[World.size_drew,Az]
 have JM:w2.heap[p]?=some (.cells #[s0] 9):=(AJ.block p (by omega) (Ne.symm YO)).trans ((ha.block p uV).trans hp);have Dw:w2.heap[q]?=some (.cells #[v] 61):=(AJ.block q (by omega) (Ne.symm X8)).trans ((ha.block q uZ).trans hq);have hgp:gg≠p:=fun e=>by
  rcases hat with hat|hat
  ·exact YO (by rw[hat,e])
  ·omega
 have hgq:gg≠q:=fun e=>by
  rcases hat with hat|hat
  ·exact X8 (by rw[hat,e])
  ·omega
 have Uc:=Cs w2 q 0 _ _ (.slice gg (l.length+1) cap2) Dw;have c1:A7 (fun k=>k=q) w2 (w2.setCell q (.slice gg (l.length+1) cap2)):=(A7.refl (fun k=>k=q) w2).setCell (p:=⟨q,0,none⟩) (.inl rfl) _;have c2:A7 (fun k=>k=p) (w2.setCell q (.slice gg (l.length+1) cap2)) ((w2.setCell q (.slice gg (l.length+1) cap2)).setCell p ↑s):=(A7.refl (fun k=>k=p) _).setCell (p:=⟨p,0,none⟩) (.inl rfl) _;have hp3:=(c1.block p (by have:=AJ.size;omega) hne).trans JM;have hz:q < w2.heap.size:=by have:=AJ.size;omega
 refine⟨(u3.setCell (p:=⟨q,0,none⟩) (.inl (.inr (.inl rfl))) _).setCell (p:=⟨p,0,none⟩) (.inl (.inl rfl)) _,?_,⟨Cs _ p 0 _ _ _ hp3,hne,.slice gg (l.length+1) cap2,(c2.block q (by have:=c1.size;omega) (Ne.symm hne)).trans Uc,?_,fun e=>hgp (by simpa[Value.ownBlock] using e),fun e=>hgq (by simpa[Value.ownBlock] using e),rfl⟩⟩
 ·rintro k (rfl|rfl|hk)
  ·exact .inl (.inl rfl)
  ·exact .inl (.inr (.inl rfl))
  ·simp[Value.ownBlock] at hk;subst hk;rcases hat with hat|hat
   ·exact .inl (.inr (.inr hat))
   ·exact .inr (by omega)
 ·rw[AA,Tj];exact BD (BD hown c1 (fun g hg e=>hgq (by simp[Value.ownBlock] at hg;omega))) c2 (fun g hg e=>hgp (by simp[Value.ownBlock] at hg;omega))
def agM(w:World)(p q:Nat)(s:List UInt8)(l:List (List UInt8))(fp:Nat→Prop)(e:Ending)(w':World):Prop:=
 ∃ fp',A7 fp w w'∧Dq fp fp' w∧match Ea s with
  |none=>e=.returned (.int .i64 6)∧dY w' p q s l fp'
  |some (t,n)=>e=.returned (.int .i64 0)∧dY w' p q (s.drop n) (l++[t]) fp'
theorem aAY{w:World}{p q:Nat}{s:List UInt8}{l:List (List UInt8)}{fp:Nat→Prop}(h:dY w p q s l fp)(hs:s.length≤1000000000)(hl:l.length≤1000000):
  Calls prog 253 #[p,q] w fun e w'=>agM w p q s l fp e w':=by
 obtain⟨hp,hne,v,hq,hown,YO,X8,rfl⟩:=h;have GL:p < w.heap.size:=(Dn.1 hp).1;have uY:q < w.heap.size:=(Dn.1 hq).1;have cp:w.cell? p=some ↑s:=by rw[BJ w p _ _ _ _ hp];rfl
 have cq:w.cell? q=some v:=by rw[BJ w q _ _ _ _ hq];rfl
 have Ra:=CG w p 0 _ _ hp;have sN:=CG w q 0 _ _ hq;unfold agM;cases hR:Ea s with
 |none=>
  have hV:FM s=([],0,6):=by unfold FM;rw[hR]
  have HP:=Hi hp;have HQ:=Hi hq;have HO:=Hi hown;have HV:=Hi hV;clear hp hq hown hR hV
  go_in
  go_wp2_with fail;refine(iC s _ (by omega)).mono ?_;rw[HV.out];rintro e w1⟨rfl,hb⟩;have hu:A7 (fun k=>k=p∨k=q∨v.ownBlock=some k) w w1:=A7.of_below hb;have HU:=Hi hu;have HB:=Hi hb;clear hu hb;go_wp2;go_ret;exact⟨_,HU,fun _ h=>.inl h,rfl,(HB.block p GL).trans HP.out,hne,v,(HB.block q uY).trans HQ.out,BD HO (ub HB) (fun _ _ f=>f),YO,X8,rfl⟩
 |some r=>
  obtain⟨t,n⟩:=r;obtain⟨_,EB,GJ⟩:=bR hR;have hV:FM s=(t,n,0):=by unfold FM;rw[hR]
  have HP:=Hi hp;have HQ:=Hi hq;have HO:=Hi hown;have HV:=Hi hV;clear hp hq hown hR hV
  go_in
  go_wp2_with fail;refine(iC s _ (by omega)).mono ?_;rw[HV.out];rintro e w1⟨rfl,hb⟩;have HB:=Hi hb;have EI:=(hb.block p GL).trans HP.out;have EC:=(hb.block q uY).trans HQ.out;have LK:=BD HO (ub hb) (fun _ _ f=>f);have cp:w1.cell? p=some ↑s:=by rw[BJ w1 p _ _ _ _ EI];rfl
  have cq:w1.cell? q=some v:=by rw[BJ w1 q _ _ _ _ EC];rfl
  have Ra:=CG w1 p 0 _ _ EI;have sN:=CG w1 q 0 _ _ EC;have uV:p < w1.heap.size:=(Dn.1 EI).1;have uZ:q < w1.heap.size:=(Dn.1 EC).1;have ZA:=Hi EI;have qD:=Hi EC;have Dc:=Hi LK;have kk:=fun(ob:Obj)=>CB (((((Ai w1.heap.size w1).alloc (Ag _) ob).drew).cell (p:=⟨p,0,none⟩) uV).trans cp) (((((Ai w1.heap.size w1).alloc (Ag _) ob).drew).cell (p:=⟨q,0,none⟩) uZ).trans cq)
  have hcut:∀ W,(Instr.slice 9 ↑s (some ↑(n:Int)) none none).run prog W=.ok ↑(s.drop n) W:=fun W=>Nh prog W 9 underlying9 s n EB
  obtain⟨i0,Bh,AY,AZ,Bb⟩:=Dy aeB;clear hb EI EC LK;go_wp2_with fail
  go_region_law
   ((refine step_append_lies _ (by rfl) _ _ _ (by rfl) 0 9 i0 _ 1 16 underlying61 Bh AY AZ Bb (by rfl) (by omega) v l.length (strCells l) (by rfl) ((Dc.alloc _).drew) ⟨w1.heap.size,0,none⟩ 1 1 [.string (bs t)] (by rfl) (by rfl) (World.news_of_block (cs:=#[.string (bs t)]) (t:=9) (fr:=(0,0)) (AU w1 _)) (fun u hu=>by simp at hu;subst hu;rfl) (by omega) (by unfold maxLen;omega) (by omega) (AV _) (w1.heap.size+1) (by simp) ?_;intro gg cap2 w2 Py AJ hat Pv;have awO:=(AJ.cell_far ⟨p,0,none⟩ (by show p < (w1.alloc _).heap.size;rw[Az];omega) (Ne.symm YO)).trans (kk _).1;have awP:=(AJ.cell_far ⟨q,0,none⟩ (by show q < (w1.alloc _).heap.size;rw[Az];omega) (Ne.symm X8)).trans (kk _).2;have uB:=(AJ.frozen_far ⟨p,0,none⟩ (by show p < (w1.alloc _).heap.size;rw[Az];omega) (Ne.symm YO)).trans (((((Ai w1.heap.size w1).alloc (Ag _) _).drew).frozen (p:=⟨p,0,none⟩) uV).trans Ra);have axf:=(AJ.frozen_far ⟨q,0,none⟩ (by show q < (w1.alloc _).heap.size;rw[Az];omega) (Ne.symm X8)).trans (((((Ai w1.heap.size w1).alloc (Ag _) _).drew).frozen (p:=⟨q,0,none⟩) uZ).trans sN)))
  all_goals
   have HD:=Hi (aAX hne HB ZA qD YO X8 AJ Py hat (s.drop n) GL uY);clear Py AJ hat awO awP uB axf;go_wp2;go_ret;exact⟨_,HD.1,HD.2.1,rfl,HD.2.2⟩
def MR(w:World)(s:List UInt8)(e:Ending)(w':World):Prop:=
 match Dv s with
 |none=>e=.returned (.tuple #[(),.int .i64 7])∧Bw w w'
 |some l=>∃ v,e=.returned (.tuple #[v,.int .i64 0])∧w'.ownsRow 0 9 1 v l.length (strCells l)∧Bw w w'∧∀ g,v.ownBlock=some g→w.heap.size≤g
theorem Mx{w w':World}{s:List UInt8}{e:Ending}(h:Dv s=none)(he:e=.returned (.tuple #[(),.int .i64 7]))(hb:Bw w w'):MR w s e w':=by
 unfold MR;rw[h];exact⟨he,hb⟩
theorem og{w w':World}{s:List UInt8}{l:List (List UInt8)}{e:Ending}{v:Value}(h:Dv s=some l)(he:e=.returned (.tuple #[v,.int .i64 0]))(ho:w'.ownsRow 0 9 1 v l.length (strCells l))(hb:Bw w w')(hg:∀ g,v.ownBlock=some g→w.heap.size≤g):MR w s e w':=by
 unfold MR;rw[h];exact⟨v,he,ho,hb,hg⟩
theorem iI{k j:Nat}{s S t:List UInt8}{n:Nat}{l:List (List UInt8)}(hj:j < k)(h:EL k s=(EL (k -j) S).map fun q=>(l++q.1,q.2))(hr:Ea S=some (t,n)):
  EL k s=(EL (k -(j+1)) (S.drop n)).map fun q=>((l++[t])++q.1,q.2):=by
 rw[h,show k -j=(k -(j+1))+1 by omega];simp only[EL,hr,CU,Option.map_map]
 congr 1
 funext q
 simp
theorem iG{k j:Nat}{s S:List UInt8}{l:List (List UInt8)}(hj:j < k)(h:EL k s=(EL (k -j) S).map fun q=>(l++q.1,q.2))(hr:Ea S=none):EL k s=none:=by
 rw[h,show k -j=(k -(j+1))+1 by omega];simp[EL,hr]
theorem aAZ(w:World)(n':Nat)(s S:List UInt8):
  dY ((((w.alloc (.cells #[s] 9)).alloc (.cells #[()] 61)).drewN n').setCell w.heap.size ↑S) w.heap.size (w.heap.size+1) S [] (fun k=>k=w.heap.size∨k=w.heap.size+1∨(Value.slice none 0 0).ownBlock=some k)∧
  Bw w ((((w.alloc (.cells #[s] 9)).alloc (.cells #[()] 61)).drewN n').setCell w.heap.size ↑S):=by
 have ha:=((Ai (w.heap.size+1) (w.alloc (.cells #[s] 9))).alloc (by rw[Az];omega) (.cells #[()] 61));have e1:(((w.alloc (.cells #[s] 9)).alloc (.cells #[()] 61)).drewN n').heap[w.heap.size]?=some (.cells #[s] 9):=(ha.block w.heap.size (by omega)).trans (AU w _);have e2:(((w.alloc (.cells #[s] 9)).alloc (.cells #[()] 61)).drewN n').heap[w.heap.size+1]?=some (.cells #[()] 61):=by
  have:=AU (w.alloc (.cells #[s] 9)) (.cells #[()] 61);rw[Az] at this;exact this
 have c1:A7 (fun k=>k=w.heap.size) (((w.alloc (.cells #[s] 9)).alloc (.cells #[()] 61)).drewN n') ((((w.alloc (.cells #[s] 9)).alloc (.cells #[()] 61)).drewN n').setCell w.heap.size ↑S):=(A7.refl (fun k=>k=w.heap.size) _).setCell (p:=⟨w.heap.size,0,none⟩) (.inl rfl) _;refine⟨⟨Cs _ w.heap.size 0 _ _ _ e1,by omega,↑(),(c1.block _ (Dn.1 e2).1 (by omega)).trans e2,?_,by simp[Value.ownBlock],by simp[Value.ownBlock],rfl⟩,?_⟩
 ·show World.ownsRow _ 0 _ 1 ↑() 0 (strCells [])
  have e:strCells []=[]:=by unfold strCells;rfl
  rw[e];exact DZ _ _ _ _
 ·exact((((Ai _ w).alloc (Ag _) _).alloc (by rw[Az];omega) _).trans ((FP _ n').mono (by rw[Az,Az];omega))).setCell (p:=⟨w.heap.size,0,none⟩) (Ag _) _
theorem nZ(s:List UInt8)(w:World)(hs:s.length≤1000000000):
  Calls prog 203 #[s] w fun e w'=>MR w s e w':=by
 by_cases h2:s.length < 2
 ·have hR:Hid (Dv s=none):=Hi (by unfold Dv;rw[Ae h2])
  go_in
  go_wp2_with fail;exact EO (v:=.tuple #[(),.int .i64 7]) (by simp[results,results203,go_sem]) rfl (Mx hR.out rfl (((Ai _ w).alloc (Ag _) _).alloc (by rw[Az];omega) _))
 ·have hv:=val_two s (by omega);have b0:=s[0].toNat_lt;have b1:=s[1].toNat_lt;have hz:(0:Nat) < s.length:=by omega
  have AZ:(1:Nat) < s.length:=by omega
  have Bb:(1:Int) < (s.length:Int):=by omega
  have hz3:(2:Int)≤(s.length:Int):=by omega
  have hcut:∀ W,(Instr.slice 9 ↑s (some (.int .i64 2)) none none).run prog W=.ok ↑(s.drop 2) W:=fun W=>Nh prog W 9 underlying9 s 2 (by omega)
  have HV:=Hi hv;clear hv
  go_in
  go_wp2
  go_quiet (fail)
  have e:(s[0].toNat:Int)+(s[1].toNat:Int)*(256:Int)=((s[0].toNat+256*s[1].toNat:Nat):Int):=by omega
  simp only[e];clear e;have Ke:s[0].toNat+256*s[1].toNat≤65535:=by omega
  generalize s[0].toNat+256*s[1].toNat=n at*;go_wp2_with fail;have Bj:=fun(n':Nat)=>aAZ w n' s (s.drop 2)
  have Ba:=Hi Bj;clear Bj
  go_loopw [21] (fun i wr=>∃ (j:Nat) (S:List UInt8) (l:List (List UInt8)) (fp:Nat→Prop),j≤n∧i=.int .i64 j∧dY wr w.heap.size (w.heap.size+1) S l fp∧l.length=j∧S.length≤s.length∧Bw w wr∧(∀ k,fp k→w.heap.size≤k)∧EL n (s.drop 2)=(EL (n -j) S).map fun q=>(l++q.1,q.2)) (fun i _=>n -(intOf i).toNat)
  case atStart=>
   refine⟨0,s.drop 2,[],_,by omega,rfl,(Ba _).1,rfl,by rw[CF];omega,(Ba _).2,?_,?_⟩
   ·rintro k (rfl|rfl|hk)
    ·exact Ag _
    ·omega
    ·simp[Value.ownBlock] at hk
   ·simp
  case round=>
   obtain⟨j,S,l,fp,hj,rfl,Kh,EA,Ql,hb,GH,Na⟩:=hrel;have GX:=Hi Kh;have O7:=Hi EA;have HB:=Hi hb;have Fw:=Hi GH;have Fh:=Hi Na;obtain⟨v,hq,hown,YO,X8,akt⟩:=Kh.row;have hp:=Kh.left;have cp:wr.cell? w.heap.size=some ↑S:=(by rw[BJ wr _ _ _ _ _ hp];rfl);have cq:wr.cell? ⟨w.heap.size+1,0,none⟩=some v:=(by rw[BJ wr _ _ _ _ _ hq];rfl);have sN:=CG wr (w.heap.size+1) 0 _ _ hq;have HO:=Hi hown;have HQ:=Hi hq;have zL:=Hi (show ∀ g,v.ownBlock=some g→w.heap.size≤g from fun g hg=>GH g (by rw[akt];exact .inr (.inr hg)));clear Kh EA hb GH Na hq hown akt hp;have WH:∀ (o:Option (List (List UInt8))),Dv s=o→Hid (Dv s=o):=fun o h=>Hi h
   have G7:Dv s=(EL n (s.drop 2)).bind fun q=>if q.2=[] then some q.1 else none:=by unfold Dv;rw[A9 h2,HV.out]
   have Ey:=Hi G7;clear WH G7;by_cases hlt:j < n
   ·go_wp2_with fail;refine(aAY GX (by omega) (by rw[O7.out];omega)).mono ?_;rintro e w2⟨fp2,hu,Ov,uW⟩;have Aj:=Hi (Cz HB hu Fw HB.size)
    have jC:=Hi (show ∀ k,fp2 k→w.heap.size≤k from fun k hk=>by
     rcases Ov k hk with h|h
     ·exact Fw k h
     ·exact Ay HB.size h)
    clear hu Ov cp cq sN;cases hr:Ea S with
    |none=>
     rw[hr] at uW;obtain⟨rfl,mR⟩:=uW;obtain⟨v2,Dw,_⟩:=mR.row;have cq2:w2.cell? ⟨w.heap.size+1,0,none⟩=some v2:=(by rw[BJ w2 _ _ _ _ _ Dw];rfl);have fq2:=CG w2 (w.heap.size+1) 0 _ _ Dw;have hR:Hid (Dv s=none):=Hi (by rw[Ey.out,iG hlt Fh hr];rfl);have Vg:(w2.setCell ⟨w.heap.size+1,0,none⟩ ↑()).cell? ⟨w.heap.size+1,0,none⟩=some ↑():=cr (Cs w2 _ 0 _ _ _ Dw);clear mR Dw hr;go_wp2_with fail;exact EO (v:=.tuple #[(),.int .i64 7]) (by simp[results,results203,go_sem,Vg]) rfl (Mx hR.out rfl (Aj.setCell (p:=⟨w.heap.size+1,0,none⟩) (by show w.heap.size≤w.heap.size+1;omega) _))
    |some r=>
     obtain⟨t,m⟩:=r;rw[hr] at uW;obtain⟨rfl,mR⟩:=uW;have Sn:=Hi mR;have ZF:=Hi (iI hlt Fh hr);clear mR hr;go_wp2;go_roundw
     case rel=>exact⟨j+1,S.drop m,l++[t],fp2,by omega,by go_num,Sn,by rw[AA,O7.out];rfl,by rw[CF];omega,Aj,jC,ZF⟩
     case measure=>simp[intOf];omega
   ·obtain rfl:j=n:=(by omega);by_cases hS:S=[]
    ·subst hS;have hR:Hid (Dv s=some l):=Hi (by rw[Ey.out,Fh.out,Nat.sub_self];simp[EL]);obtain⟨qv,rR,rfl⟩:=Bp HO.out;have Vg:(wr.setCell ⟨w.heap.size+1,0,none⟩ (.slice qv l.length rR)).cell? ⟨w.heap.size+1,0,none⟩=some (.slice qv l.length rR):=cr (Cs wr _ 0 _ _ _ HQ);go_wp2_with fail;have hu:A7 (fun k=>k=w.heap.size+1) wr (wr.setCell ⟨w.heap.size+1,0,none⟩ (.slice qv l.length rR)):=(A7.refl (fun k=>k=w.heap.size+1) wr).setCell (p:=⟨w.heap.size+1,0,none⟩) (.inl rfl) _;exact EO (v:=.tuple #[.slice qv l.length rR,.int .i64 0]) (by simp[results,results203,go_sem,Vg]) rfl (og hR.out rfl (BD HO hu (fun g hg e=>X8 (by rw[hg,e]))) (HB.setCell (p:=⟨w.heap.size+1,0,none⟩) (by show w.heap.size≤w.heap.size+1;omega) _) zL)
    ·have hR:Hid (Dv s=none):=Hi (by rw[Ey.out,Fh.out,Nat.sub_self];simp[EL,hS]);have hne:S.isEmpty=false:=by
      cases S with
      |nil=>exact absurd rfl hS
      |cons=>rfl
     have Vg:(wr.setCell ⟨w.heap.size+1,0,none⟩ ↑()).cell? ⟨w.heap.size+1,0,none⟩=some ↑():=cr (Cs wr _ 0 _ _ _ HQ);clear hS;go_wp2_with fail;exact EO (v:=.tuple #[(),.int .i64 7]) (by simp[results,results203,go_sem,Vg]) rfl (Mx hR.out rfl (HB.setCell (p:=⟨w.heap.size+1,0,none⟩) (by show w.heap.size≤w.heap.size+1;omega) _))
end
section
open Go.RowKit Go.Maps Go.WideMaps
theorem xE{P:Program}{k:TypeId}(hk:P.underlying k=some .string){x:List UInt8}(hx:x.length≤maxLen):keyOf P k ↑x=some (.string x):=by
 have:=keyOf_string_mk hk (s:=bs x) hx;simpa using this
def Eb(kv:List (List UInt8×Value))(i:List UInt8):Option Value:=(kv.find? (fun p=>p.1 == i)).map (·.2)
def Jv(i:List UInt8)(kv:List (List UInt8×Value)):List (List UInt8×Value):=kv.filter (fun p=>!(p.1 == i))
def RQ(i:List UInt8)(v:Value)(kv:List (List UInt8×Value)):List (List UInt8×Value):=(i,v) :: Jv i kv
theorem aCh(i:List UInt8)(kv:List (List UInt8×Value)):Eb (Jv i kv) i=none:=by
 unfold Eb Jv;rw[Option.map_eq_none_iff,List.find?_eq_none];intro p hp;have:=(G9.1 hp).2;simpa using this
theorem ap2{i j:List UInt8}(h:j≠i)(kv:List (List UInt8×Value)):Eb (Jv i kv) j=Eb kv j:=by
 unfold Eb Jv;rw[find_filter_keep];intro p hp;simp at hp ⊢;intro e;exact h (hp.symm.trans e)
theorem ap5(i:List UInt8)(v:Value)(kv:List (List UInt8×Value)):Eb (RQ i v kv) i=some v:=by simp[Eb,RQ]
theorem ap4{i j:List UInt8}(h:j≠i)(v:Value)(kv:List (List UInt8×Value)):Eb (RQ i v kv) j=Eb kv j:=by
 have h2:¬ i=j:=fun e=>h e.symm
 rw[←ap2 h kv];simp[Eb,RQ,h2]
theorem ap0{i:List UInt8}{kv:List (List UInt8×Value)}(hn:(kv.map (·.1)).Nodup):(Jv i kv).length+(if(Eb kv i).isSome then 1 else 0)=kv.length:=by
 induction kv with
 |nil=>simp[Jv,Eb]
 |cons p kv ih=>
  simp only[Ce,JV] at hn;have ih':=ih hn.2;by_cases h:p.1=i
  ·have h0:Eb kv i=none:=by
    unfold Eb;rw[Option.map_eq_none_iff,List.find?_eq_none];intro q hq;simp;intro e;exact hn.1 (by rw[h,←e];exact I6 hq)
   rw[h0] at ih';have e1:Jv i (p :: kv)=Jv i kv:=(by simp[Jv,h]);have e2:Eb (p :: kv) i=some p.2:=(by simp[Eb,h]);rw[e1,e2];simpa using ih'
  ·have e1:Jv i (p :: kv)=p :: Jv i kv:=(by simp[Jv,h]);have e2:Eb (p :: kv) i=Eb kv i:=(by simp[Eb,h]);rw[e1,e2];simp only[BM];omega
theorem ap1{i:List UInt8}{kv:List (List UInt8×Value)}(hn:(kv.map (·.1)).Nodup):((Jv i kv).map (·.1)).Nodup:=by
 unfold Jv;exact hn.sublist (List.Sublist.map _ List.filter_sublist)
theorem aCi{i:List UInt8}{v:Value}{kv:List (List UInt8×Value)}(hn:(kv.map (·.1)).Nodup):((RQ i v kv).map (·.1)).Nodup:=by
 simp only[RQ,Ce,JV];refine⟨?_,ap1 hn⟩;intro h;obtain⟨p,hp,e⟩:=Bv.1 h;have:=(G9.1 hp).2;simp[e] at this
theorem xy{kv:List (List UInt8×Value)}{i:List UInt8}{v:Value}(h:Eb kv i=some v):(i,v)∈kv:=by
 unfold Eb at h;obtain⟨p,hp,rfl⟩:=Tt.1 h;have h1:=List.find?_some hp;simp at h1;subst h1;exact List.mem_of_find?_eq_some hp
def Gd(P:Program)(K:TypeId)(w:World)(m:Nat)(kv:List (List UInt8×Value)):Prop:=
 (kv.map (·.1)).Nodup∧∃ D:DataW Value,w.ownsMap P K SK m kv.length D∧Tidy D∧size D=kv.length∧∀ i z,D.atKey (.string i) z=(match Eb kv i with|some v=>.held v|none=>z)
section
variable {P:Program}{K T E:TypeId}{w:World}{m:Nat}{kv:List (List UInt8×Value)}
theorem Gd.lt(h:Gd P K w m kv):m < w.heap.size:=h.2.choose_spec.1.lt
theorem Gd.made(w:World):Gd P K (w.alloc (.map #[] 0)) w.heap.size []:=
 ⟨by simp,.map [],World.ownsMap_made w P K SK,tidy_empty,rfl,fun i z=>rfl⟩
theorem Gd.kept{w':World}(h:Gd P K w m kv)(e:w'.heap[m]?=w.heap[m]?):Gd P K w' m kv:=by
 obtain⟨hn,D,⟨es,clock,hb,F,hs,hD⟩,rest⟩:=h;exact⟨hn,D,⟨es,clock,e.trans hb,F,hs,hD⟩,rest⟩
theorem Gd.upd{F:Nat→Prop}{w':World}(h:Gd P K w m kv)(hu:A7 F w w')(hF:¬ F m):Gd P K w' m kv:=h.kept (hu.block m h.lt hF)
theorem Gd.lookup(h:Gd P K w m kv)(hk:P.underlying K=some .string)(ht:P.underlying T=some (.map K E)){z:Value}(hz:(zeroValue E).run P w=.ok z w)(i:List UInt8)(hw:i.length≤maxLen):
  (Instr.lookup T (.map (some m)) ↑i false).run P w=.ok ((Eb kv i).getD z) w:=by
 obtain⟨_,D,hown,_,_,hat⟩:=h;obtain⟨v,ps,hrun,hv⟩:=hown.lookup (string_keyed hk) ht hz (zd:=.held z) (zp:=[]) rfl (xE hk hw);have e:=hat i (.held z);simp only[SK,Cu,Nr] at hv;rw[e] at hv;rw[hrun];cases hg:Eb kv i with
 |none=>rw[hg] at hv;simp at hv ⊢;exact hv.1
 |some u=>rw[hg] at hv;simp at hv ⊢;exact hv.1
theorem Gd.bF(h:Gd P K w m kv)(hk:P.underlying K=some .string)(ht:P.underlying T=some (.map K E)){z:Value}(hz:(zeroValue E).run P w=.ok z w)(i:List UInt8)(hw:i.length≤maxLen):
  (Instr.lookup T (.map (some m)) ↑i true).run P w=.ok (.tuple #[(Eb kv i).getD z,.bool (Eb kv i).isSome]) w:=by
 obtain⟨_,D,⟨es,clock,hb,F,_,rfl⟩,_,_,hat⟩:=h;rcases Maps.fit_look true (string_keyed hk) ht hz hb F (xE hk hw) with⟨hrun,_,h2⟩|⟨e0,y,_,_,hrun,tO,h2,_⟩
 ·cases hg:Eb kv i with
  |none=>simpa using hrun
  |some u=>
   have:=hat i .nil;rw[h2 .nil,hg] at this;cases this
 ·cases hg:Eb kv i with
  |none=>
   have:=hat i .nil;rw[h2 .nil,hg] at this;simp only[SK,Cu] at tO;rw[←tO] at this;cases this
  |some u=>
   have:=hat i .nil;rw[h2 .nil,hg] at this;simp only[SK,Cu] at tO;rw[←tO] at this;simp at this;simpa[this] using hrun
theorem Gd.update(h:Gd P K w m kv)(hk:P.underlying K=some .string)(ht:P.underlying T=some (.map K E))(i:List UInt8)(hw:i.length≤maxLen)(v:Value)(Jo:kv.length < maxLen):
  ∃ w',(Instr.mapUpdate T (.map (some m)) ↑i v).run P w=.ok () w'∧Gd P K w' m (RQ i v kv)∧w.grownBy w' (some m):=by
 obtain⟨hn,D,hown,Vs,BS,hat⟩:=h;obtain⟨w',hrun,Cf,hg⟩:=hown.update (string_keyed hk) ht Jo (key:=↑i) (val:=v) (xE hk hw) (d:=.held v) (ps:=[]) rfl;have Ki:size (D.put (.string i) (.held v))=(RQ i v kv).length:=by
  rw[size_put Vs,lI (hat i),BS];have:=ap0 (i:=i) hn;simp only[RQ,BM];cases Rk:(Eb kv i).isSome<;>simp[Rk] at this ⊢ <;>omega
 refine⟨w',hrun,⟨aCi hn,_,?_,Vs.put (show WideAt.IsKeyLit (.string i) from trivial) _,Ki,fun j z=>?_⟩,hg⟩
 ·obtain⟨es,clock,hb,F,_,hD⟩:=Cf;refine⟨es,clock,hb,F,?_,hD⟩;rw[←Ki,hD,size_eq,length_sorted];simp
 ·by_cases e:j=i
  ·subst e;rw[atKey_put_same Vs.isMap (show WideAt.IsKeyLit (.string j) from trivial),ap5]
  ·rw[atKey_put_other (fun e'=>e (by cases e';rfl)),ap4 e];exact hat j z
theorem Gd.delete(h:Gd P K w m kv)(hk:P.underlying K=some .string)(ht:P.underlying T=some (.map K E))(i:List UInt8)(hw:i.length≤maxLen)(ty:TypeId):
  ∃ w',(Builtin.delete_ #[T,K] ty #[.map (some m),.string (bs i)]).run P w=.ok (.tuple #[]) w'∧Gd P K w' m (Jv i kv)∧w.grownBy w' (some m):=by
 obtain⟨hn,D,hown,Vs,BS,hat⟩:=h;obtain⟨es,clock,hb,F,hs,hD⟩:=hown;obtain⟨es',hrun,F',hle,uu,_⟩:=Maps.fit_drop (ty:=ty) (string_keyed hk) ht hb F (xE hk hw);have hD':D.del (.string i)=.map ((es'.toList.map (WideElems.rg P K SK)).foldr DataW.insert []):=by rw[hD,DataW.del_eq,uu]
 have Ki:size (D.del (.string i))=(Jv i kv).length:=by
  have h1:=size_del (k:=.string i) Vs;rw[lI (hat i),BS] at h1;have:=ap0 (i:=i) hn;cases Rk:(Eb kv i).isSome<;>simp[Rk] at this h1<;>omega
 refine⟨_,hrun,⟨ap1 hn,D.del (.string i),⟨es',clock,ChangeMaps.heap_setBlock_same hb _,F',?_,hD'⟩,Vs.del _,Ki,fun j z=>?_⟩,⟨rfl,rfl,rfl,by simp[ChangeMaps.setBlock],fun k _ hk'=>ChangeMaps.heap_setBlock_other hb _ (fun e=>hk' (by rw[e]))⟩⟩
 ·rw[←Ki,hD',size_eq,length_sorted];simp
 ·by_cases e:j=i
  ·subst e;rw[atKey_del_same,aCh]
  ·rw[atKey_del_other (fun e'=>e (by cases e';rfl)),ap2 e];exact hat j z
