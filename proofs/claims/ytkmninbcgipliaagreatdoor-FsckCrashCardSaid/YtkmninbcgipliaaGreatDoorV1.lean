/- DiskRW Rounds DiskF DiskFill Copies Ref Oct -/
import Derived.Test.YtkmninbcgipliaaGreatDoorV0
import Derived.Deep.RegionHeld3
import Derived.Deep.RegionLaw
import Derived.Deep.AppendLies
import Derived.OrdersIn
import Derived.RangeFuncNested
import Derived.RangeFuncBound
import Derived.RangeFuncCalls
import Derived.RangeFuncLeaves
import Derived.RangeFuncBox
import Derived.Shelf.Abstract
import Derived.Shelf.RegionOpen
import Derived.OwnWalkIn
import Derived.TacticsInMore
import Derived.LoopNIn
import Derived.LoopIn
import Derived.Laws.MakeOwn
import Derived.OneCell
import Derived.Laws.OwnMore
import Derived.Lib.EndianBits
import Derived.Outline
import Derived.Lib.AppendStr
set_option maxHeartbeats 4000000
set_option maxRecDepth 100000
set_option linter.all false
namespace Go.Proofs.YtkmninbcgipliaaGreatDoor
open Tryz hiding t1 t2
section
open Go.RowKit Go.Maps
theorem BytesAt.upd{F:Nat→Prop}{w w':World}{b:Nat}{l:List UInt8}(h:BytesAt w b l)(hu:A7 F w w')(hF:¬ F b):BytesAt w' b l:=by
 have hlt:=h.lt;obtain⟨C,e,fr,h1,h2⟩:=h;exact⟨C,e,fr,by rw[hu.block b hlt hF];exact h1,h2⟩
theorem ayK{w:World}{base e s:Nat}{v:Value}{n:Nat}{xs:List Value}(h:w.ownsRow base e s v n xs):n≤9223372036854775807:=by
 rcases h.2 with⟨_,e⟩|⟨g,cap,_,_,_,_,h1,h2,_⟩
 ·omega
 ·unfold maxLen at h2;omega
theorem EL.below{w w':World}{b m:Nat}{lv:Value}{D:A8}(h:EL w b m lv D)(hb:Bw w w'):EL w' b m lv D:=h.upd (ub hb) (fun _ _ f=>f)
theorem aAw(w:World)(n:Nat)(hn:n≤16384):∃ C,(Instr.makeSlice 308 (.int .i64 (n:Int)) (.int .i64 (n:Int))).run prog w=.ok (.slice (some ⟨w.heap.size,0,none⟩) n n) (w.alloc (.cells C 240))∧
  BytesAt (w.alloc (.cells C 240)) w.heap.size (List.replicate (64*n) 0):=by
 have ZF:(prog.info? 240).map (fun i=>(i.zero,i.size,i.bytes))=some (some (.agg (Dh Ns)),64,64):=by kernel_rfl
 obtain⟨i0,hi,AY,Ba,Be⟩:=DC ZF;have hrun:=run_make (P:=prog) w 308 240 i0 _ underlying308 hi AY .i64 .i64 n n (by omega) (Int.le_refl _) (by rw[Be];omega) (by omega);rw[Int.toNat_natCast] at hrun;refine⟨_,hrun,ag5 w _ _ _ (fun i hi=>?_)⟩;have Bl:=hi;rw[List.length_replicate] at hi;rw[Ba];have hs:Ns.length=64:=by simp[Ns]
 have hg:=gP Ns (i % 64) (by rw[hs];exact Nat.mod_lt _ (by decide));have hz:Ns[i % 64]'(by rw[hs];exact Nat.mod_lt _ (by decide))=0:=List.getElem_replicate _;rw[hz] at hg;clear hz hrun;have Be:(List.replicate (64*n) (0:UInt8))[i]'Bl=0:=List.getElem_replicate _;rw[Be];unfold madeCells;simp only[Value.cells,nu,hs];rw[Array.getElem?_map,Array.getElem?_range,Ad (by omega)];simp only[EK];rw[getElem!_def,hg]
theorem azL{w:World}{b m:Nat}{lv:Value}{D:A8}(h:EL w b m lv D)(at_ n:Int)(hd:D.down=true):
  Calls prog 159 #[.pointer (some ⟨b,0,none⟩),.int .i64 at_,.int .i64 n] w fun e w'=>e=.returned (.tuple #[.string (bs []),.int .i64 40])∧w=w':=by
 have hu:Hid (D.up=40):=Hi (by unfold A8.up;rw[hd];rfl);clear hd
 go_in
 go_wp2_with fail;refine(YD h).mono ?_;rw[hu.out];rintro e w1⟨rfl,rfl⟩;go_wp2;go_ret2;exact⟨rfl,rfl⟩
theorem ve{w:World}{b m:Nat}{lv:Value}{D:A8}(h:EL w b m lv D)(a n:Nat)(hd:D.down=false)(hi:D.inside a n=true):
  Calls prog 159 #[.pointer (some ⟨b,0,none⟩),.int .i64 a,.int .i64 n] w fun e w'=>e=.returned (.tuple #[.string (bs (A8.text D.now a n)),.int .i64 0])∧Bw w w':=by
 have hu:Hid (D.up=0):=Hi (by unfold A8.up;rw[hd];rfl);have HI:=Hi hi;have hN:=h.fine.n2;have D6:a+n≤D.n:=by
  simp[A8.inside] at hi;omega
 clear hd hi;obtain⟨C,NY,Af⟩:=aAw w n (by omega);have Ck:=Hi Af;clear Af;have HD:=Hi h
 go_in
 go_wp2_with fail;refine(YD h).mono ?_;rw[hu.out];rintro e w1⟨rfl,rfl⟩;go_wp2_with fail;refine(acf h a n (by omega) (by omega) (by omega) (by omega)).mono ?_;rw[HI.out];rintro e w1⟨rfl,rfl⟩;clear h;go_wp2
 go_loopw [30] (fun i wr=>∃ k:Nat,k≤n∧i=.int .i64 k∧BytesAt wr w.heap.size (A8.text (A8.upTo D.base (a+k)) a n)∧Bw w wr) (fun i _=>n -(intOf i).toNat)
 case atStart=>
  refine⟨0,by omega,rfl,?_,(Ai _ _).alloc (Ae _) _⟩;rw[Nat.add_zero,A8.aBQ];exact Ck.out
 case round=>
  obtain⟨k,hk,rfl,hat,hb⟩:=hrel;by_cases hlt:k < n
  ·have IV:=Hi hat;have XQ:=HD.below hb;obtain⟨_,c1,_,_,_,_⟩:=XQ.cells;have NS:=XQ.base.get (a+k) (by omega) hN;rw[Int.natCast_add] at NS;clear hat XQ;have CP:=HD.fine.base;have Ll:=Hi (CP (a+k) (by omega));have I9:∀ j,a≤j→j < a+n→(A8.upTo D.base (a+k) j).length=64:=fun j _ h2=>A8.vY CP _ j (by omega)
   have Ps:=Hi I9;have hlen:(A8.text (A8.upTo D.base (a+k)) a n).length=64*n:=A8.Ym I9;have Bc:=IV.store prog (k*64) (D.base (a+k)) (by rw[Ll.out,hlen];omega);have yn:=Hi (IV.seg (D.base (a+k)) (k*64) (by rw[Ll.out,hlen];omega));have GK:=Ll.out;clear CP hlen I9;go_wp2;go_roundw
   case rel=>
    refine⟨k+1,by omega,by go_num,?_,below_setCells hb (Ae _) _ _⟩;have e:=yn.out;rw[Nat.mul_comm k 64,←A8.ao3 Ps hlt Ll.out,←A8.aBR] at e;rw[Nat.mul_comm k 64];exact e
   case measure=>simp[intOf];omega
  ·obtain rfl:k=n:=(by omega);rw[A8.aBP] at hat;have IV:=Hi hat;have XQ:=HD.below hb;obtain⟨_,_,c2,_,_,_⟩:=XQ.cells;have hl:∃ q cap,lv=.slice q D.loose.length cap:=by
    rcases XQ.loose.2 with⟨e1,e2⟩|⟨g,cap,_,e1,_⟩
    ·exact⟨none,0,by rw[e1,e2]⟩
    ·exact⟨_,cap,e1⟩
   obtain⟨q,cap,rfl⟩:=hl;have aw0:=ayK XQ.loose;have HB:=Hi hb;clear hat XQ hb NY;go_wp2
   go_loopw [50] (fun i wr=>∃ j:Nat,j≤D.loose.length∧i=.int .i64 j∧BytesAt wr w.heap.size (A8.text (A8.lay D.base (D.loose.take j)) a k)∧Bw w wr) (fun i _=>D.loose.length -(intOf i).toNat)
   case atStart=>exact⟨0,by omega,rfl,IV,HB⟩
   case round=>
    clear IV HB
    rename_i wr0
    obtain⟨j,hj,rfl,hat,hb⟩:=hrel;by_cases hlt:j < D.loose.length
    ·have Nf:=(HD.below hb).loose;obtain⟨g,rfl⟩:∃ g,q=some ⟨g,0,none⟩:=by
      rcases Nf.2 with⟨e1,e2⟩|⟨g,cap,_,e1,_⟩
      ·omega
      ·exact⟨g,by cases e1;rfl⟩
     obtain⟨p1,p2⟩:=HD.fine.loose D.loose[j] (CQ hlt);have hall:∀ p∈D.loose,p.2.length=64:=fun p hp=>(HD.fine.loose p hp).2
     have hr:=acy Nf hall j hlt;have Iu:=IB prog 142 242 underlying142 65 acX ⟨g,0,none⟩ D.loose.length cap j hlt;have Xu:(⟨g,0,none⟩:Addr).add (j*65)=⟨g,j*65,none⟩:=(by unfold Addr.add;split<;>simp_all);rw[Xu] at Iu;have HS:=Hi (A8.axv D.base D.loose j hlt);have IK:∀ i,i < D.n→(A8.lay D.base (D.loose.take j) i).length=64:=A8.lM HD.fine.base (fun p hp=>HD.fine.loose p (List.mem_of_mem_take hp));have Qo:=Hi IK;have HR:=Hi hr;have KE:=Hi p2;have IV:=Hi hat;generalize D.loose[j]=p at*;clear Nf hall hr IK Xu p2 hat;have hz:=amC p;have hlen:(A8.text (A8.lay D.base (D.loose.take j)) a k).length=64*k:=A8.Ym (fun i _ h2=>Qo i (by omega));have Fy:=Hi hlen;have HB:=Hi hb;clear hlen hb;by_cases ab9:a≤p.1∧p.1 < a+k
     ·obtain⟨i1,i2⟩:=ab9;have Wh:=IV.below ((Ai _ wr).alloc (Ae _) (.cells (putRow p) 242));have Bc:=Wh.store prog ((p.1 -a)*64) p.2 (by rw[KE.out,Fy.out];omega);have yn:=Hi (Wh.seg p.2 ((p.1 -a)*64) (by rw[KE.out,Fy.out];omega));have GK:=KE.out;clear Wh;go_wp2_with (first|(refine wpList_load_mid rfl 242 _ rfl g (j*65) rfl _ _ HR underlying242 rfl (uY p KE) ?_;rw[uX])|(refine wpList_store_row rfl 242 _ _ rfl wr.heap.size (putRow p) rfl rfl 242 _ (AQ wr _) (uZ p KE) (ad1 p KE) (uU p) ?_;rw[World.setRow_alloc_new])|(refine wpList_load_mid rfl 240 _ rfl wr.heap.size 1 rfl _ _ (azj wr p _) underlying240 rfl (mP p.2 KE) ?_;rw[gM]));go_roundw
      case rel=>
       refine⟨j+1,by omega,by go_num,?_,below_setCells (HB.alloc HB.size _) (Ae _) _ _⟩;have e:=yn.out;have e2:=A8.ao3 (f:=A8.lay D.base (D.loose.take j)) (k:=a) (n:=k) (i:=p.1 -a) (x:=p.2) (fun i _ h2=>Qo i (by omega)) (by omega) KE.out;rw[show a+(p.1 -a)=p.1 by omega,←HS.out] at e2;rw[Nat.mul_comm (p.1 -a) 64,←e2] at e;rw[Nat.mul_comm (p.1 -a) 64];exact e
      case measure=>simp[intOf];omega
     ·have akr:A8.text (A8.lay D.base (D.loose.take (j+1))) a k=A8.text (A8.lay D.base (D.loose.take j)) a k:=by
       rw[HS.out];exact A8.Qc a k (fun i h1 h2=>by unfold A8.upd;rw[Ab (by omega)])
      have afc:=Hi akr;clear akr;by_cases Y4:a≤p.1
      ·have hhi:a+k≤p.1:=(by omega);clear ab9;go_wp2_with (first|(refine wpList_load_mid rfl 242 _ rfl g (j*65) rfl _ _ HR underlying242 rfl (uY p KE) ?_;rw[uX])|(refine wpList_store_row rfl 242 _ _ rfl wr.heap.size (putRow p) rfl rfl 242 _ (AQ wr _) (uZ p KE) (ad1 p KE) (uU p) ?_;rw[World.setRow_alloc_new]));go_roundw
       case rel=>exact⟨j+1,by omega,by go_num,by rw[afc.out];exact IV.below ((Ai _ wr).alloc (Ae _) _),HB.alloc HB.size _⟩
       case measure=>simp[intOf];omega
      ·clear ab9;go_wp2_with (first|(refine wpList_load_mid rfl 242 _ rfl g (j*65) rfl _ _ HR underlying242 rfl (uY p KE) ?_;rw[uX])|(refine wpList_store_row rfl 242 _ _ rfl wr.heap.size (putRow p) rfl rfl 242 _ (AQ wr _) (uZ p KE) (ad1 p KE) (uU p) ?_;rw[World.setRow_alloc_new]));go_roundw
       case rel=>exact⟨j+1,by omega,by go_num,by rw[afc.out];exact IV.below ((Ai _ wr).alloc (Ae _) _),HB.alloc HB.size _⟩
       case measure=>simp[intOf];omega
    ·obtain rfl:j=D.loose.length:=(by omega);rw[Da] at hat;have IV:=Hi hat;have HB:=Hi hb;have Qo:=Hi HD.fine.now;clear hat hb c2 HD Ck aw0;go_wp2_with fail;have ajQ:=Ej.made wr;obtain⟨wo,rfl⟩:∃ wo:World,wo=wr:=⟨_,rfl⟩;have PY:=IV.lt;have OL:=(Ai wo.heap.size wo).alloc (Ae _) (.cells #[.pointer none,.slice none 0 0] 210);have Wd:=IV.below OL;have Aj:Bw w (wo.alloc (.cells #[.pointer none,.slice none 0 0] 210)):=HB.alloc HB.size _;have ajf:(A8.text D.now a k).length=64*k:=A8.Ym (fun i _ h2=>Qo i (by omega));have Fy:=Hi ajf;clear ajf OL;have ak4:A8.lay D.base D.loose=D.now:=rfl;rw[ak4] at Wd;clear ak4
     go_loopw [77] (fun i wl=>∃ (j:Nat) (fp:Nat→Prop),j≤k∧i=.int .i64 j∧BytesAt wl w.heap.size (A8.text D.now a k)∧Ej wl wo.heap.size ((A8.text D.now a k).take (64*j)) fp∧(∀ q,fp q→wo.heap.size≤q)∧Bw w wl) (fun i _=>k -(intOf i).toNat)
     case atStart=>
      refine⟨0,_,by omega,rfl,Wd,ajQ,?_,Aj⟩;rintro q (rfl|hq)
      ·exact Ae _
      ·simp[Value.ownBlock] at hq
     case round=>
      clear ajQ Wd Aj;obtain⟨j,fp,hj,rfl,hat,Fq,GI,hb⟩:=hrel;by_cases hlt:j < k
      ·have abD:=A8.ao1 (f:=D.now) (k:=a) (n:=k) (i:=j) (fun i _ h2=>Qo i (by omega)) hlt;have hr:=hat.range (j*64) 64 (by rw[Fy.out];omega);rw[Nat.mul_comm j 64,abD.2.1] at hr;have hx:(D.now (a+j)).length=64:=Qo _ (by omega);have HX:=Hi hx;have HR:=Hi hr
       have HT:Hid ((A8.text D.now a k).take (64*(j+1))=(A8.text D.now a k).take (64*j)++D.now (a+j)):=Hi (by
        rw[show 64*(j+1)=64*j+64 by omega,List.take_add,abD.2.1])
       have OL:=(Ai wr.heap.size wr).alloc (Ae _) (.cells (Dh (D.now (a+j))) 240);have aoY:=Hi (hat.below OL);have DV:=Hi (Fq.upd (ub OL) (fun _ _ f=>f));have Fe:=Hi GI;have Oh:=Hi Fq.lt;have Xh:Hid (wo.heap.size≤wr.heap.size):=Hi (Nat.le_of_lt (Fq.lt wo.heap.size Fq.own));have HBB:=Hi (hb.alloc hb.size (.cells (Dh (D.now (a+j))) 240));generalize hxx:D.now (a+j)=x at*;clear abD hr hx hat Fq GI hb OL hxx;have CG:=fun W=>aAj prog W 240 5 64 wr.heap.size underlying240 (by kernel_rfl)
       go_wp2_with (first|(refine wpList_load_mid rfl 240 _ rfl w.heap.size (j*64) rfl _ _ (by rw[Nat.mul_comm];exact HR.out) underlying240 rfl (mP x HX) ?_;rw[gM])|(refine wpList_store_row rfl 240 _ _ rfl wr.heap.size (Dh x) rfl rfl 240 _ (AQ wr _) (by rw[nu,HX.out];exact adn) (by rw[nu,HX.out];rfl) (adI x) ?_;rw[World.setRow_alloc_new]));refine(ag2 DV wr.heap.size 0 64 x (fun i hi=>by rw[Ha,E5];exact gP x i hi) (fun hf=>Nat.lt_irrefl _ (Oh _ hf)) (by rw[AZ,Fy.out,HX.out];omega) 64 HX).mono ?_;rintro e w2⟨rfl,fp2,XM,Et,akw⟩;have Pf:=Hi XM;have RA:=Hi Et;have aq8:=Hi akw;clear XM Et akw;go_wp2;go_roundw
       case rel=>
        refine⟨j+1,fp2,by omega,by go_num,aoY.upd RA (fun hf=>by have:=Fe _ hf;omega),by rw[HT.out];exact Pf.out,?_,Cy HBB RA (fun q hq=>Aw (Nat.le_of_lt PY) (Fe q hq)) HBB.size⟩;intro q hq;rcases aq8 q hq with h1|h1
        ·exact Fe q h1
        ·have:=Xh.out;rw[Ay] at h1;omega
       case measure=>simp[intOf];omega
      ·obtain rfl:j=k:=(by omega);rw[Gu (by rw[Fy.out];omega)] at Fq;have DV:=Hi Fq;have Fe:=Hi GI;have Ak:=Hi hb;clear Fq GI hb hat;go_wp2_with fail;refine(Xp DV).mono ?_;rintro e w2⟨rfl,Et⟩;go_wp2;go_ret2;exact⟨rfl,Cy Ak Et (fun q hq=>Aw (Nat.le_of_lt PY) (Fe q hq)) Ak.size⟩
end
section
open Go.RowKit Go.Maps
theorem chunk(s:List UInt8)(k:Nat)(h:64*(k+1)≤s.length):(s.take (64*(k+1))).drop (64*k)=(s.drop (64*k)).take 64∧((s.drop (64*k)).take 64).length=64:=by
 refine⟨?_,by rw[AZ,Ct];omega⟩;rw[List.drop_take,show 64*(k+1) -64*k=64 by omega]
theorem azn:(prog.info? 242).map (fun i=>(i.zero,i.size,i.bytes))=some (some (.agg Tryz.zeroCells242),65,72):=by kernel_rfl
theorem ayt(w:World)(C:Array Value)(T:TypeId)(N:Nat)(hN:w.heap.size=N):∀ j u,C.toList[j]?=some u→(w.alloc (.cells C T)).drew.cell? ((⟨N,0,none⟩:Addr).add j)=some u:=by
 subst hN;intro j u h;have e:(⟨w.heap.size,0,none⟩:Addr).add j=⟨w.heap.size,j,none⟩:=by unfold Addr.add;split<;>simp_all
 rw[e]
 show(w.alloc (.cells C T)).cell? _=_
 rw[E5,←Dy];exact h
theorem azi(i:Int)(x:List UInt8):∀ u∈(Qb i x).toList,u.oneCell'=true:=by
 unfold Qb;intro u hu;rcases Cc.1 hu with rfl|h
 ·rfl
 ·exact nk _ u h
theorem azh(i:Int)(x:List UInt8)(h:x.length=64):(Qb i x).toList.length=1*65:=by rw[Array.length_toList,acT i x h]
theorem azp{w w':World}{row:Option Nat}(hg:w.grownBy w' row){b o:Nat}{cs:List Value}(h:w.rangeAt b o cs)(hne:some b≠row):w'.rangeAt b o cs:=fun j v hv=>hg.cell (h j v hv) hne
theorem akZ{w:World}{a:Addr}{v:Value}{b2 o:Nat}{cs:List Value}(h1:w.cell? a=some v)(h0:w.frozen? a=false)(h2:w.rangeAt b2 o cs)(ob:Obj):(w.alloc ob).drew.cell? a=some v∧(w.alloc ob).drew.frozen? a=false∧(w.alloc ob).drew.rangeAt b2 o cs:=by
 have hb:=(Ai w.heap.size w).alloc (Ae _) ob;refine⟨(hb.cell (Cr h1)).trans h1,(hb.frozen (Cr h1)).trans h0,fun j u hj=>?_⟩;have:=h2 j u hj;exact(hb.cell (Cr this)).trans this
theorem al0{w w':World}{a:Addr}{v:Value}{b2 o:Nat}{cs:List Value}(h:w.cell? a=some v∧w.frozen? a=false∧w.rangeAt b2 o cs){row:Option Nat}(hg:w.grownBy w' row)(hne:some a.block≠row)(Y6:some b2≠row):w'.cell? a=some v∧w'.frozen? a=false∧w'.rangeAt b2 o cs:=
 ⟨hg.cell h.1 hne,(hg.frozen_far a (Cr h.1) hne).trans h.2.1,azp hg h.2.2 Y6⟩
theorem wrote{w1 W w2:World}{b m:Nat}{lk:Value}{E:A8}(h:EL w1 b m lk E)(hW:Bw w1 W)(AJ:W.grownBy w2 lk.ownBlock){gg cap a:Nat}{x:List UInt8}{L:Int}{C:List Value}{N:Nat}(hN:E.loose.length+1=N)
  (hown:w2.ownsRow 0 242 65 (.slice (some ⟨gg,0,none⟩) N cap) N C)(hC:C=O3 (E.loose++[(a,x)]))(hat:lk.ownBlock=some gg∨w1.heap.size≤gg)(ha:a < E.n)(hx:x.length=64)(hL: -1≤L∧L≤9223372036854775807):
  EL ((w2.setCell ⟨b,2,none⟩ (.slice (some ⟨gg,0,none⟩) N cap)).setCell ⟨b,3,none⟩ (.int .i64 L)) b m (.slice (some ⟨gg,0,none⟩) N cap) { E with loose:=E.loose++[(a,x)],left:=L }∧
  A7 (QA b m lk) w1 ((w2.setCell ⟨b,2,none⟩ (.slice (some ⟨gg,0,none⟩) N cap)).setCell ⟨b,3,none⟩ (.int .i64 L))∧Dj (QA b m lk) (QA b m (.slice (some ⟨gg,0,none⟩) N cap)) w1:=by
 subst hC;subst hN;have hb:b < w1.heap.size:=(Dq.1 h.struct).1;have hm:m < w1.heap.size:=h.base.lt;have u1:A7 (QA b m lk) w1 w2:=(A7.of_below hW).trans (A7.of_grownBy (F:=fun k=>lk.ownBlock=some k) AJ (fun k e=>e)) (fun k hk=>.inl (.inr (.inr hk)));have u2:A7 (fun k=>lk.ownBlock=some k) w1 w2:=(A7.of_below hW).trans (A7.of_grownBy (F:=fun k=>lk.ownBlock=some k) AJ (fun k e=>e)) (fun k hk=>.inl hk);have NR:gg≠b:=fun e=>by
  rcases hat with hat|hat
  ·exact h.lb (by rw[hat,e])
  ·omega
 have Jk:gg≠m:=fun e=>by
  rcases hat with hat|hat
  ·exact h.lm (by rw[hat,e])
  ·omega
 have hs:w2.heap[b]?=some (.cells #[.int .i64 (E.n:Int),.map (some m),lk,.int .i64 E.left,.bool E.down] 144):=by
  rw[u2.block b hb h.lb];exact h.struct
 have hF:A8.BO { E with loose:=E.loose++[(a,x)],left:=L }:=by
  refine⟨h.fine.n1,h.fine.n2,h.fine.base,fun p hp=>?_,hL⟩;rcases Eh.1 hp with hp|hp
  ·exact h.fine.loose p hp
  ·simp at hp;subst hp;exact⟨ha,hx⟩
 have hv:∀ (v v':Value),A7 (fun k=>k=b) w2 ((w2.setCell ⟨b,2,none⟩ v).setCell ⟨b,3,none⟩ v'):=fun v v'=>((A7.refl (fun k=>k=b) w2).setCell (p:=⟨b,2,none⟩) (.inl rfl) v).setCell (p:=⟨b,3,none⟩) (.inl rfl) v'
 refine⟨⟨?_,?_,?_,h.mb,fun e=>NR (by simpa[Value.ownBlock] using e),fun e=>Jk (by simpa[Value.ownBlock] using e),hF⟩,?_,?_⟩
 ·have e1:=Cu w2 b 2 _ _ (.slice (some ⟨gg,0,none⟩) (E.loose.length+1:Nat) cap) hs;have e2:=Cu _ b 3 _ _ (.int .i64 L) e1;exact e2
 ·refine(h.base.kept (u2.block m hm h.lm)).kept ((hv _ _).block m (Hw hm u2.size) h.mb)
 ·have e:(E.loose++[(a,x)]).length=E.loose.length+1:=by simp
  show World.ownsRow _ 0 _ 65 _ (E.loose++[(a,x)]).length _
  rw[e];exact Bv hown (hv _ _) (fun g hg e=>NR (by simp[Value.ownBlock] at hg;omega))
 ·exact(u1.setCell (p:=⟨b,2,none⟩) (.inl (.inl rfl)) _).setCell (p:=⟨b,3,none⟩) (.inl (.inl rfl)) _
 ·rintro k (rfl|rfl|hk)
  ·exact .inl (.inl rfl)
  ·exact .inl (.inr (.inl rfl))
  ·simp[Value.ownBlock] at hk;subst hk;rcases hat with hat|hat
   ·exact .inl (.inr (.inr hat))
   ·exact .inr hat
theorem axI(l:List (Nat×List UInt8))(a k:Nat)(x:List UInt8):O3 l++(Qb ((a:Int)+(k:Int)) x).toList=O3 (l++[(a+k,x)]):=by
 rw[axH,azg,Yw]
def adk(p:Value):Sem Value:=Instr.loadAt 240 p
theorem adl(p:Value):Instr.loadAt 240 p=adk p:=rfl
attribute [local go_sem ↓] adl
attribute [local simp] gM azl acT azm
theorem aCN{w:World}{b m:Nat}{lv:Value}{D:A8}(h:EL w b m lv D)(a:Nat)(s:List UInt8)(hd:D.down=false)(n:Nat)(hs:s.length=64*n)(hi:D.inside a n=true)(I7:D.loose.length+n≤1000000000):
  Calls prog 137 #[.pointer (some ⟨b,0,none⟩),.int .i64 a,.string (bs s)] w fun e w'=>e=.returned (.int .i64 (A8.writes D a s n).2)∧∃ u7,EL w' b m u7 (A8.writes D a s n).1∧A7 (QA b m lv) w w'∧Dj (QA b m lv) (QA b m u7) w:=by
 have hu:Hid (D.up=0):=Hi (by unfold A8.up;rw[hd];rfl);have HI:=Hi hi;have hN:=h.fine.n2;have D6:a+n≤D.n:=by
  simp[A8.inside] at hi;omega
 clear hd hi;have HS:=Hi hs;have hq:((s.length:Int) / 64)=(n:Int):=by omega
 have hr:(s.length:Int) % 64=0:=by omega
 have HD:=Hi h;clear hs;have HQ:=Hi hq;have HR:=Hi hr;clear hq hr
 go_in
 go_wp2_with fail
 go_step3
 go_wp2_with fail;refine(YD h).mono ?_;rw[hu.out];rintro e w1⟨rfl,rfl⟩;have hq:=HQ.out;have hr:=HR.out;go_wp2_with fail;refine(acf h a n (by omega) (by omega) (by omega) (by omega)).mono ?_;rw[HI.out];rintro e w1⟨rfl,rfl⟩;clear h hq hr;go_wp2_with fail
 go_step3
 go_wp2
 go_loopw [6,31] (fun e i wr=>e=.int .i64 0∧∃ (k:Nat) (lk:Value) (E:A8),k≤n∧i=.int .i64 k∧EL wr b m lk E∧E.n=D.n∧E.loose.length=D.loose.length+k∧A8.writes D a s n=A8.writes E (a+k) (s.drop (64*k)) (n -k)∧A7 (QA b m lv) w wr∧Dj (QA b m lv) (QA b m lk) w) (fun _ i _=>n -(intOf i).toNat)
 case atStart=>exact⟨rfl,0,lv,D,by omega,rfl,HD,rfl,rfl,by rw[Nat.mul_zero,List.drop_zero];rfl,A7.refl _ _,fun _ h=>.inl h⟩
 case round=>
  obtain⟨rfl,k,lk,E,hk,rfl,hE,dF,XD,hW,hU,hS⟩:=hrel;obtain⟨c0,c1,c2,c3,c4,cf⟩:=hE.cells;by_cases hlt:k < n
  ·obtain⟨Em,Ec⟩:=chunk s k (by rw[HS.out];omega);have hstep:A8.writes E (a+k) (s.drop (64*k)) (n -k)=if E.left=0 then({ E with down:=true },40) else A8.writes { E with loose:=E.loose++[(a+k,(s.drop (64*k)).take 64)],left:=max (E.left -1) (-1) } (a+k+1) ((s.drop (64*k)).drop 64) (n -(k+1)):=by
    rw[show n -k=(n -(k+1))+1 by omega];rfl
   have Bh:=Hi hstep;have HE:=Hi hE;have HEN:=Hi dF;have HEL:=Hi XD;have HW:=Hi hW;have HU:=Hi hU;have VF:=Hi hS;have Pv:=Hi Em;have RG:=Hi Ec;have cf3:=cf 3;have pM:=cf 4;have cf2:=cf 2;clear hstep hE dF XD hW hU hS Em Ec cf c0 c1;by_cases Mt:E.left=0
   ·have Bg:(E.left == 0)=true:=(by simp[Mt]);have HL:=Hi Mt;clear Mt;go_wp2_with fail;rw[Exit.noGoto_ret];go_ret;have PT:A8.BO { E with down:=true }:=⟨HE.fine.n1,HE.fine.n2,HE.fine.base,HE.fine.loose,HE.fine.left⟩;refine⟨by rw[HW.out,Bh.out,Ad HL.out];rfl,lk,?_,HU.setCell (p:=⟨b,4,none⟩) (.inl (.inl rfl)) _,VF.out⟩;rw[HW.out,Bh.out,Ad HL.out];exact HE.set (D':={ E with down:=true }) 4 _ rfl rfl rfl rfl PT
   ·have Bg:(E.left == 0)=false:=(by simp[Mt]);have HL:=Hi Mt;clear Mt;have CG:64*(k+1)≤s.length:=(by rw[HS.out];omega);have lI:List.drop (k*64) (List.take ((k+1)*64) s)=(s.drop (64*k)).take 64:=(by rw[Nat.mul_comm k,Nat.mul_comm (k+1)];exact Pv.out);have aq4:Hid ((s.drop (64*k)).drop 64=s.drop (64*(k+1))):=Hi (by rw[List.drop_drop,show 64*k+64=64*(k+1) by omega]);generalize (s.drop (64*k)).take 64=x at*;obtain⟨w1,cap,Tq,UJ,Aj,Q4⟩:=arH prog 9 54 5 underlying9 underlying54 underlying5 wr x;have jU:=fun W=>run_arrayAt prog W 240 5 64 (some ⟨wr.heap.size,0,none⟩) x.length cap underlying240 (by rw[RG.out];exact Ae _)
    have abL:=UJ.range 0 64 (by rw[RG.out];exact Ae _);rw[List.drop_zero,Gu (by rw[RG.out];exact Ae _)] at abL;have Ui:=Hi abL;have DX:=Hi Q4;clear Q4;have HB1:=Hi Aj;have hE1:=HE.below Aj;obtain⟨_,_,d2,d3,_,df⟩:=hE1.cells;have Jd:=Hi hE1;have df2:=df 2;have Zj:=df 3;clear abL Aj Pv UJ c2 c4 cf3 pM cf2 hE1 df;go_wp2_with (first|(refine wpList_load_mid rfl 240 _ rfl wr.heap.size 0 rfl _ _ Ui underlying240 rfl (mP x RG) ?_;rw[gM])|(refine wpList_store_row rfl 240 _ _ rfl w1.heap.size (Dh x) rfl rfl 240 _ (AQ w1 _) (by rw[nu,RG.out];exact adn) (by rw[nu,RG.out];rfl) (adI x) ?_;rw[World.setRow_alloc_new]));have Y4:=(Jd.loose);have akD:=underlying240;have aju:=mP x RG.out;have Ms:(w1.alloc (.cells (Dh x) 240)).cell? ⟨b,2,none⟩=some lk:=by
     rw[←d2];exact((Ai _ w1).alloc (Ae _) _).cell (Cr d2)
    have hf2:(w1.alloc (.cells (Dh x) 240)).frozen? ⟨b,2,none⟩=false:=by
     rw[←df2];exact((Ai _ w1).alloc (Ae _) _).frozen (Cr d2)
    have Af:(w1.alloc (.cells (Dh x) 240)).rangeAt w1.heap.size 0 (Cj x):=by
     intro j v hv;rw[Ha,E5,←Dy,adH];exact hv
    obtain⟨i0,Bl,AY,Ba,Be⟩:=DC azn;have Yj:=RG.out;have ai:IntKind.i64.wrap ((a:Int)+(k:Int))=(a:Int)+(k:Int):=ET _ (by omega);have Y6:=Jd.lb;have ak0:lk.ownBlock≠some w1.heap.size:=fun e=>by have:=aH Y4 e;omega
    have aiR:(E.loose.length+1)*72≤140737488355328:=(by rw[HEL.out];omega);have TH:(w1.alloc (.cells (Dh x) 240)).heap.size=w1.heap.size+1:=Array.size_push _;have aDV:w1.heap.size≠b:=(by have:=Cr d2;simp at this;omega);have awr:w1.heap.size≤(w1.alloc (.cells (Dh x) 240)).heap.size:=(by rw[TH];omega);have PO:(w1.alloc (.cells (Dh x) 240)).cell? ⟨b,3,none⟩=some (.int .i64 E.left):=by
     rw[←d3];exact((Ai _ w1).alloc (Ae _) _).cell (Cr d3)
    have hf3:(w1.alloc (.cells (Dh x) 240)).frozen? ⟨b,3,none⟩=false:=by
     rw[←Zj];exact((Ai _ w1).alloc (Ae _) _).frozen (Cr d3)
    have acm:=fun ob=>akZ PO hf3 Af ob
    obtain⟨Gm,GK⟩:=HE.fine.left;have ack:=fun ob=>akZ Ms hf2 Af ob
    have sH:(adk (.pointer (some ⟨w1.heap.size,0,none⟩))).run prog (w1.alloc (.cells (Dh x) 240)).drew=.ok (.agg (Dh x)) (w1.alloc (.cells (Dh x) 240)).drew:=by
     have:=run_loadAt_mid (w1.alloc (.cells (Dh x) 240)).drew w1.heap.size 0 240 (Cj x) _ (fun j u hj=>Af j u hj) akD rfl aju;rw[gM,adl] at this;exact this
    clear akD aju
    go_region_law
     ((refine step_append_lies _ (by rfl) _ _ _ (by rfl) 0 242 i0 _ 65 72 underlying142 Bl AY Ba Be (by rfl) (by omega) lk E.loose.length (O3 E.loose) (by rfl) (((Y4.alloc _).alloc _).drew) ⟨w1.heap.size+1,0,none⟩ 1 1 (Qb ((a:Int)+(k:Int)) x).toList (by rfl) (azh _ _ Yj) (ayt (w1.alloc (.cells (Dh x) 240)) _ _ _ TH) (azi _ _) (by omega) (by unfold maxLen;omega) aiR (by omega) (w1.heap.size+2) (by simp) ?_;intro gg cap2 w2 KY AJ hat OJ;have GY:=AJ.cell (ack _).1 (Ne.symm Y6);have avB:=(al0 (ack _) AJ (Ne.symm Y6) (Ne.symm ak0)).2.1;have K8:=AJ.cell (acm _).1 (Ne.symm Y6);have aEa:=(al0 (acm _) AJ (Ne.symm Y6) (Ne.symm ak0)).2.1))
    all_goals
     clear ack acm sH Ms hf2 PO hf3 TH Af Y4 d2 d3 df2 Zj c3 Tq jU aiR Bl AY Ba Be;go_wp2_with fail;have Dk:Bw w1 ((w1.alloc (Obj.cells (Dh x) 240)).alloc (Obj.cells (Qb (↑a+ ↑k) x) 242)).drew:=(((Ai _ w1).alloc (Ae _) _).alloc awr _).drew;have Wp:(if E.left -1 < -1 then(-1:Int) else E.left -1)=max (E.left -1) (-1):=(by split<;>omega);rw[Wp];obtain⟨g1,g2,g3⟩:=wrote (a:=a+k) (L:=max (E.left -1) (-1)) Jd Dk AJ rfl KY (axI _ _ _ _) (hat.imp (fun h=>h) (fun h=>by omega)) (by have:=HEN.out;omega) Yj (by omega);refine⟨⟨rfl,k+1,_,_,by omega,rfl,g1,HEN,?_,?_,?_,?_⟩,?_⟩
     ·show(E.loose++[(a+k,x)]).length=_
      rw[AA,HEL.out];rfl
     ·rw[HW.out,Bh.out,Ab HL.out,aq4.out];rfl
     ·refine(HU.trans (ub HB1) (fun _ f=>f.elim)).trans g2 (fun i hi=>?_);exact VF i hi
     ·intro i hi;have aws:=(HU.trans (ub HB1) (fun _ f=>f.elim)).size;rcases g3 i hi with h|h
      ·exact VF i h
      ·exact .inr (by omega)
     ·show n -((k:Int)+1).toNat < n -((k:Int)).toNat
      omega
  ·have Y3:k=n:=(by omega);subst Y3;have HE:=Hi hE;have HW:=Hi hW;have HU:=Hi hU;have VF:=Hi hS;clear hE hW hU hS dF XD c0 c1 c2 c3 c4 cf;go_wp2_with fail;rw[Exit.noGoto_ret];go_ret;rw[HW.out,Nat.sub_self];exact⟨rfl,lk,HE,HU,VF⟩
theorem nH{w:World}{b:Nat}{D:A8}{fp:Nat→Prop}(h:BB w b D fp)(a:Int)(s:List UInt8)(ha: -9223372036854775808≤a∧a≤9223372036854775807)(hl:s.length≤1000000000)(I7:D.loose.length+s.length / 64≤1000000000):
  Calls prog 137 #[.pointer (some ⟨b,0,none⟩),.int .i64 a,.string (bs s)] w fun e w'=>e=.returned (.int .i64 (D.write a s).2)∧∃ fp',BB w' b (D.write a s).1 fp'∧A7 fp w w'∧Dj fp fp' w:=by
 obtain⟨m,lv,hI,rfl⟩:=h;by_cases hd:D.down=true
 ·have hu:Hid (D.up=40):=Hi (by unfold A8.up;rw[hd];rfl);have hW:D.write a s=(D,40):=by unfold A8.write;rw[Ad hd]
  rw[hW];have HI:=Hi hI;clear hW hd
  go_in
  go_wp2_with fail
  go_step3
  go_wp2_with fail;refine(YD hI).mono ?_;rw[hu.out];rintro e w1⟨rfl,rfl⟩;go_wp2_with fail;rw[Exit.noGoto_ret];go_ret;exact⟨rfl,_,⟨m,lv,HI,rfl⟩,A7.refl _ _,fun _ h=>.inl h⟩
 ·have XP:D.down=false:=by simpa using hd
  by_cases hc:s.length % 64=0∧D.inside a (s.length / 64:Nat)=true
  ·have hW:D.write a s=A8.writes D a.toNat s (s.length / 64):=(by unfold A8.write;rw[Ab hd,Ad hc]);obtain⟨h1,h2⟩:=hc;have h3:=h2;simp only[A8.inside,Bool.and_eq_true,decide_eq_true_eq] at h3;have e:a=(a.toNat:Int):=(by omega);rw[hW];have hE:=aCN hI a.toNat s XP (s.length / 64) (by omega) (by rw[←e];exact h2) I7;rw[←e] at hE;refine hE.mono ?_;rintro e w1⟨rfl,u7,g1,g2,g3⟩;exact⟨rfl,_,⟨m,u7,g1,rfl⟩,g2,g3⟩
  ·have hu:Hid (D.up=0):=Hi (by unfold A8.up;rw[XP];rfl);have hW:D.write a s=(D,2):=(by unfold A8.write;rw[Ab hd,Ab hc]);rw[hW];have HI:=Hi hI;by_cases hr:(s.length:Int) % 64=0
   ·have D6:D.inside a (s.length / 64:Nat)=false:=by
     rcases hb:D.inside a (s.length / 64:Nat) with _|_
     ·rfl
     ·exact absurd ⟨by omega,hb⟩ hc
    have Lr:=Hi D6;clear hW hd XP hc D6;have hq:((s.length:Int) / 64)=((s.length / 64:Nat):Int):=(by omega);generalize s.length / 64=n at*;have HR:=Hi hr;have HQ:=Hi hq;clear hr hq
    go_in
    go_wp2_with fail
    go_step3
    go_wp2_with fail;refine(YD hI).mono ?_;rw[hu.out];rintro e w1⟨rfl,rfl⟩;have hq:=HQ.out;have hr:=HR.out;go_wp2_with fail;refine(acf hI a n (by omega) (by omega) (by omega) (by omega)).mono ?_;rw[Lr.out];rintro e w1⟨rfl,rfl⟩;go_wp2_with fail;rw[Exit.noGoto_ret];go_ret;exact⟨rfl,_,⟨m,lv,HI,rfl⟩,A7.refl _ _,fun _ h=>.inl h⟩
   ·have HR:=Hi hr;clear hW hd XP hc hr
    go_in
    go_wp2_with fail
    go_step3
    go_wp2_with fail;refine(YD hI).mono ?_;rw[hu.out];rintro e w1⟨rfl,rfl⟩;have hr:=HR.out;go_wp2_with fail;rw[Exit.noGoto_ret];go_ret;exact⟨rfl,_,⟨m,lv,HI,rfl⟩,A7.refl _ _,fun _ h=>.inl h⟩
end
section
section
variable {F:Fence}{n:Nat}{P:Program}{ops:Array Oper}{Q:Exit→Act→World→Prop}{md:Region.Mode}
structure aqy(a0:Act)(d m:Nat)(vals:Array Value)(listed:Array Bool)(a:Act):Prop where
 defers:a.defers=a0.defers
 size:a.tmps.size=a0.tmps.size
 out:∀ s,(s < d∨d+m≤s)→a.tmps.getD s undef=a0.tmps.getD s undef
 got:∀ j,j < m→listed.getD j false=true→a.tmps.getD (d+j) undef=vals.getD j undef
theorem qL{α:Type}(xs:Array α)(i j:Nat)(v d:α):(xs.setIfInBounds i v).getD j d=if i=j∧i < xs.size then v else xs.getD j d:=by
 simp only[Array.getD_eq_getD_getElem?,Array.getElem?_setIfInBounds];by_cases h:i=j
 ·subst h;by_cases h2:i < xs.size
  ·simp[h2]
  ·simp[h2]
 ·simp[h]
theorem count_set(xs:Array Bool)(i:Nat)(hi:i < xs.size)(hf:xs.getD i true=false):(xs.setIfInBounds i true).toList.count false+1=xs.toList.count false:=by
 rw[Array.toList_setIfInBounds,List.count_set (by simpa using hi)];have h:xs.toList[i]'(by simpa using hi)=false:=by
  rw[Array.getD_eq_getD_getElem?,WS hi] at hf;simpa using hf
 have hp:0 < xs.toList.count false:=List.count_pos_iff.2 (by rw[←h];exact CQ _);rw[h]
 show xs.toList.count false -1+0+1=_
 omega
theorem least(p:Nat→Bool):∀ m,p m=false→∃ j,p j=false∧∀ i,i < j→p i=true:=by
 intro m
 induction m using Nat.strongRecOn with
 |_ m ih=>
  intro h;by_cases hx:∃ i,i < m∧p i=false
  ·obtain⟨i,h1,h2⟩:=hx;exact ih i h1 h2
  ·exact⟨m,h,fun i hi=>by
    cases hp:p i with
    |true=>rfl
    |false=>exact absurd ⟨i,hi,hp⟩ hx⟩
def aqN(md:Region.Mode)(ops:Array Oper):Bool:=(List.range ops.size).all fun j=>match ops[j]? with|some o=>o.after.all (fun e=>!Region.binds md e || decide (e.on < j))|none=>true
def lastB(md:Region.Mode)(ops:Array Oper)(m:Nat):Bool:=(List.range m).all fun j=>match ops[m]? with|some o=>o.after.any (fun e=>Region.binds md e && decide (e.on=j))|none=>true
theorem aCI{a0:Act}{W:World}{d m:Nat}{vals:Array Value}(JJ:ops.size=m+1)(hd:d+m≤a0.tmps.size)
  (hops:∀ j,j < m→∃ o,ops[j]?=some o∧o.dst=some (d+j)∧o.guard=none)
  (auY:aqN md ops=true)(avR:lastB md ops m=true)
  (hrun:∀ j,j < m→∀ o,ops[j]?=some o→∀ a:Act,a.defers=a0.defers→(∀ s,(s < d∨d+m≤s)→a.tmps.getD s undef=a0.tmps.getD s undef)→
   (∀ e∈o.after,Region.binds md e=true→a.tmps.getD (d+e.on) undef=vals.getD e.on undef)→(∀ f,o.about P W a.eval=some f→F.fn f)∧(o.semAt F.round a.eval).run P W=.ok (.value (vals.getD j undef)) W)
  (hfin:∀ a:Act,a.defers=a0.defers→a.tmps.size=a0.tmps.size→(∀ s,(s < d∨d+m≤s)→a.tmps.getD s undef=a0.tmps.getD s undef)→(∀ j,j < m→a.tmps.getD (d+j) undef=vals.getD j undef)→wpOpIn F n P ops Q m (fun a' w'=>Q .normal a' w') a W):
  wpAnyIn F n P md ops Q ops.size (Array.replicate ops.size false) a0 W:=by
 have rF:∀ j o,ops[j]?=some o→∀ e∈o.after,Region.binds md e=true→e.on < j:=by
  intro j o ho e he hb;have hj:=(Dq.1 ho).1;have:=MH.1 auY j (List.mem_range.2 hj);rw[ho] at this;have h2:=(Array.all_eq_true_iff_forall_mem.1 this) e he;simpa[hb] using h2
 have eu:∀ o,ops[m]?=some o→∀ j,j < m→∃ e∈o.after,Region.binds md e=true∧e.on=j:=by
  intro o ho j hj;have:=MH.1 avR j (List.mem_range.2 hj);rw[ho] at this;have h2:o.after.any (fun e=>Region.binds md e && decide (e.on=j))=true:=this;rw[Array.any_eq_true] at h2;obtain⟨i,hi,h3⟩:=h2;exact⟨_,Array.getElem_mem hi,by simpa using h3⟩
 have main:∀ (fuel:Nat) (listed:Array Bool) (a:Act),listed.size=m+1→listed.toList.count false=fuel→listed.getD m true=false→aqy a0 d m vals listed a→wpAnyIn F n P md ops Q fuel listed a W:=by
  intro fuel
  induction fuel with
  |zero=>
   intro listed a hs hc hm _;exfalso;rw[List.count_eq_zero] at hc;apply hc;rw[Array.getD_eq_getD_getElem?,WS (by omega)] at hm;have:listed[m]'(by omega)=false:=(by simpa using hm);rw[←this];exact Array.mem_toList_iff.2 (Array.getElem_mem _)
  |succ fuel ih=>
   intro listed a hs hc hm hR;have hex:∃ i,i∈Region.ready md ops listed:=by
    obtain⟨j,hj,aw1⟩:=least (fun j=>listed.getD j true) m hm;have hjs:j < m+1:=by
     rcases Nat.lt_or_ge j (m+1) with h|h
     ·exact h
     ·rw[Array.getD_eq_getD_getElem?,Array.getElem?_eq_none (by omega)] at hj;simp at hj
    refine⟨j,mem_ready.2 ⟨hj,ops[j]'(by omega),WS _,fun e he hb=>?_⟩⟩;have hlt:=rF j _ (WS (by omega)) e he hb;have:=aw1 e.on hlt;rw[Array.getD_eq_getD_getElem?,WS (by omega)] at this ⊢;simpa using this
   refine⟨fun h0=>by obtain⟨i,hi⟩:=hex;rw[h0] at hi;exact(List.not_mem_nil hi).elim,fun i hi=>?_⟩;obtain⟨TJ,o,ho,hall⟩:=mem_ready.1 hi;have his:i < m+1:=by
    have:=(Dq.1 ho).1;omega
   by_cases su:i < m
   ·obtain⟨o',RQ,avj,hg⟩:=hops i su;obtain rfl:o'=o:=(by rw[ho] at RQ;exact(GQ RQ).symm);have Nf:∀ j,j < m→listed.getD j false=true→a.tmps.getD (d+j) undef=vals.getD j undef:=hR.got
    obtain⟨hab,Wq⟩:=hrun i su o' ho a hR.defers hR.out (fun e he hb=>by
     have h1:=hall e he hb;have h2:=rF i o' ho e he hb;exact Nf e.on (by omega) h1)
    unfold wpOpIn;simp only[ho];rw[Ad (by simp[Region.wanted,hg])];refine⟨hab,?_⟩;rw[Wq];simp only[Oper.uponIn];have NP:=count_set listed i (by omega) TJ;refine ih _ _ (by rw[Array.size_setIfInBounds];exact hs) (by omega) ?_ ?_
    ·rw[qL,Ab (by omega)];exact hm
    ·rw[avj];refine⟨hR.defers,?_,?_,?_⟩
     ·simp only[Act.put,Array.size_setIfInBounds];exact hR.size
     ·intro s hsx;simp only[Act.put];rw[qL,Ab (by omega)];exact hR.out s hsx
     ·intro j hj hl;simp only[Act.put];rw[qL] at hl ⊢;by_cases sj:i=j
      ·subst sj;rw[Ad ⟨rfl,by rw[hR.size];omega⟩]
      ·rw[Ab (by omega)];rw[Ab (by omega)] at hl;exact hR.got j hj hl
   ·obtain rfl:i=m:=(by omega);have aiv:∀ j,j < i→listed.getD j false=true:=fun j hj=>by
     obtain⟨e,he,hb,rfl⟩:=eu o ho j hj;exact hall e he hb
    refine wpOpIn_mono ?_ (hfin a hR.defers hR.size hR.out (fun j hj=>hR.got j hj (aiv j hj)));intro a' w' hq;have NP:=count_set listed i (by omega) TJ;have sM:Region.ready md ops (listed.setIfInBounds i true)=[]:=by
     rw[Vm];intro j hj;obtain⟨XY,oj,eP,_⟩:=mem_ready.1 hj;have hjs:=(Dq.1 eP).1;rw[qL] at XY;by_cases sj:i=j
     ·rw[Ad ⟨sj,by omega⟩] at XY;cases XY
     ·rw[Ab (by omega)] at XY;have:=aiv j (by omega);rw[Array.getD_eq_getD_getElem?,WS (by omega)] at this XY;simp at this XY;rw[this] at XY;cases XY
    cases fuel with
    |zero=>exact⟨sM,hq⟩
    |succ fuel=>exact⟨fun _=>hq,fun j hj=>by rw[sM] at hj;cases hj⟩
 refine main ops.size _ a0 (by simp[JJ]) (by simp) ?_ ⟨rfl,rfl,fun _ _=>rfl,fun j hj hl=>?_⟩
 ·rw[Array.getD_eq_getD_getElem?,Array.getElem?_replicate,Ad (by omega)];rfl
 ·rw[Array.getD_eq_getD_getElem?,Array.getElem?_replicate,Ad (by omega)] at hl;cases hl
end
end
section
open Go.RowKit Go.Maps Go.Shelf
attribute [local go_sem] O8
def uS(p:Value):Sem Value:=Instr.loadAt 242 p
theorem amF(p:Value):Instr.loadAt 242 p=uS p:=rfl
def amD(p v:Value):Sem Unit:=Instr.storeAt 242 p v
theorem amG(p v:Value):Instr.storeAt 242 p v=amD p v:=rfl
theorem uT{W:World}{g o:Nat}{p:Nat×List UInt8}(h:p.2.length=64)(hr:W.rangeAt g o (Value.int .i64 (p.1:Int) :: Cj p.2)):(uS (.pointer (some ⟨g,o,none⟩))).run prog W=.ok (.agg (putRow p)) W:=by
 have:=run_loadAt_mid (P:=prog) W g o 242 _ _ hr underlying242 rfl (uY p h);rw[uX] at this;exact this
theorem amz(W:World){p:Nat×List UInt8}(h:p.2.length=64):(uS (.pointer (some ⟨W.heap.size,0,none⟩))).run prog (W.alloc (.cells (putRow p) 242))=.ok (.agg (putRow p)) (W.alloc (.cells (putRow p) 242)):=by
 refine uT h (fun j v hv=>?_);rw[Ha,E5,←Dy,Yw];exact hv
theorem acV(W:World){p:Nat×List UInt8}(h:p.2.length=64)(Z:Array Value)(hZ:Z.size=65):(amD (.pointer (some ⟨W.heap.size,0,none⟩)) (.agg (putRow p))).run prog (W.alloc (.cells Z 242))=.ok () (W.alloc (.cells (putRow p) 242)):=
 run_storeAt_new W _ Z (putRow p) (uZ p h) (by rw[hZ,acU p h]) (uU p)
attribute [local go_sem ↓] amF amG
abbrev Item(N:Nat):={ p:Nat×List UInt8 // p.1 < N∧p.2.length=64 }
def encI{N:Nat}(x:Item N):Array Value:=#[.agg (putRow x.1)]
def aqo(m n₀ k:Nat):Prop:=k=m∨n₀≤k
def Kp(m n₀:Nat)(W W':World):Prop:=A7 (aqo m n₀) W W'
theorem ax{m n₀:Nat}{A B C:World}(h:Kp m n₀ A B)(k:Kp m n₀ B C):Kp m n₀ A C:=h.trans k (fun _ h=>.inl h)
theorem axi{m n₀ M:Nat}(hM:n₀≤M):∀ (W:World) (l:Nat) (o o':Obj),M≤l→W.heap[l]?=some o→o.isCells=false→o.isWalk=false→Kp m n₀ W (W.putObj l o'):=fun W l o o' h _ _ _=>by
 have hg:=grownBy_putObj' W l o';exact A7.of_grownBy hg (fun k e=>.inr (by cases e;omega))
structure Xj(m n₀:Nat)(W:World)(lv:Value)(L:List (Nat×List UInt8)):Prop where
 row:W.ownsRow 0 242 65 lv L.length (O3 L)
 old:∀ g,lv.ownBlock=some g→g < n₀∧g≠m
 len:∀ p∈L,p.2.length=64
theorem Xj.upd{m n₀:Nat}{W W':World}{lv:Value}{L:List (Nat×List UInt8)}(h:Xj m n₀ W lv L)(hk:Kp m n₀ W W'):Xj m n₀ W' lv L:=
 ⟨Bv h.row hk (fun g hg f=>by obtain⟨h1,h2⟩:=h.old g hg;rcases f with f|f;exact h2 f;omega),h.old,h.len⟩
theorem values_in(F:Fence)(n:Nat)(hf:F.fn 211)(l6:F.round=none)(a:Option Addr)(len cap:Nat)(w:World):
  CallsIn F n prog 211 #[.slice a len cap] w fun e w'=>e=.returned (.func (.func 260) #[] #[.pointer (some ⟨w.heap.size,0,none⟩)])∧w'=w.alloc (.cells #[.slice a len cap] 142):=by
 refine callsIn_of_wp func211 rfl hf ?_ l6;simp only[ntmps211,Jt,BG,Ht,Nat.reduceAdd,Nat.reduceSub,La,Lb,Lf,Lc,Ei,Gt]
 gi_wp2
 go_ret;exact⟨rfl,rfl⟩
theorem values_stops(F:Fence)(n:Nat)(hf:F.fn 260)(l6:F.round=none)(hn:1≤n)(N m n₀ Bs:Nat)(lv:Value)(L:List (Item N))(w:World)(hc:w.cell? ⟨Bs,0,none⟩=some lv)(hL:Xj m n₀ w lv (L.map (·.1)))(hlen:L.length≤1000000000):
  SeqStopsK F n prog 260 #[.pointer (some ⟨Bs,0,none⟩)] (encI (N:=N)) (Kp m n₀) (fun ys=>ys=L) (fun _=>True) L.length w:=fun l J Jx W hW hJ _ hY h0=>by
 have NP:=(hW.cell (p:=⟨Bs,0,none⟩) (Cr hc)).trans hc;have jL:Xj m n₀ W lv (L.map (·.1)):=⟨Bv hL.row (ub hW) (fun _ _ f=>f),hL.old,hL.len⟩;obtain⟨q,cap,rfl⟩:∃ q cap,lv=.slice q L.length cap:=by
  rcases hL.row.2 with⟨e1,e2⟩|⟨g,cap,_,e1,_⟩
  ·rw[BP] at e2;exact⟨none,0,by rw[e1,e2]⟩
  ·rw[BP] at e1;exact⟨_,cap,e1⟩
 have HL:=Hi jL;clear hL jL hc;refine callsIn_of_wp func260 rfl hf ?_ l6;simp only[ntmps260,Jt,BG,Ht,Nat.reduceAdd,Nat.reduceSub,La,Lb,Lf,Lc,Ei,Gt]
 gi_wp2
 gi_loopw [7] (fun i wr=>∃ k:Nat,k≤L.length∧i=.int .i64 k∧J (L.take k) wr∧Kp m n₀ W wr)
  (fun i _=>L.length -(intOf i).toNat)
 case atStart=>exact⟨0,AV _,rfl,by rw[Gg];exact h0,A7.refl _ _⟩
 case round=>
  obtain⟨k,hk,rfl,Na,FE⟩:=hrel;by_cases hlt:k < L.length
  ·have Nf:=(HL.upd FE).row;obtain⟨g,rfl⟩:∃ g,q=some ⟨g,0,none⟩:=by
    rcases Nf.2 with⟨e1,e2⟩|⟨g,cap,_,e1,_⟩
    ·rw[BP] at e2;omega
    ·exact⟨g,by injection e1⟩
   have IL:k < (L.map (·.1)).length:=(by rw[BP];exact hlt);have hr:=acy (by rw[BP] at Nf ⊢;exact Nf) HL.len k IL;have Iu:=IB prog 142 242 underlying142 65 acX ⟨g,0,none⟩ L.length cap k hlt;have Xu:(⟨g,0,none⟩:Addr).add (k*65)=⟨g,k*65,none⟩:=(by unfold Addr.add;split<;>simp_all);rw[Xu] at Iu;rw[List.getElem_map] at hr;have RX:L.take (k+1)=L.take k++[L[k]]:=(by rw[List.take_add_one,CJ hlt];rfl);have Cv:=Hi RX;have Gm:=uT L[k].2.2 hr;have TG:=acV wr L[k].2.2 Tryz.zeroCells242 mr;have GK:=amz wr L[k].2.2;generalize L[k]=x at*;have qW:J (L.take k) (wr.alloc (.cells (putRow x.1) 242)):=hJ _ _ _ none Na (World.grownBy_alloc _ _ none) (fun r e=>by cases e);obtain⟨fn,tmps,assign,body,hy,hR⟩:=hY _ x _ qW (by rw[AZ];omega);unfold encI at hy;have Di:=Hi FE;clear hr Nf Xu RX FE Na
   gi_wp2
   refine hR.mono ?_;rintro e W3 (⟨rfl,hJ3,XZ⟩|⟨rfl,aaB⟩)
   ·gi_wp2
    go_roundw
    case rel=>
     have h1:Kp m n₀ wr (wr.alloc (.cells (putRow x.1) 242)):=(A7.refl _ wr).alloc _;exact⟨k+1,by omega,by simp,by rw[Cv.out];exact hJ3,ax Di (ax h1 XZ)⟩
    case measure=>simp[intOf];omega
   ·gi_wp2
    refine EU (results_none rfl _ _ _) rfl ?_;exact⟨⟨_,rfl⟩,.inr ⟨_,trivial,aaB⟩⟩
  ·obtain rfl:k=L.length:=by omega
   gi_wp2
   go_end0
   exact⟨⟨_,rfl⟩,.inl ⟨_,rfl,by rw[Da] at Na;exact Na⟩⟩
def stays(keep:List UInt8)(i:Nat):Bool:=decide (keep≠[]) && (keep.getD (i % keep.length) 0).toNat % 2 == 1
def Kl{α:Type}(keep:List UInt8):Nat→List α→List α
 |_,[]=>[]
 |i,p :: l=>(if stays keep i then[p] else[])++Kl keep (i+1) l
theorem ax8{α β:Type}(f:α→β)(keep:List UInt8)(i:Nat)(l:List α):(Kl keep i l).map f=Kl keep i (l.map f):=by
 induction l generalizing i with
 |nil=>rfl
 |cons p l ih=>simp only[Kl,Ca,CK,ih];split<;>rfl
theorem ax6(keep:List UInt8)(i:Nat)(l:List (Nat×List UInt8)):Kl keep i l=A8.au keep i l:=by
 induction l generalizing i with
 |nil=>rfl
 |cons p l ih=>simp only[Kl,A8.au,ih,stays];simp
theorem ax5{α:Type}(keep:List UInt8)(i:Nat)(a b:List α):Kl keep i (a++b)=Kl keep i a++Kl keep (i+a.length) b:=by
 induction a generalizing i with
 |nil=>rfl
 |cons p a ih=>simp only[Gt,Kl,ih,Dz,BG,Nat.add_assoc,Nat.add_comm 1]
theorem ax7{α:Type}(keep:List UInt8)(i:Nat)(l:List α):(Kl keep i l).length≤l.length:=by
 induction l generalizing i with
 |nil=>exact Ae _
 |cons p l ih=>have:=ih (i+1);simp only[Kl,AA,BG];split<;>simp<;>omega
theorem axb(F:Fence)(n:Nat)(hf:F.fn 76)(l6:F.round=none)(b:Nat)(keep:List UInt8)(w:World):
  CallsIn F n prog 76 #[.pointer (some ⟨b,0,none⟩),.string (bs keep)] w fun e w'=>e=.returned (.func (.func 158) #[] #[.pointer (some ⟨w.heap.size,0,none⟩),.pointer (some ⟨w.heap.size+1,0,none⟩)])∧w'=(w.alloc (.cells #[.pointer (some ⟨b,0,none⟩)] 70)).alloc (.cells #[.string (bs keep)] 9):=by
 refine callsIn_of_wp func76 rfl hf ?_ l6;simp only[ntmps76,Jt,BG,Ht,Nat.reduceAdd,Nat.reduceSub,La,Lb,Lf,Lc,Ei,Gt]
 gi_wp2
 go_ret;exact⟨rfl,rfl⟩
theorem aqX(y:UInt8):(bits BinOp.and IntKind.u8 (y.toNat:Int) 1 == 1)=(y.toNat % 2 == 1):=by
 have h:∀ z:Fin 256,(bits BinOp.and IntKind.u8 (z.val:Int) 1 == 1)=(z.val % 2 == 1):=by decide+kernel
 exact h ⟨y.toNat,y.toNat_lt⟩
theorem aal(W W':World)(h1:W'.os=W.os)(h2:W'.tape=W.tape)(h3:W'.output=W.output)(h4:W'.heap=W.heap):W.grownBy W' none:=⟨h1,h2,h3,by rw[h4];exact Ae _,fun k _ _=>by rw[h4]⟩
theorem axc(n:Nat)(hn:1≤n)(N m n₀ Bd Bk b:Nat)(keep:List UInt8)(lv:Value)(L:List (Item N))(w:World)(F4:Bk < n₀)(I6:Bk≠m)(ak7:n₀≤w.heap.size)
  (hd:w.cell? ⟨Bd,0,none⟩=some (.pointer (some ⟨b,0,none⟩)))(hk:w.cell? ⟨Bk,0,none⟩=some (.string (bs keep)))(hc:w.cell? ⟨b,2,none⟩=some lv)(hL:Xj m n₀ w lv (L.map (·.1)))(hlen:L.length≤1000000000)(Dw:keep.length≤1000000000):
  SeqStopsK Fence.wide n prog 158 #[.pointer (some ⟨Bd,0,none⟩),.pointer (some ⟨Bk,0,none⟩)] (encI (N:=N)) (Kp m n₀) (fun ys=>ys=Kl keep 0 L) (fun _=>True) L.length w:=fun l J Jx W hW hJ _ hY h0=>by
 have NP:=(hW.cell (p:=⟨b,2,none⟩) (Cr hc)).trans hc;have XP:=(hW.cell (p:=⟨Bd,0,none⟩) (Cr hd)).trans hd;have hk':=(hW.cell (p:=⟨Bk,0,none⟩) (Cr hk)).trans hk;have jL:Xj m n₀ W lv (L.map (·.1)):=⟨Bv hL.row (ub hW) (fun _ _ f=>f),hL.old,hL.len⟩;have BQ:=hW.size;have NW:prog.follows .mixedOrders=true:=by kernel_rfl
 obtain⟨q,cap,rfl⟩:∃ q cap,lv=.slice q L.length cap:=by
  rcases hL.row.2 with⟨e1,e2⟩|⟨g,cap,_,e1,_⟩
  ·rw[BP] at e2;exact⟨none,0,by rw[e1,e2]⟩
  ·rw[BP] at e1;exact⟨_,cap,e1⟩
 have HL:=Hi jL;have HK:=Hi hk';clear hL jL hc hd hk hk' hW;refine callsIn_of_wp func158 rfl trivial ?_ rfl;simp only[ntmps158,Jt,BG,Ht,Nat.reduceAdd,Nat.reduceSub,La,Lb,Lf,Lc,Ei,Gt]
 gi_wp2
 gi_loopw [11] (fun i wr=>∃ k:Nat,k≤L.length∧i=.int .i64 k∧J (Kl keep 0 (L.take k)) wr∧Kp m n₀ W wr)
  (fun i _=>L.length -(intOf i).toNat)
 case atStart=>exact⟨0,AV _,rfl,by rw[Gg];exact h0,A7.refl _ _⟩
 case round=>
  obtain⟨k,hk,rfl,Na,FE⟩:=hrel;by_cases hlt:k < L.length
  ·have Nf:=(HL.upd FE).row;obtain⟨g,rfl⟩:∃ g,q=some ⟨g,0,none⟩:=by
    rcases Nf.2 with⟨e1,e2⟩|⟨g,cap,_,e1,_⟩
    ·rw[BP] at e2;omega
    ·exact⟨g,by injection e1⟩
   have Cz:wr.cell? ⟨Bk,0,none⟩=some (.string (bs keep)):=(FE.cell (p:=⟨Bk,0,none⟩) (by show Bk < W.heap.size;omega) (fun f=>by rcases f with f|f;exact I6 f;have f':n₀≤Bk:=f;omega)).trans HK.out;have Y3:=((Ai _ wr).alloc (Ae _) (.cells (putRow L[k].1) 242)).cell (p:=⟨Bk,0,none⟩) (Cr Cz);rw[Cz] at Y3;have IL:k < (L.map (·.1)).length:=(by rw[BP];exact hlt);have hr:=acy (by rw[BP] at Nf ⊢;exact Nf) HL.len k IL;have Iu:=IB prog 142 242 underlying142 65 acX ⟨g,0,none⟩ L.length cap k hlt;have Xu:(⟨g,0,none⟩:Addr).add (k*65)=⟨g,k*65,none⟩:=(by unfold Addr.add;split<;>simp_all);rw[Xu] at Iu;rw[List.getElem_map] at hr;have RX:Kl keep 0 (L.take (k+1))=Kl keep 0 (L.take k)++(if stays keep k then[L[k]] else[]):=by
    rw[List.take_add_one,CJ hlt,ax5,AZ,Ih (by omega)];simp[Kl]
   have Cv:=Hi RX;have Gm:=uT L[k].2.2 hr;have TG:=acV wr L[k].2.2 Tryz.zeroCells242 mr;have GK:=amz wr L[k].2.2;have Oh:=Hi (show(Kl keep 0 (L.take k)).length < L.length by have:=ax7 keep 0 (L.take k);rw[AZ] at this;omega);generalize L[k]=x at*;have xL:=Hi (hJ _ _ _ none Na (World.grownBy_alloc _ (.cells (putRow x.1) 242) none) (fun r e=>by cases e));have Di:=Hi FE;clear hr Nf Xu RX FE Na Cz;by_cases RP:keep=[]
   ·subst RP
    gi_wp2
    refine wpIn_region_quiet_lit rfl NW (by kernel_rfl) ?_
    repeat (gi_big_quiet_step (fail))
    refine BigFrame.wpQuietIn_skip ?ha rfl ?_
    case ha=>simp[Oper.askedIn,go_sem];exact fun _ _ _=>trivial
    simp only[Act.put,np]
    repeat (gi_big_quiet_step (fail))
    refine wpQuietIn_nil ?_;rintro _⟨nq,rfl⟩
    gi_wp2
    go_roundw
    case rel=>
     have h1:Kp m n₀ wr (wr.alloc (.cells (putRow x.1) 242)):=(A7.refl _ wr).alloc _;refine⟨k+1,by omega,by simp,?_,ax Di ⟨h1.os,h1.tape,h1.output,h1.size,h1.block⟩⟩;rw[Cv.out];simp only[stays,Ea,Bool.false_eq_true,ite_false,decide_false,ne_eq,not_true_eq_false,Bool.false_and];exact hJ _ _ _ none xL (aal _ _ rfl rfl rfl rfl) (fun r e=>by cases e)
    case measure=>simp[intOf];omega
   ·have ZR:0 < keep.length:=List.length_pos_iff.2 RP;have EH:=Nat.mod_lt k ZR;have sK:(k:Int) % (keep.length:Int)=((k % keep.length:Nat):Int):=(by omega);have aw2:(k:Int).tmod (keep.length:Int)=((k % keep.length:Nat):Int):=(by rw[Int.tmod_eq_emod_of_nonneg (by omega)];exact sK);have hne:keep.isEmpty=false:=by
     cases keep with
     |nil=>exact absurd rfl RP
     |cons=>rfl
    have Bc:stays keep k=(keep[k % keep.length].toNat % 2 == 1):=by
     unfold stays;rw[Ig,CJ EH];simp[RP]
    rw[←aqX] at Bc;generalize k % keep.length=i at*;cases hs:stays keep k with
    |false=>
     rw[hs] at Bc Cv;have aiG:=Bc.symm;clear Bc hs
     gi_wp2
     refine wpIn_region_quiet_lit rfl NW (by kernel_rfl) ?_
     repeat (gi_big_quiet_step (fail))
     refine BigFrame.wpQuietIn_skip ?ha2 rfl ?_
     case ha2=>simp[Oper.askedIn,go_sem];exact fun _ _ _=>trivial
     simp only[Act.put,np]
     repeat (gi_big_quiet_step (fail))
     refine wpQuietIn_nil ?_;rintro _⟨nq,rfl⟩
     gi_wp2
     go_roundw
     case rel=>
      have h1:Kp m n₀ wr (wr.alloc (.cells (putRow x.1) 242)):=(A7.refl _ wr).alloc _;refine⟨k+1,by omega,by simp,?_,ax Di ⟨h1.os,h1.tape,h1.output,h1.size,h1.block⟩⟩;rw[Cv.out];simp only[Ea,Bool.false_eq_true,ite_false];exact hJ _ _ _ none xL (aal _ _ rfl rfl rfl rfl) (fun r e=>by cases e)
     case measure=>simp[intOf];omega
    |true=>
     rw[hs] at Bc Cv;have aiG:=Bc.symm;clear Bc hs;have GL:(uS (.pointer (some ⟨wr.heap.size,0,none⟩))).run prog (wr.alloc (.cells (putRow x.1) 242)).drew=.ok (.agg (putRow x.1)) (wr.alloc (.cells (putRow x.1) 242)).drew:=by
      refine uT x.2.2 (fun j v hv=>?_)
      show(wr.alloc _).cell? _=_
      rw[Ha,E5,←Dy,Yw];exact hv
     have qW:J (Kl keep 0 (L.take k)) (wr.alloc (.cells (putRow x.1) 242)).drew:=hJ _ _ _ none xL (aal _ _ rfl rfl rfl rfl) (fun r e=>by cases e);obtain⟨fn,tmps,assign,body,hy,hR⟩:=hY _ x _ qW Oh.out;unfold encI at hy
     have hR':=hR.mono (R':=fun e W'=>∃ c,e=.returned (.bool c)∧if c=true then J (Kl keep 0 (L.take k)++[x]) W'∧Kp m n₀ (wr.alloc (.cells (putRow x.1) 242)).drew W' else Jx (Kl keep 0 (L.take k)++[x]) W') (fun e W' h=>by
      rcases h with⟨h1,h2⟩|⟨h1,h2⟩
      ·exact⟨true,h1,by rw[Ad rfl];exact h2⟩
      ·exact⟨false,h1,by rw[Ab (by decide)];exact h2⟩)
     clear qW hR
     gi_wp2
     gi_region_with_o (refine hR'.mono ?_;rintro e W3 ⟨c,rfl,Ka⟩)
     all_goals
      clear hR' hy GL Gm TG GK Iu aiG Y3 aw2 sK hne;cases c with
      |false=>
       rw[Ab (by decide)] at Ka;have Bj:=Hi Ka;clear Ka
       gi_wp2
       refine EU (results_none rfl _ _ _) rfl ?_;exact⟨⟨_,rfl⟩,.inr ⟨_,trivial,Bj⟩⟩
      |true=>
       rw[Ad rfl] at Ka;have Bj:=Hi Ka;clear Ka
       gi_wp2
       go_roundw
       case rel=>
        have h1:Kp m n₀ wr (wr.alloc (.cells (putRow x.1) 242)).drew:=((A7.refl _ wr).alloc _).drew;refine⟨k+1,by omega,by simp,?_,ax Di (ax h1 Bj.2)⟩;rw[Cv.out];exact Bj.1
       case measure=>simp[intOf];omega
  ·obtain rfl:k=L.length:=by omega
   gi_wp2
   go_end0
   exact⟨⟨_,rfl⟩,.inl ⟨_,rfl,by rw[Da] at Na;exact Na⟩⟩
end
section
open Go.RowKit Go.Maps Go.Shelf
attribute [local go_sem] O8
attribute [local go_sem ↓] amF amG adl
def laid(D:A8)(pre:List (Item D.n)):A8:={ D with base:=A8.lay D.base (pre.map (·.1)) }
theorem alb(D:A8)(pre:List (Item D.n))(x:Item D.n):laid D (pre++[x])={ laid D pre with base:=fun k=>if k=x.1.1 then x.1.2 else(laid D pre).base k }:=by
 unfold laid;rw[CK,Ca,Kr,A8.alg]
theorem axs{D:A8}(h:D.BO)(pre:List (Item D.n)):(laid D pre).BO:=
 ⟨h.n1,h.n2,A8.lM h.base (fun p hp=>by obtain⟨y,_,rfl⟩:=Bz.1 hp;exact y.2),h.loose,h.left⟩
theorem EL.put{w:World}{b m:Nat}{lv:Value}{D:A8}(h:EL w b m lv D){f:Nat→List UInt8}{w':World}(hs:NG w' m D.n f)(hg:w.grownBy w' (some m))(hf:A8.BO { D with base:=f }):EL w' b m lv { D with base:=f }:=by
 have hu:A7 (fun k=>k=m) w w':=A7.of_grownBy hg (fun k e=>by cases e;rfl);refine⟨?_,hs,Bv h.loose hu (fun g OH e=>h.lm (by rw[OH,e])),h.mb,h.lb,h.lm,hf⟩;rw[hu.block b (Dq.1 h.struct).1 (Ne.symm h.mb)];exact h.struct
theorem aAv{W:World}{g o:Nat}{x:List UInt8}(h:x.length=64)(hr:W.rangeAt g o (Cj x)):(adk (.pointer (some ⟨g,o,none⟩))).run prog W=.ok (.agg (Dh x)) W:=by
 have:=run_loadAt_mid (P:=prog) W g o 240 _ _ hr underlying240 rfl (mP x h);rw[gM] at this;exact this
theorem alf{w:World}{b m:Nat}{lv:Value}{D:A8}(h:EL w b m lv D){gf:Nat}{lb:Array Value}(he:∀ args w,(callFunc gf args).run prog w=.ok (.enter gf args) w){n₀:Nat}(ak7:n₀≤w.heap.size){L:List (Item D.n)}{N n:Nat}(hn:3≤n)
  (hs:SeqStopsK Fence.wide (n -1) prog gf lb (encI (N:=D.n)) (Kp m n₀) (fun ys=>ys=L) (fun _=>True) N w):
  CallsIn Fence.wide n prog 75 #[.pointer (some ⟨b,0,none⟩),.func (.func gf) #[] lb] w fun e w'=>(∃ v,e=.returned v)∧EL w' b m lv (laid D L)∧A7 (fun k=>k=m) w w':=by
 have h1:1≤n:=by omega
 have NW:prog.follows .mixedOrders=true:=by kernel_rfl
 have PT:=h.fine;have HD:=Hi h;have hb:b < w.heap.size:=(Dq.1 h.struct).1;have hm:m < w.heap.size:=h.base.lt;clear h;refine callsIn_of_wp_marks func75 rfl trivial ?_ rfl;simp only[ntmps75,Jt,BG,Ht,Nat.reduceAdd,Nat.reduceSub,La,Lb,Lf,Lc,Ei,Gt]
 gi_wp2
 have Zv:=Boxed.new w 70 (.pointer (some ⟨b,0,none⟩));have hU0:A7 (fun k=>k=m) w (w.alloc (.cells #[.pointer (some ⟨b,0,none⟩)] 70)):=(A7.refl _ w).alloc _;have hD0:EL (w.alloc (.cells #[.pointer (some ⟨b,0,none⟩)] 70)) b m lv (laid D []):=HD.upd ((A7.refl (fun _=>False) w).alloc _) (fun _ _ f=>f);have BQ:(w.alloc (.cells #[.pointer (some ⟨b,0,none⟩)] 70)).heap.size=w.heap.size+1:=Ay _ _;refine wpIn_rangeFunc_ownH rfl h1 (gf:=gf) (lb:=lb) rfl trivial he hs ax (axi (by omega)) ((Ai _ w).alloc (Ae _) _) (fun _=>rfl)
  (fun pre W=>(EL W b m lv (laid D pre)∧Boxed W w.heap.size 70 (.pointer (some ⟨b,0,none⟩)))∧A7 (fun k=>k=m) w W)
  (fun _ _ _=>False)
  (fun s A B row hs hg hr=>?hown)
  (fun _ _ _ _ _ hs _ _=>hs)
  ⟨⟨hD0,Zv⟩,hU0⟩
  (fun x a' W=>∃ Bx,w.heap.size < Bx∧W.heap[Bx]?=some (.cells (putRow x.1) 242 (0,0))∧a'={ tmps:=#[.pointer (some ⟨b,0,none⟩),.func (.func gf) #[] lb,.pointer (some ⟨w.heap.size,0,none⟩),undef,.pointer (some ⟨Bx,0,none⟩),.func (.func gf) #[] lb,.agg (putRow x.1),undef,undef,undef,undef,undef,undef,undef,undef],defers:=[] })
  (fun x a' _ X Y row hs hg hr=>?hAx)
  ?assign ?body ?done ?stop
 case hown=>
  have hu:A7 (fun k=>w.heap.size+1≤k) A B:=A7.of_grownBy hg (fun k e=>by have:=(hr k e).1;omega);obtain⟨⟨g1,g2⟩,g3⟩:=hs;refine⟨⟨g1.upd hu (fun k hk=>?_),g2.kept hg (fun e=>?_)⟩,g3.trans hu (fun i hi=>.inr (by omega))⟩
  ·rcases hk with rfl|rfl|hk
   ·omega
   ·omega
   ·have:=aH HD.loose hk;omega
  ·have:=(hr _ e.symm).1;omega
 case hAx=>
  obtain⟨Bx,g1,g2,g3⟩:=hs;refine⟨Bx,g1,(hg.block Bx (Dq.1 g2).1 (fun e=>?_)).trans g2,g3⟩;obtain⟨_,o,ho,hc⟩:=hr Bx e.symm;rw[g2] at ho;cases ho;cases hc
 case assign=>
  rintro l pre x W K⟨⟨hD,hB⟩,hU⟩ hK;have TG:=acV W x.2.2 Tryz.zeroCells242 mr;unfold encI
  gi_wp2
  exact hK _ _ ((KeepsOthers.alloc _ _).from _) ((A7.refl _ W).alloc _) ⟨⟨hD.upd ((A7.refl (fun _=>False) W).alloc _) (fun _ _ f=>f),hB.alloc _⟩,hU.alloc _⟩ ⟨W.heap.size,hB.lt,World.alloc_heap_new W _,rfl⟩
 case body=>
  rintro l pre x a' W hl⟨r,hr⟩ ⟨⟨hD,hB⟩,hU⟩ ⟨Bx,Iq,hx,rfl⟩ hlt;have c0:=hB.cell;obtain⟨_,c1,_,_,_,_⟩:=hD.cells;have S9:W.cell? ⟨Bx,0,none⟩=some (.int .i64 (x.1.1:Int)):=by rw[BL W Bx 0 _ _ _ hx];exact amC x.1
  have hxs:W.rangeAt Bx 1 (Cj x.1.2):=fun j v hv=>by
   rw[BL W Bx (1+j) _ _ _ hx,←Dy,Yw,Nat.add_comm 1 j];exact hv
  have hls:=aAv (W:=W.drew) x.2.2 (fun j v hv=>hxs j v hv);obtain⟨w2,eU,ru,Ef⟩:=NG.put (w:=W.drew) (hD.base.kept rfl) x.1.1 x.2.1 (by exact hD.fine.n2) x.1.2
  gi_wp2
  refine wpIn_region_any NW ?_;refine aCI (m:=8) (d:=7) (vals:=#[.pointer (some ⟨b,0,none⟩),.pointer (some ⟨b,0,none⟩),.pointer (some ⟨b,1,none⟩),.map (some m),.pointer (some ⟨Bx,0,none⟩),.int .i64 (x.1.1:Int),.pointer (some ⟨Bx,1,none⟩),.agg (Dh x.1.2)]) rfl (by simp) ?hops (by kernel_rfl) (by kernel_rfl) ?hrun ?hfin
  case hops=>
   intro j hj;have:j=0∨j=1∨j=2∨j=3∨j=4∨j=5∨j=6∨j=7:=(by omega);rcases this with rfl|rfl|rfl|rfl|rfl|rfl|rfl|rfl<;>exact⟨_,rfl,rfl,rfl⟩
  case hrun=>
   intro j hj;have:j=0∨j=1∨j=2∨j=3∨j=4∨j=5∨j=6∨j=7:=(by omega);have a2:∀ a:Act,(∀ s,(s < 7∨7+8≤s)→a.tmps.getD s undef=(#[Value.pointer (some ⟨b,0,none⟩),.func (.func gf) #[] lb,.pointer (some ⟨w.heap.size,0,none⟩),undef,.pointer (some ⟨Bx,0,none⟩),.func (.func gf) #[] lb,.agg (putRow x.1),undef,undef,undef,undef,undef,undef,undef,undef]:Array Value).getD s undef)→a.tmps.getD 2 undef=.pointer (some ⟨w.heap.size,0,none⟩)∧a.tmps.getD 4 undef=.pointer (some ⟨Bx,0,none⟩):=fun a h=>⟨h 2 (by omega),h 4 (by omega)⟩
   rcases this with rfl|rfl|rfl|rfl|rfl|rfl|rfl|rfl<;>(intro o ho;cases ho;intro a _ hout D6;obtain⟨t2,t4⟩:=a2 a hout;simp[Region.binds] at D6;refine⟨fun f hf=>(by simp[Oper.about] at hf),?_⟩;simp[go_sem, *])
  case hfin=>
   intro a hdf aEE hout rX;have t10:=rX 3 (by omega);have t12:=rX 5 (by omega);have t14:=rX 7 (by omega);clear rX hout;simp at t10 t12 t14;unfold wpOpIn;simp[Region.wanted,Oper.wpIn,go_sem,t10,t12,t14,eU];have hD1:EL W.drew b m lv (laid D pre):=hD.upd ((A7.refl (fun _=>False) W).drew) (fun _ _ f=>f);have hfin:(laid D (pre++[x])).BO:=axs PT _;rw[alb] at hfin;have qU:=hD1.put ru Ef hfin;rw[←alb] at qU;have Et:A7 (fun k=>k=m) W w2:=((A7.refl _ W).drew).trans (A7.of_grownBy (F:=fun k=>k=m) Ef (fun k e=>by cases e;rfl)) (fun _ h=>.inl h);refine⟨?_,Et.mono (fun i e=>.inl e),⟨qU,?_⟩,hU.trans Et (fun _ h=>.inl h)⟩
   ·exact((KeepsOthers.drew W).from _).trans (KeepsFrom.of_grownBy Ef (fun j e=>by cases e;omega))
   ·exact(Et.block _ hB.lt (by omega)).trans hB
 case done=>
  rintro DD ys W hDD rfl⟨⟨hD,hB⟩,hU⟩ hK
  gi_wp2
  refine⟨by simp,.inl ⟨_,_,rfl,run_takeDeferred hK,?_⟩⟩;have hu:A7 (fun k=>k=DD) W (W.putObj DD (.deferred none)):=A7.of_grownBy (grownBy_putObj' W DD (.deferred none)) (fun k e=>by cases e;rfl);refine⟨_,results_none rfl _ _ _,⟨_,rfl⟩,hD.upd hu (fun k hk e=>?_),hU.trans hu (fun i hi=>.inr (by omega))⟩;subst e;rcases hk with rfl|rfl|hk
  ·omega
  ·omega
  ·have:=aH HD.loose hk;omega
 case stop=>
  rintro DD c pre W _ _ h _;exact h.elim
end
section
open Go.RowKit Go.Maps Go.Shelf
theorem acg{N:Nat}:∀ (l:List (Nat×List UInt8)),(∀ p∈l,p.1 < N∧p.2.length=64)→∃ L:List (Item N),L.map (·.1)=l
 |[],_=>⟨[],rfl⟩
 |p :: l,h=>by
  obtain⟨L,hL⟩:=acg l (fun q hq=>h q (F9 _ hq));exact⟨⟨p,h p Gf⟩ :: L,by rw[Ca,hL]⟩
theorem EL.looseAt{w:World}{b m:Nat}{lv:Value}{D:A8}(h:EL w b m lv D):Xj m w.heap.size w lv D.loose:=
 ⟨h.loose,fun _ hg=>⟨aH h.loose hg,fun e=>h.lm (by rw[hg,e])⟩,fun p hp=>(h.fine.loose p hp).2⟩
theorem EL.drop{w:World}{b m:Nat}{lv:Value}{D:A8}(h:EL w b m lv D):EL (w.setCell ⟨b,2,none⟩ (.slice none 0 0)) b m (.slice none 0 0) { D with loose:=[] }:=by
 have hu:A7 (fun k=>k=b) w (w.setCell ⟨b,2,none⟩ (.slice none 0 0)):=(A7.refl (fun k=>k=b) w).setCell (p:=⟨b,2,none⟩) (.inl rfl) _;refine⟨?_,h.base.kept (hu.block m h.base.lt h.mb),?_,h.mb,by simp[Value.ownBlock],by simp[Value.ownBlock],⟨h.fine.n1,h.fine.n2,h.fine.base,fun p hp=>by simp at hp,h.fine.left⟩⟩
 ·exact Cu w b 2 _ _ (.slice none 0 0) h.struct
 ·show World.ownsRow _ 0 _ 65 (.slice none 0 0) 0 _
  rw[alr];exact DZ _ _ _ _
theorem aCk(a:Option Addr)(len cap:Nat)(w:World):
  Calls prog 211 #[.slice a len cap] w fun e w'=>e=.returned (.func (.func 260) #[] #[.pointer (some ⟨w.heap.size,0,none⟩)])∧w'=w.alloc (.cells #[.slice a len cap] 142):=
 Dr.1 (values_in Fence.wide 3 trivial rfl a len cap w)
theorem axw{w:World}{b m:Nat}{q:Option Addr}{cap:Nat}{D:A8}(h:EL w b m (.slice q D.loose.length cap) D)(hlen:D.loose.length≤1000000000):
  Calls prog 75 #[.pointer (some ⟨b,0,none⟩),.func (.func 260) #[] #[.pointer (some ⟨w.heap.size,0,none⟩)]] (w.alloc (.cells #[.slice q D.loose.length cap] 142)) fun e w'=>(∃ v,e=.returned v)∧EL w' b m (.slice q D.loose.length cap) { D with base:=A8.lay D.base D.loose }∧A7 (fun k=>k=m) w w':=by
 obtain⟨L,hL⟩:=acg (N:=D.n) D.loose h.fine.loose;have hb:=(Ai w.heap.size w).alloc (Ae _) (.cells #[.slice q D.loose.length cap] 142);have h':=h.below hb;have Zv:=Boxed.new w 142 (.slice q D.loose.length cap);have El:L.length=D.loose.length:=by rw[←hL,BP]
 have hs:=values_stops Fence.wide 2 trivial rfl (by omega) D.n m (w.alloc (.cells #[.slice q D.loose.length cap] 142)).heap.size w.heap.size (.slice q D.loose.length cap) L _ Zv.cell (by rw[hL];exact h'.looseAt) (by omega);refine(Dr.1 (alf h' (enters_of func260 (by kernel_rfl) rfl) (Ae _) (n:=3) (by omega) hs)).mono ?_;rintro e w'⟨g1,g2,g3⟩;refine⟨g1,?_,(A7.of_below hb).trans g3 (fun _ h=>.inl h)⟩;unfold laid at g2;rw[hL] at g2;exact g2
theorem qC{w:World}{b:Nat}{D:A8}{fp:Nat→Prop}(h:BB w b D fp)(hlen:D.loose.length≤1000000000):
  Calls prog 143 #[.pointer (some ⟨b,0,none⟩)] w fun e w'=>e=.returned (.int .i64 D.flush.2)∧∃ fp',BB w' b D.flush.1 fp'∧A7 fp w w'∧Dj fp fp' w:=by
 obtain⟨m,lv,hI,rfl⟩:=h;have HI:=Hi hI;by_cases hd:D.down=true
 ·have hu:Hid (D.up=40):=Hi (by unfold A8.up;rw[hd];rfl);have hF:D.flush=(D,40):=by unfold A8.flush;rw[Ad hd]
  rw[hF];clear hF hd
  go_in
  go_wp2_with fail;refine(YD hI).mono ?_;rw[hu.out];rintro e w1⟨rfl,rfl⟩;go_wp2;go_ret;exact⟨rfl,_,⟨m,lv,HI,rfl⟩,A7.refl _ _,fun _ h=>.inl h⟩
 ·have XP:D.down=false:=by simpa using hd
  have hu:Hid (D.up=0):=Hi (by unfold A8.up;rw[XP];rfl);have hF:D.flush=({ D with base:=A8.lay D.base D.loose,loose:=[] },0):=by unfold A8.flush;rw[Ab hd]
  rw[hF];clear hF hd XP;obtain⟨q,cap,rfl⟩:∃ q cap,lv=.slice q D.loose.length cap:=by
   rcases hI.loose.2 with⟨e1,e2⟩|⟨g,cap,_,e1,_⟩
   ·exact⟨none,0,by rw[e1,e2]⟩
   ·exact⟨_,cap,e1⟩
  obtain⟨_,_,c2,_,_,_⟩:=hI.cells
  go_in
  go_wp2_with fail;refine(YD hI).mono ?_;rw[hu.out];rintro e w1⟨rfl,rfl⟩;go_wp2_with fail;refine(aCk _ _ _ _).mono ?_;rintro e w1⟨rfl,rfl⟩;go_wp2_with fail;refine(axw HI hlen).mono ?_;rintro e w1⟨⟨v,rfl⟩,hD,hU⟩;have HD:=Hi hD;have HU:=Hi hU;obtain⟨_,_,d2,_,_,df⟩:=hD.cells;have df2:=df 2;clear hI hD hU df c2;go_wp2;go_ret;refine⟨rfl,_,⟨m,_,HD.drop,rfl⟩,(HU.mono (fun _ e=>.inr (.inl e))).setCell (p:=⟨b,2,none⟩) (.inl (.inl rfl)) _,?_⟩;rintro k (rfl|rfl|hk)
  ·exact .inl (.inl rfl)
  ·exact .inl (.inr (.inl rfl))
  ·simp[Value.ownBlock] at hk
end
section
open Go.RowKit Go.Maps Go.Shelf
theorem axa(b:Nat)(keep:List UInt8)(w:World):
  Calls prog 76 #[.pointer (some ⟨b,0,none⟩),.string (bs keep)] w fun e w'=>e=.returned (.func (.func 158) #[] #[.pointer (some ⟨w.heap.size,0,none⟩),.pointer (some ⟨w.heap.size+1,0,none⟩)])∧w'=(w.alloc (.cells #[.pointer (some ⟨b,0,none⟩)] 70)).alloc (.cells #[.string (bs keep)] 9):=
 Dr.1 (axb Fence.wide 3 trivial rfl b keep w)
theorem axx{w:World}{b m:Nat}{lv:Value}{D:A8}(h:EL w b m lv D)(keep:List UInt8)(hlen:D.loose.length≤1000000000)(hk:keep.length≤1000000000):
  Calls prog 75 #[.pointer (some ⟨b,0,none⟩),.func (.func 158) #[] #[.pointer (some ⟨w.heap.size,0,none⟩),.pointer (some ⟨w.heap.size+1,0,none⟩)]] ((w.alloc (.cells #[.pointer (some ⟨b,0,none⟩)] 70)).alloc (.cells #[.string (bs keep)] 9)) fun e w'=>(∃ v,e=.returned v)∧EL w' b m lv { D with base:=A8.lay D.base (D.kept keep) }∧A7 (fun k=>k=m) w w':=by
 obtain⟨L,hL⟩:=acg (N:=D.n) D.loose h.fine.loose;have Aj:=(Ai w.heap.size w).alloc (Ae _) (.cells #[.pointer (some ⟨b,0,none⟩)] 70);have av5:=(Boxed.new w 70 (.pointer (some ⟨b,0,none⟩))).alloc (.cells #[.string (bs keep)] 9);have UI:=Boxed.new (w.alloc (.cells #[.pointer (some ⟨b,0,none⟩)] 70)) 9 (.string (bs keep));have hb:=Aj.alloc Aj.size (.cells #[.string (bs keep)] 9);have BQ:((w.alloc (.cells #[.pointer (some ⟨b,0,none⟩)] 70)).alloc (.cells #[.string (bs keep)] 9)).heap.size=w.heap.size+2:=by rw[Ay,Ay]
 rw[Ay] at UI;have h':=h.below hb;obtain⟨_,_,c2,_,_,_⟩:=h'.cells;have El:L.length=D.loose.length:=by rw[←hL,BP]
 have hs:=axc 2 (by omega) D.n m (w.heap.size+2) w.heap.size (w.heap.size+1) b keep lv L _ (by omega) (by have:=h.base.lt;omega) (by omega) av5.cell UI.cell c2 (by rw[hL,←BQ];exact h'.looseAt) (by omega) hk;refine(Dr.1 (alf h' (enters_of func158 (by kernel_rfl) rfl) (n₀:=w.heap.size+2) (by omega) (n:=3) (by omega) hs)).mono ?_;rintro e w'⟨g1,g2,g3⟩;refine⟨g1,?_,(A7.of_below hb).trans g3 (fun _ h=>.inl h)⟩;unfold laid at g2;rw[ax8,hL,ax6] at g2;exact g2
theorem arO{w:World}{b:Nat}{D:A8}{fp:Nat→Prop}(h:BB w b D fp)(keep:List UInt8)(hlen:D.loose.length≤1000000000)(hk:keep.length≤1000000000):
  Calls prog 24 #[.pointer (some ⟨b,0,none⟩),.string (bs keep)] w fun e w'=>e=.returned (.int .i64 0)∧∃ fp',BB w' b (D.GX keep) fp'∧A7 fp w w'∧Dj fp fp' w:=by
 obtain⟨m,lv,hI,rfl⟩:=h;have HI:=Hi hI;clear hI
 go_in
 go_wp2_with fail;refine(axa _ _ _).mono ?_;rintro e w1⟨rfl,rfl⟩;go_wp2_with fail;refine(axx HI keep hlen hk).mono ?_;rintro e w1⟨⟨v,rfl⟩,hD,hU⟩;have HD:=Hi hD;have HU:=Hi hU;obtain⟨_,_,d2,d3,d4,df⟩:=hD.cells;have df2:=df 2;have Zj:=df 3;have jk:=df 4;clear hD hU df;go_wp2;go_ret;have h1:=HD.drop;have hF:=HI.fine.GX keep;have h2:=h1.set (D':={ { { D with base:=A8.lay D.base (D.kept keep) } with loose:=[] } with left:= -1 }) 3 (.int .i64 (-1)) rfl rfl rfl rfl ⟨hF.n1,hF.n2,hF.base,hF.loose,by show(-1:Int)≤ -1∧(-1:Int)≤9223372036854775807;omega⟩;have h3:=h2.set (D':=D.GX keep) 4 (.bool false) rfl rfl rfl rfl hF;refine⟨rfl,_,⟨m,_,h3,rfl⟩,(((HU.mono (fun _ e=>.inr (.inl e))).setCell (p:=⟨b,2,none⟩) (.inl (.inl rfl)) _).setCell (p:=⟨b,3,none⟩) (.inl (.inl rfl)) _).setCell (p:=⟨b,4,none⟩) (.inl (.inl rfl)) _,?_⟩;rintro k (rfl|rfl|hk)
 ·exact .inl (.inl rfl)
 ·exact .inl (.inr (.inl rfl))
 ·simp[Value.ownBlock] at hk
end
section
open Go.RowKit Go.Maps
theorem aob(w:World)(n:Nat)(hn:n≤1000000000):∃ C,(Instr.makeSlice 54 (.int .i64 (n:Int)) (.int .i64 (n:Int))).run prog w=.ok (.slice (some ⟨w.heap.size,0,none⟩) n n) (w.alloc (.cells C 5))∧
  BytesAt (w.alloc (.cells C 5)) w.heap.size (List.replicate n 0):=by
 have ZF:(prog.info? 5).map (fun i=>(i.zero,i.size,i.bytes))=some (some (.int .u8 0),1,1):=by kernel_rfl
 obtain⟨i0,hi,AY,Ba,Be⟩:=DC ZF;have hrun:=run_make (P:=prog) w 54 5 i0 _ underlying54 hi AY .i64 .i64 n n (by omega) (Int.le_refl _) (by rw[Be];omega) (by omega);rw[Int.toNat_natCast] at hrun;refine⟨_,hrun,ag5 w _ _ _ (fun i hi=>?_)⟩;rw[List.length_replicate] at hi;rw[Ba,List.getElem_replicate];simp[madeCells,Value.cells];exact⟨i,by rw[Array.getElem?_range,Ad hi],by rw[Nat.mod_one];rfl⟩
theorem Bo{w:World}{base e s:Nat}{v:Value}{n:Nat}{xs:List Value}(h:w.ownsRow base e s v n xs):∃ q cap,v=.slice q n cap:=by
 rcases h.2 with⟨e1,e2⟩|⟨g,cap,_,e1,_⟩
 ·exact⟨none,0,by rw[e1,e2]⟩
 ·exact⟨_,cap,e1⟩
theorem Cg{w w':World}{base e s:Nat}{v:Value}{n:Nat}{xs:List Value}(h:w.ownsRow base e s v n xs)(hb:Bw w w'):w'.ownsRow base e s v n xs:=Bv h (ub hb) (fun _ _ f=>f)
end
section
open Go.RowKit Go.Maps
@[irreducible] def strCells (l:List (List UInt8)):List Value:=l.map fun s=>Value.string (bs s)
theorem strCells_length(l:List (List UInt8)):(strCells l).length=l.length:=by unfold strCells;simp
theorem YA(l:List (List UInt8))(i:Nat)(h:i < l.length):(strCells l)[i]?=some (.string (bs l[i])):=by
 unfold strCells;rw[Jr,CJ h];rfl
theorem Sn(l:List (List UInt8))(s:List UInt8):strCells (l++[s])=strCells l++[.string (bs s)]:=by unfold strCells;simp
theorem adv(l:List (List UInt8)):∀ u∈strCells l,u.oneCell'=true:=by
 intro u hu;unfold strCells at hu;obtain⟨s,_,rfl⟩:=Bz.1 hu;rfl
@[irreducible] def aEZ (l:List (Nat×List UInt8)):List Value:=l.flatMap fun p=>[Value.int .i64 (p.1:Int),.string (bs p.2)]
end
section
open Go.RowKit Go.Maps
end
section
open Go.RowKit Go.Maps
theorem adw:(prog.info? 9).map (fun i=>(i.zero,i.size,i.bytes))=some (some (.string ByteArray.empty),1,16):=by kernel_rfl
end
section
open Go.RowKit Go.Maps
end
section
open Go.RowKit Go.Maps
end
section
open Go.RowKit Go.Maps
end
section
open Go.RowKit Go.Maps
end
section
open Go.RowKit Go.Maps
end
section
open Go.RowKit Go.Maps
end
section
open Go.RowKit Go.Maps
end
section
open Go.RowKit Go.Maps
end
section
open Go.RowKit
open Av
theorem FB(w:World)(n:Nat):Bw w (w.drewN n):=⟨rfl,rfl,rfl,Ae _,fun _ _=>rfl⟩
theorem gD(P:Program)(W:World)(t:TypeId)(hu:P.underlying t=some .string)(s:List UInt8)(lo hi:Nat)(h1:lo≤hi)(h2:hi≤s.length):
  (Instr.slice t (.string (bs s)) (some (.int .i64 (lo:Int))) (some (.int .i64 (hi:Int))) none).run P W=.ok (.string (bs ((s.take hi).drop lo))) W:=by
 have g2:(hi:Int)≤(s.length:Int):=by omega
 simp[Instr.slice,Hd hu,Instr.sliceBounds,run_sliceBound,go_sem,h1,g2]
theorem ayI(V b k:Nat)(hV:V < 256 ^ k)(hb:b < 256)(hk:k < 8):bits BinOp.or IntKind.u64 (V:Int) (IntKind.u64.wrap (IntKind.u64.wrap (b:Int)*2 ^ (8*k)))=((V+256 ^ k*b:Nat):Int):=by
 have hp:(2:Int) ^ (8*k)=((256 ^ k:Nat):Int):=by rw[Int.pow_mul];norm_cast
 have hle:256 ^ k*256≤256 ^ 8:=by rw[←Nat.pow_succ];exact Nat.pow_le_pow_right (by decide) (by omega)
 have hmul:256 ^ k*b < 256 ^ 8:=Hw (Nat.mul_lt_mul_of_pos_left hb (Nat.pow_pos (by decide))) hle;have Fs:0 < 256 ^ k:=Nat.pow_pos (by decide);have h8:(256:Nat) ^ 8=18446744073709551616:=by decide
 have hV8:V < 18446744073709551616:=by
  have:256 ^ k≤256 ^ 8:=Nat.pow_le_pow_right (by decide) (by omega);rw[←h8];exact Hw hV this
 have he:(b:Int)*2 ^ (8*k)=((256 ^ k*b:Nat):Int):=by rw[hp,Int.natCast_mul,Int.mul_comm]
 have hdv:((256 ^ k*b:Nat):Int) % 2 ^ (8*k)=0:=by rw[hp,←Int.natCast_emod,Nat.mul_mod_right];rfl
 have VY:(2:Int) ^ 64=18446744073709551616:=by decide
 have Wo:256 ^ k*b < 18446744073709551616:=by rw[←h8];exact hmul
 generalize 256 ^ k*b=m at*;have e1:IntKind.u64.wrap (b:Int)=(b:Int):=u64_wrap_id _ (by omega) (by omega);have e2:IntKind.u64.wrap (m:Int)=(m:Int):=u64_wrap_id _ (by omega) (by omega);rw[e1,he,e2];rw[bits_join_low .u64 64 (by decide) wraps_u64 (8*k) (V:Int) (m:Int) (by omega) (by rw[hp];omega) (by rw[VY];omega) (by omega) hdv (by rw[VY];omega)];exact(Int.natCast_add V m).symm
theorem adV(s:List UInt8)(k:Nat)(h:k < s.length):A9.val (s.take (k+1))=A9.val (s.take k)+256 ^ k*s[k].toNat:=by
 rw[Cx h,A9.val_append,AZ,Ih (by omega)];simp[A9.val]
theorem XA(s:List UInt8)(w:World)(h1:1≤s.length)(h8:s.length≤8):
  Calls prog 160 #[.string (bs s)] w fun e w'=>e=.returned (.tuple #[.int .u64 (A9.val s:Nat),.int .i64 0])∧w=w':=by
 have d1:decide ((s.length:Int) < 1)=false:=by simp;omega
 have d2:decide (8 < (s.length:Int))=false:=by simp;omega
 go_in
 go_wp2
 go_loop [2,15] (fun v i=>∃ k:Nat,k≤s.length∧i=.int .i64 k∧v=.int .u64 (A9.val (s.take k):Nat)) (fun _ i=>s.length -(intOf i).toNat)
 case atStart=>exact⟨0,by omega,rfl,by simp[A9.val]⟩
 case round=>
  obtain⟨k,hk,rfl,rfl⟩:=hrel;by_cases hlt:k < s.length
  ·have hv:=A9.JS (s.take k);rw[AZ,Ih hk] at hv;have OO:=ayI (A9.val (s.take k)) s[k].toNat k hv (by have:=s[k].toNat_lt;omega) (by omega);rw[←adV s k hlt] at OO;have HOR:=Hi OO;clear OO hv;go_wp2
   go_round
   case rel=>exact⟨k+1,by omega,by go_num,by rw[HOR.out]⟩
   case measure=>simp[intOf];omega
  ·go_wp2;go_ret2;have Dw:k=s.length:=(by omega);exact⟨by rw[Dw,Da];rfl,rfl⟩
theorem acN(s:List UInt8)(w:World)(h:s.length≤65535):
  Calls prog 190 #[.string (bs s)] w fun e w'=>e=.returned (.tuple #[.string (bs (A9.le 2 s.length++s)),.int .i64 0])∧Bw w w':=by
 go_in
 go_wp2_with fail;refine(jh s.length 2 _ (by decide)).mono ?_;rintro e w1⟨rfl,hb⟩;go_wp2;go_ret2;exact⟨rfl,hb⟩
theorem acM(s:List UInt8)(w:World)(h:65535 < s.length):
  Calls prog 190 #[.string (bs s)] w fun e w'=>e=.returned (.tuple #[.string (bs []),.int .i64 5])∧w=w':=by
 go_in
 go_wp2;go_ret2;exact⟨rfl,rfl⟩
theorem val_two(s:List UInt8)(h:2≤s.length):A9.val (s.take 2)=s[0].toNat+256*s[1].toNat:=by
 rw[adV s 1 (by omega),adV s 0 (by omega)];simp[A9.val]
def Fw(s:List UInt8):List UInt8×Nat×Int:=match Fv s with|none=>([],0,6)|some p=>(p.1,p.2,0)
theorem fQ(s:List UInt8)(w:World)(hl:s.length≤1099511627776):
  Calls prog 254 #[.string (bs s)] w fun e w'=>e=.returned (.tuple #[.string (bs (Fw s).1),.int .i64 ((Fw s).2.1:Nat),.int .i64 (Fw s).2.2])∧Bw w w':=by
 by_cases h2:s.length < 2
 ·have hR:Hid (Fw s=([],0,6)):=Hi (by unfold Fw Fv;rw[Ad h2]);rw[hR.out]
  go_in
  go_wp2;go_ret3;exact⟨rfl,Ai _ _⟩
 ·have hv:=val_two s (by omega);have b0:=s[0].toNat_lt;have b1:=s[1].toNat_lt;have hz:(0:Nat) < s.length:=by omega
  have Ba:(1:Nat) < s.length:=by omega
  have Be:(1:Int) < (s.length:Int):=by omega
  have hz3:(2:Int)≤(s.length:Int):=by omega
  by_cases h3:2+A9.val (s.take 2)≤s.length
  ·have hR:Hid (Fw s=((s.take (2+A9.val (s.take 2))).drop 2,2+A9.val (s.take 2),0)):=Hi (by unfold Fw Fv;rw[Ab h2,Ad h3]);rw[hR.out];rw[hv] at h3 ⊢;clear hv hR
   go_in
   go_wp2
   go_quiet (fail)
   have e:(2:Int)+(s[0].toNat:Int)+(s[1].toNat:Int)*(256:Int)=((2+(s[0].toNat+256*s[1].toNat):Nat):Int):=(by omega);simp only[e];clear e;have GM:2≤2+(s[0].toNat+256*s[1].toNat):=(by omega);generalize hn:2+(s[0].toNat+256*s[1].toNat)=n at*;have HN:=Hi hn;clear hn;have hcut:∀ W,(Instr.slice 9 (.string (bs s)) (some (.int .i64 2)) (some (.int .i64 (n:Int))) none).run prog W=.ok (.string (bs ((s.take n).drop 2))) W:=fun W=>gD prog W 9 underlying9 s 2 n GM h3
   go_wp2;go_ret3;obtain rfl:=HN.out;exact⟨rfl,FB _ _⟩
  ·have hR:Hid (Fw s=([],0,6)):=Hi (by unfold Fw Fv;rw[Ab h2,Ab h3]);rw[hR.out];rw[hv] at h3;clear hv hR
   go_in
   go_wp2
   go_quiet (fail)
   go_wp2;go_ret3;exact⟨rfl,FB _ _⟩
end
section
open Go.RowKit Go.Maps
open Av
theorem aB7(k:List UInt8):Lib.strCells (bs k)=Cj k:=by unfold Lib.strCells Cj Dh;rfl
theorem aAe{P:Program}(w:World)(t u ty e:TypeId)(i:TypeInfo)(ht:P.underlying t=some (.slice e))(hu:P.underlying u=some .string)(hi:P.info? e=some i)(hz:i.zero=some (.int .u8 0))
  (JJ:i.size=1)(UJ:i.bytes=1)(v:Value)(n:Nat)(xs:List Value)(hown:w.ownsRow 0 e 1 v n xs)(k:List UInt8)(hl:n+k.length≤140737488355328):
  ∃ v' w',(Builtin.append_ #[t,u] ty #[v,.string (bs k)]).run P w=.ok v' w'∧w'.ownsRow 0 e 1 v' (n+k.length) (xs++Cj k)∧w.grownBy w' v.ownBlock∧
   (v'=.slice none 0 0↔v=.slice none 0 0∧k.length=0)∧(v'.ownBlock=v.ownBlock∨v'.ownBlock=some w.heap.size):=by
 have BQ:(bs k).size=k.length:=rfl;obtain⟨v',w',hr,h2,h3,h4⟩:=Lib.run_append_own_string (P:=P) w 0 t u ty e i ht hu hi hz JJ UJ v n xs hown (bs k) (by unfold maxLen;rw[BQ];omega) (by rw[BQ];omega) (AV _);rw[aB7] at h2;refine⟨v',w',hr,h2,h3,h4,?_⟩;rcases hown.2 with⟨rfl,rfl⟩|⟨g,cap,cur,rfl,_,hg,hnc,PN,DF,awu⟩
 ·by_cases hk:k.length=0
  ·rw[h4.2 ⟨rfl,hk⟩];exact .inl rfl
  ·have Yb:=run_append_nil_string (P:=P) w t u ty e i (.int .u8 0) ht hu hi hz (bs k) (by rw[BQ];omega) (by rw[BQ];omega) (by rw[UJ,BQ];omega);rw[hr] at Yb;injection Yb with e1 _
   rw[e1];exact .inr rfl
 ·by_cases J2:n+(bs k).size≤cap
  ·have Yb:=Lib.run_append_room_string (P:=P) w t u ty e i ht hu hi JJ g n cap cur hg (bs k) J2 (by omega);rw[hr] at Yb;injection Yb with e1 _
   rw[e1];exact .inl rfl
  ·have Yb:=Lib.run_append_grow_string (P:=P) w t u ty e i (.int .u8 0) ht hu hi hz ⟨g,0,none⟩ n cap xs (by rw[JJ];exact hown.1) (hown.cells (g:=g) rfl) (bs k) (by omega) (by rw[BQ];omega) (by rw[UJ];exact growslice_fits (by omega) (by rw[BQ];omega));rw[hr] at Yb;injection Yb with e1 _
   rw[e1];exact .inr rfl
theorem aCK{P:Program}{w:World}{ops:Array Oper}{rest:List Oper}{o:Oper}{a:Act}{Q:Exit→Act→World→Prop}(PX:o.guard=none)(sl x:Operand)(t u:TypeId)
  (ho:o.op=.call { callee:=.builtin .append,args:=#[sl,x],argTypes:=#[t,u] })
  (e:TypeId)(i:TypeInfo)(ht:P.underlying t=some (.slice e))(hu:P.underlying u=some .string)(hi:P.info? e=some i)(hz:i.zero=some (.int .u8 0))(JJ:i.size=1)(UJ:i.bytes=1)
  (v:Value)(n:Nat)(xs:List Value)(hs:a.eval sl=v)(hown:w.ownsRow 0 e 1 v n xs)(k:List UInt8)(hx:a.eval x=.string (bs k))(hl:n+k.length≤140737488355328)
  (h:∀ v' w',w'.ownsRow 0 e 1 v' (n+k.length) (xs++Cj k)→w.grownBy w' v.ownBlock→(v'=.slice none 0 0↔v=.slice none 0 0∧k.length=0)→(v'.ownBlock=v.ownBlock∨v'.ownBlock=some w.heap.size)→wpList P ops Q rest (a.put o.dst v') w'):wpList P ops Q (o :: rest) a w:=by
 refine wpList_plain PX fun K hK=>?_
 obtain⟨v',w',hr,h2,h3,h4,h5⟩:=aAe (P:=P) w t u o.type e i ht hu hi hz JJ UJ v n xs hown k hl;unfold Oper.wp execOp;simp only[ho,resolve,invoke,builtin,Sem.run_bind,Sem.run_pure,Result.andThen_ok,List.map_toArray,Ca,Kr,hs,hx,hr];exact hK _ _ (h v' w' h2 h3 h4 h5)
theorem Xq{w:World}{b:Nat}{l:List UInt8}{fp:Nat→Prop}(h:Ej w b l fp)(k:List UInt8)(hlen:l.length+k.length≤1099511627776):
  Calls prog 188 #[.pointer (some ⟨b,0,none⟩),.string (bs k)] w fun e w'=>e=.returned (.tuple #[.int .i64 (k.length:Int),.nilIface])∧∃ fp',Ej w' b (l++k) fp'∧A7 fp w w'∧Dj fp fp' w:=by
 obtain⟨p,v,hb,hp,hown,hne,Y8,rfl⟩:=h;have oh:=Hi Y8;clear Y8;obtain⟨i0,hi,AY,Ba,Be⟩:=DC cZ
 go_in
 go_wp2_with fail;refine(zB b p v _ hb hp).mono ?_;rintro e w1⟨rfl,Aj,FY⟩;have jZ:b < w.heap.size:=(Dq.1 hb).1;have KY:w1.ownsRow 0 5 1 v l.length (Cj l):=Bv hown FY (fun q hq e=>hne (by rw[hq,e]));have c1:w1.cell? ⟨b,1,none⟩=some v:=by rw[Lib.cell_of_heap Aj];rfl
 go_wp2_with (at_builtin;refine aCK rfl _ _ 54 9 rfl 5 i0 underlying54 underlying9 hi AY Ba Be _ _ _ rfl KY k rfl ?c3 ?_)
 case c3=>omega
 intro v' w2 Cb AJ OM hat;have NC:=Hi OM;clear OM;have Ac:w2.heap[b]?=some (.cells #[.pointer (some ⟨b,0,none⟩),v] 210):=by
  rw[AJ.block b (Hw jZ FY.size) (fun e=>hne e.symm)];exact Aj
 have d1:w2.cell? ⟨b,1,none⟩=some v:=by rw[Lib.cell_of_heap Ac];rfl
 have f1:w2.frozen? ⟨b,1,none⟩=false:=Lib.frozen_of_heap Ac 1;have JK:v'.ownBlock≠some b:=by
  rcases hat with hat|hat
  ·rw[hat];exact hne
  ·rw[hat];intro e;have:=GQ e;have:=FY.size;omega
 have YV:Hid (l++k=[]→v'=.slice none 0 0):=Hi (fun e=>by
  obtain⟨e1,e2⟩:=List.append_eq_nil_iff.1 e;exact NC.2 ⟨oh e1,by rw[e2]⟩)
 obtain⟨ao,n',cap,rfl⟩:∃ ao n' cap,v'=.slice ao n' cap:=by
  rcases Cb.2 with⟨hv,_⟩|⟨g,cap,cur,hv,_⟩
  ·exact⟨_,_,_,hv⟩
  ·exact⟨_,_,_,hv⟩
 clear c1;go_wp2;go_ret2;have Et:A7 (fun k=>k=b∨v.ownBlock=some k) w w2:=(FY.mono (fun i e=>Or.inl e)).trans (A7.of_grownBy (F:=fun k=>k=b∨v.ownBlock=some k) AJ (fun q e=>.inr e)) (fun i e=>.inl e);have De:=Et.setCell (p:=⟨b,1,none⟩) (.inl (.inl rfl)) (.slice ao n' cap);refine⟨rfl,fun q=>q=b∨(Value.slice ao n' cap).ownBlock=some q,⟨some ⟨b,0,none⟩,.slice ao n' cap,Cu w2 b 1 _ _ _ Ac,.inr rfl,?_,JK,YV.out,rfl⟩,De,?_⟩
 ·rw[AA,aT];exact Bv Cb ((A7.refl (fun q=>q=b) w2).setCell (p:=⟨b,1,none⟩) (.inl rfl) _) (fun q hq e=>JK (by rw[hq,e]))
 ·rintro q (rfl|hq)
  ·exact .inl (.inl rfl)
  ·rcases hat with hat|hat
   ·exact .inl (.inr (by rw[←hat];exact hq))
   ·rw[hat] at hq;have:=GQ hq;exact .inr (by have:=FY.size;omega)
def Du(w:World)(a:Option Addr)(l:List (List UInt8)):Prop:=∀ i,(h:i < l.length)→∃ p:Addr,a=some p∧w.cell? (p.add i)=some (.string (bs l[i]))
theorem Du.below{w w':World}{a:Option Addr}{l:List (List UInt8)}(h:Du w a l)(hb:Bw w w'):Du w' a l:=fun i hi=>by
 obtain⟨p,hp,h1⟩:=h i hi;exact⟨p,hp,(hb.cell (Cr h1)).trans h1⟩
theorem Du.index{w:World}{a:Option Addr}{l:List (List UInt8)}(h:Du w a l)(cap k:Nat)(hk:k < l.length):
  ∃ q:Addr,(∀ W,(Instr.indexAt 61 (.slice a l.length cap) (.int .i64 (k:Int))).run prog W=.ok (.pointer (some q)) W)∧w.cell? q=some (.string (bs l[k])):=by
 obtain⟨p,rfl,h1⟩:=h k hk;refine⟨p.add k,fun W=>?_,h1⟩;have:=IB prog 61 9 underlying61 1 (by kernel_rfl) p l.length cap k hk W;rw[Nat.mul_one] at this;exact this
def rowLen(l:List (List UInt8)):Nat:=2+(l.map fun s=>2+s.length).sum
theorem aA0(l:List (List UInt8))(k:Nat)(h:k < l.length):rowLen (l.take (k+1))=rowLen (l.take k)+(2+l[k].length):=by
 unfold rowLen;rw[Cx h,CK,Lg];simp;omega
theorem ade(l:List (List UInt8))(k:Nat):rowLen (l.take k)≤rowLen l:=by
 unfold rowLen
 conv=>rhs;rw[←MK k l,CK,Lg]
 omega
theorem WO{l:List (List UInt8)}{s:List UInt8}(h:BK l=some s):2+s.length=rowLen l:=by
 induction l generalizing s with
 |nil=>simp[BK] at h;subst h;rfl
 |cons x l ih=>
  simp only[BK] at h;cases h1:Eg x with
  |none=>rw[h1] at h;cases h
  |some a=>
   cases h2:BK l with
   |none=>rw[h1,h2] at h;cases h
   |some b=>
    rw[h1,h2] at h;simp at h;subst h;have h3:=ih h2;unfold Eg at h1;split at h1
    ·simp at h1;subst h1;simp[rowLen,A9.C9] at h3 ⊢;omega
    ·cases h1
def D8(l:List (List UInt8)):List UInt8×Int:=match GN l with|none=>([],5)|some s=>(s,0)
theorem adD{l:List (List UInt8)}{k:Nat}(h:k < l.length){s:List UInt8}(hs:BK (l.take k)=some s):BK (l.take (k+1))=(Eg l[k]).map (s++ ·):=by
 rw[Cx h,ao6,hs];simp only[CL,BK];cases Eg l[k] with
 |none=>rfl
 |some x=>simp
theorem vR{l:List (List UInt8)}{k:Nat}(h:k < l.length)(hk:65535 < l[k].length):BK l=none:=by
 induction l generalizing k with
 |nil=>simp at h
 |cons x l ih=>
  simp only[BK];cases k with
  |zero=>
   have:Eg x=none:=(by unfold Eg;rw[Ab (by simp at hk;omega)]);rw[this];rfl
  |succ k=>
   rw[ih (k:=k) (by simpa using h) (by simpa using hk)];cases Eg x<;>rfl
theorem am8(l:List (List UInt8))(a:Option Addr)(cap:Nat)(w:World)(hl:Du w a l)(hlen:l.length≤maxLen)(D7:rowLen l≤1000000000):
  Calls prog 105 #[.slice a l.length cap] w fun e w'=>e=.returned (.tuple #[.string (bs (D8 l).1),.int .i64 (D8 l).2])∧Bw w w':=by
 unfold maxLen at hlen;by_cases aaR:65535 < l.length
 ·have hR:Hid (D8 l=([],5)):=Hi (by unfold D8 GN;rw[Ab (by omega)]);rw[hR.out];clear hl
  go_in
  go_wp2;go_ret2;exact⟨rfl,Ai _ _⟩
 ·have HL:=Hi hl;have Bg:Bw w (w.alloc (.cells #[.pointer none,.slice none 0 0] 210)):=(Ai _ w).alloc (Ae _) _;have AR:=Hi Bg;have DV:=Hi (Ej.made w);have VG:=Hi D7;clear hl Bg D7
  go_in
  go_wp2_with fail;refine(jh l.length 2 _ (by decide)).mono ?_;rintro e w1⟨rfl,hb⟩;have Fq:=DV.upd (ub hb) (fun _ _ f=>f);have Qj:=Hi Fq;have HB1:=Hi (AR.trans (hb.mono (by rw[Ay];omega)));clear hb Fq;go_wp2_with fail;refine(Xq Qj (A9.le 2 l.length) (by simp[A9.C9])).mono ?_;rintro e w2⟨rfl,fp2,h1,h2,h3⟩;rw[Ei] at h1;have GI:∀ q,fp2 q→w.heap.size≤q:=fun q hq=>by
   rcases h3 q hq with h|h
   ·rcases h with h|h
    ·omega
    ·simp[Value.ownBlock] at h
   ·have:=HB1.size;omega
  have Ak:=Hi (Cy HB1 h2 (fun i hi=>by rcases hi with h|h;omega;simp[Value.ownBlock] at h) HB1.size);have Pf:=Hi h1;have Fe:=Hi GI;clear h1 h2 h3 GI;go_wp2
  go_loopw [19] (fun i wr=>∃ (k:Nat) (S:List UInt8) (fp:Nat→Prop),k≤l.length∧i=.int .i64 k∧BK (l.take k)=some S∧Ej wr w.heap.size (A9.le 2 l.length++S) fp∧(∀ q,fp q→w.heap.size≤q)∧Bw w wr) (fun i _=>l.length -(intOf i).toNat)
  case atStart=>exact⟨0,[],fp2,by omega,rfl,rfl,by rw[Ea];exact Pf.out,Fe,Ak⟩
  case round=>
   clear DV Qj Pf AR HB1 Ak Fe;obtain⟨k,S,fp,hk,rfl,hS,Fq,GI,hb⟩:=hrel;have HS:=Hi hS;have DV:=Hi Fq;have Fe:=Hi GI;have HB:=Hi hb;clear hS Fq GI hb;by_cases hlt:k < l.length
   ·obtain⟨q,Iu,hq⟩:=(HL.below HB).index cap k hlt;have IL:rowLen (l.take (k+1))=rowLen (l.take k)+(2+l[k].length):=aA0 l k hlt;have Gm:=ade l (k+1);have GK:=WO HS.out;have GL:=VG.out;have KI:=Hi (adD hlt HS);by_cases OA:65535 < l[k].length
    ·have hR:Hid (D8 l=([],5)):=Hi (by unfold D8 GN;rw[Ad (by omega),vR hlt OA];rfl);clear IL Gm GK GL;generalize l[k]=x at*;go_wp2_with fail;refine(acM x _ OA).mono ?_;rintro e w3⟨rfl,rfl⟩;go_wp2;go_ret2;rw[hR.out];exact⟨rfl,HB⟩
    ·have Gq:l[k].length≤65535:=(by omega);have hle:S.length+l[k].length≤1000000000:=(by omega);clear IL Gm GK GL OA;generalize l[k]=x at*;go_wp2_with fail;refine(acN x _ Gq).mono ?_;rintro e w3⟨rfl,Ap⟩;have U6:=Hi (DV.upd (ub Ap) (fun _ _ f=>f));have Au:=bH HB Ap;clear Ap hq;go_wp2_with fail;refine(Xq U6 (A9.le 2 x.length++x) (by simp[A9.C9];omega)).mono ?_;rintro e w4⟨rfl,PH,h1,h2,h3⟩;have x9:=Hi h1
     have xG:=Hi (show ∀ q,PH q→w.heap.size≤q from fun q hq=>by
      rcases h3 q hq with h|h
      ·exact Fe q h
      ·exact Aw Au.size h)
     have AX:=Hi (Cy Au h2 Fe Au.size);clear h1 h2 h3;go_wp2;go_roundw
     case rel=>exact⟨k+1,S++(A9.le 2 x.length++x),PH,by omega,by go_num,by rw[KI.out];unfold Eg;rw[Ad Gq];rfl,by rw[←Dz];exact x9.out,xG.out,AX.out⟩
     case measure=>simp[intOf];omega
   ·obtain rfl:k=l.length:=(by omega);go_wp2_with fail;refine(Xp DV).mono ?_;rintro e w3⟨rfl,hu⟩;have Au:=Hi (Cy HB hu Fe HB.size)
    have hR:Hid (D8 l=(A9.le 2 l.length++S,0)):=Hi (by
     have h:=HS.out;rw[Da] at h;unfold D8 GN;rw[Ad (by omega),h];rfl)
    clear hu;go_wp2;go_ret2;rw[hR.out];exact⟨rfl,Au⟩
end
section
open Go.RowKit Go.Maps
open Av
theorem ME(P:Program)(W:World)(t:TypeId)(hu:P.underlying t=some .string)(s:List UInt8)(lo:Nat)(h1:lo≤s.length):
  (Instr.slice t (.string (bs s)) (some (.int .i64 (lo:Int))) none none).run P W=.ok (.string (bs (s.drop lo))) W:=by
 have g2:(lo:Int)≤(s.length:Int):=by omega
 simp[Instr.slice,Hd hu,Instr.sliceBounds,run_sliceBound,go_sem,g2]
structure bZ(w:World)(p q:Nat)(s:List UInt8)(l:List (List UInt8))(fp:Nat→Prop):Prop where
 left:w.heap[p]?=some (.cells #[.string (bs s)] 9)
 ne:p≠q
 row:∃ v,w.heap[q]?=some (.cells #[v] 61)∧w.ownsRow 0 9 1 v l.length (strCells l)∧v.ownBlock≠some p∧v.ownBlock≠some q∧fp=fun k=>k=p∨k=q∨v.ownBlock=some k
theorem azt{w w1 w2:World}{p q gg cap2:Nat}{v:Value}{s0 t:List UInt8}{l:List (List UInt8)}{ob:Obj}(hne:p≠q)(hb:Bw w w1)
  (hp:w1.heap[p]?=some (.cells #[.string (bs s0)] 9))(hq:w1.heap[q]?=some (.cells #[v] 61))(Yg:v.ownBlock≠some p)(WA:v.ownBlock≠some q)
  (AJ:((w1.alloc ob).drew).grownBy w2 v.ownBlock)(hown:w2.ownsRow 0 9 1 (.slice (some ⟨gg,0,none⟩) (l.length+1) cap2) (l.length+1) (strCells l++[.string (bs t)]))
  (hat:v.ownBlock=some gg∨gg=w1.heap.size+1)(s:List UInt8)(FV:p < w.heap.size)(sZ:q < w.heap.size):
  A7 (fun k=>k=p∨k=q∨v.ownBlock=some k) w ((w2.setCell ⟨q,0,none⟩ (.slice (some ⟨gg,0,none⟩) (l.length+1) cap2)).setCell ⟨p,0,none⟩ (.string (bs s)))∧
  Dj (fun k=>k=p∨k=q∨v.ownBlock=some k) (fun k=>k=p∨k=q∨(Value.slice (some ⟨gg,0,none⟩) (l.length+1) cap2).ownBlock=some k) w∧
  bZ ((w2.setCell ⟨q,0,none⟩ (.slice (some ⟨gg,0,none⟩) (l.length+1) cap2)).setCell ⟨p,0,none⟩ (.string (bs s))) p q s (l++[t]) (fun k=>k=p∨k=q∨(Value.slice (some ⟨gg,0,none⟩) (l.length+1) cap2).ownBlock=some k):=by
 have TG:=hb.size;have sU:p < w1.heap.size:=by omega
 have tq:q < w1.heap.size:=by omega
 have ha:Bw w1 (w1.alloc ob).drew:=((Ai _ _).alloc (Ae _) _).drew;have u1:A7 (fun k=>k=p∨k=q∨v.ownBlock=some k) w w1:=A7.of_below hb;have u2:A7 (fun k=>k=p∨k=q∨v.ownBlock=some k) w (w1.alloc ob).drew:=u1.trans (G:=fun _=>False) (A7.of_below ha) (fun _ f=>f.elim);have u3:A7 (fun k=>k=p∨k=q∨v.ownBlock=some k) w w2:=u2.trans (A7.of_grownBy (F:=fun k=>v.ownBlock=some k) AJ (fun k e=>e)) (fun k e=>.inl (.inr (.inr e)));have BQ:(w1.alloc ob).drew.heap.size=w1.heap.size+1:=by rw[World.size_drew,Ay]
 have JI:w2.heap[p]?=some (.cells #[.string (bs s0)] 9):=(AJ.block p (by omega) (Ne.symm Yg)).trans ((ha.block p sU).trans hp);have DJ:w2.heap[q]?=some (.cells #[v] 61):=(AJ.block q (by omega) (Ne.symm WA)).trans ((ha.block q tq).trans hq);have hgp:gg≠p:=fun e=>by
  rcases hat with hat|hat
  ·exact Yg (by rw[hat,e])
  ·omega
 have hgq:gg≠q:=fun e=>by
  rcases hat with hat|hat
  ·exact WA (by rw[hat,e])
  ·omega
 have TD:=Cu w2 q 0 _ _ (.slice (some ⟨gg,0,none⟩) (l.length+1) cap2) DJ;have c1:A7 (fun k=>k=q) w2 (w2.setCell ⟨q,0,none⟩ (.slice (some ⟨gg,0,none⟩) (l.length+1) cap2)):=(A7.refl (fun k=>k=q) w2).setCell (p:=⟨q,0,none⟩) (.inl rfl) _;have c2:A7 (fun k=>k=p) (w2.setCell ⟨q,0,none⟩ (.slice (some ⟨gg,0,none⟩) (l.length+1) cap2)) ((w2.setCell ⟨q,0,none⟩ (.slice (some ⟨gg,0,none⟩) (l.length+1) cap2)).setCell ⟨p,0,none⟩ (.string (bs s))):=(A7.refl (fun k=>k=p) _).setCell (p:=⟨p,0,none⟩) (.inl rfl) _;have sO:=(c1.block p (by have:=AJ.size;omega) hne).trans JI;have hz:q < w2.heap.size:=by have:=AJ.size;omega
 refine⟨(u3.setCell (p:=⟨q,0,none⟩) (.inl (.inr (.inl rfl))) _).setCell (p:=⟨p,0,none⟩) (.inl (.inl rfl)) _,?_,⟨Cu _ p 0 _ _ _ sO,hne,.slice (some ⟨gg,0,none⟩) (l.length+1) cap2,(c2.block q (by have:=c1.size;omega) (Ne.symm hne)).trans TD,?_,fun e=>hgp (by simpa[Value.ownBlock] using e),fun e=>hgq (by simpa[Value.ownBlock] using e),rfl⟩⟩
 ·rintro k (rfl|rfl|hk)
  ·exact .inl (.inl rfl)
  ·exact .inl (.inr (.inl rfl))
  ·simp[Value.ownBlock] at hk;subst hk;rcases hat with hat|hat
   ·exact .inl (.inr (.inr hat))
   ·exact .inr (by omega)
 ·rw[AA,Sn];exact Bv (Bv hown c1 (fun g hg e=>hgq (by simp[Value.ownBlock] at hg;omega))) c2 (fun g hg e=>hgp (by simp[Value.ownBlock] at hg;omega))
def afC(w:World)(p q:Nat)(s:List UInt8)(l:List (List UInt8))(fp:Nat→Prop)(e:Ending)(w':World):Prop:=
 ∃ fp',A7 fp w w'∧Dj fp fp' w∧match Fv s with
  |none=>e=.returned (.int .i64 6)∧bZ w' p q s l fp'
  |some (t,n)=>e=.returned (.int .i64 0)∧bZ w' p q (s.drop n) (l++[t]) fp'
theorem azu{w:World}{p q:Nat}{s:List UInt8}{l:List (List UInt8)}{fp:Nat→Prop}(h:bZ w p q s l fp)(hs:s.length≤1000000000)(hl:l.length≤1000000):
  Calls prog 253 #[.pointer (some ⟨p,0,none⟩),.pointer (some ⟨q,0,none⟩)] w fun e w'=>afC w p q s l fp e w':=by
 obtain⟨hp,hne,v,hq,hown,Yg,WA,rfl⟩:=h;have FV:p < w.heap.size:=(Dq.1 hp).1;have sZ:q < w.heap.size:=(Dq.1 hq).1;have cp:w.cell? ⟨p,0,none⟩=some (.string (bs s)):=by rw[BL w p _ _ _ _ hp];rfl
 have cq:w.cell? ⟨q,0,none⟩=some v:=by rw[BL w q _ _ _ _ hq];rfl
 have QD:=Dt w p 0 _ _ hp;have qF:=Dt w q 0 _ _ hq;unfold afC;cases hR:Fv s with
 |none=>
  have hV:Fw s=([],0,6):=by unfold Fw;rw[hR]
  have HP:=Hi hp;have HQ:=Hi hq;have HO:=Hi hown;have HV:=Hi hV;clear hp hq hown hR hV
  go_in
  go_wp2_with fail;refine(fQ s _ (by omega)).mono ?_;rw[HV.out];rintro e w1⟨rfl,hb⟩;have hu:A7 (fun k=>k=p∨k=q∨v.ownBlock=some k) w w1:=A7.of_below hb;have HU:=Hi hu;have HB:=Hi hb;clear hu hb;go_wp2;go_ret;exact⟨_,HU,fun _ h=>.inl h,rfl,(HB.block p FV).trans HP.out,hne,v,(HB.block q sZ).trans HQ.out,Bv HO (ub HB) (fun _ _ f=>f),Yg,WA,rfl⟩
 |some r=>
  obtain⟨t,n⟩:=r;obtain⟨_,FU,GM⟩:=aM hR;have hV:Fw s=(t,n,0):=by unfold Fw;rw[hR]
  have HP:=Hi hp;have HQ:=Hi hq;have HO:=Hi hown;have HV:=Hi hV;clear hp hq hown hR hV
  go_in
  go_wp2_with fail;refine(fQ s _ (by omega)).mono ?_;rw[HV.out];rintro e w1⟨rfl,hb⟩;have HB:=Hi hb;have Fs:=(hb.block p FV).trans HP.out;have Gp:=(hb.block q sZ).trans HQ.out;have KY:=Bv HO (ub hb) (fun _ _ f=>f);have cp:w1.cell? ⟨p,0,none⟩=some (.string (bs s)):=by rw[BL w1 p _ _ _ _ Fs];rfl
  have cq:w1.cell? ⟨q,0,none⟩=some v:=by rw[BL w1 q _ _ _ _ Gp];rfl
  have QD:=Dt w1 p 0 _ _ Fs;have qF:=Dt w1 q 0 _ _ Gp;have sU:p < w1.heap.size:=(Dq.1 Fs).1;have tq:q < w1.heap.size:=(Dq.1 Gp).1;have YX:=Hi Fs;have oD:=Hi Gp;have D5:=Hi KY;have kk:=fun(ob:Obj)=>Cw (((((Ai w1.heap.size w1).alloc (Ae _) ob).drew).cell (p:=⟨p,0,none⟩) sU).trans cp) (((((Ai w1.heap.size w1).alloc (Ae _) ob).drew).cell (p:=⟨q,0,none⟩) tq).trans cq)
  have hcut:∀ W,(Instr.slice 9 (.string (bs s)) (some (.int .i64 (n:Int))) none none).run prog W=.ok (.string (bs (s.drop n))) W:=fun W=>ME prog W 9 underlying9 s n FU
  obtain⟨i0,Bl,AY,Ba,Be⟩:=DC adw;clear hb Fs Gp KY;go_wp2_with fail
  go_region_law
   ((refine step_append_lies _ (by rfl) _ _ _ (by rfl) 0 9 i0 _ 1 16 underlying61 Bl AY Ba Be (by rfl) (by omega) v l.length (strCells l) (by rfl) ((D5.alloc _).drew) ⟨w1.heap.size,0,none⟩ 1 1 [.string (bs t)] (by rfl) (by rfl) (World.news_of_block (cs:=#[.string (bs t)]) (t:=9) (fr:=(0,0)) (AQ w1 _)) (fun u hu=>by simp at hu;subst hu;rfl) (by omega) (by unfold maxLen;omega) (by omega) (AV _) (w1.heap.size+1) (by simp) ?_;intro gg cap2 w2 OP AJ hat OJ;have avc:=(AJ.cell_far ⟨p,0,none⟩ (by show p < (w1.alloc _).heap.size;rw[Ay];omega) (Ne.symm Yg)).trans (kk _).1;have avd:=(AJ.cell_far ⟨q,0,none⟩ (by show q < (w1.alloc _).heap.size;rw[Ay];omega) (Ne.symm WA)).trans (kk _).2;have rV:=(AJ.frozen_far ⟨p,0,none⟩ (by show p < (w1.alloc _).heap.size;rw[Ay];omega) (Ne.symm Yg)).trans (((((Ai w1.heap.size w1).alloc (Ae _) _).drew).frozen (p:=⟨p,0,none⟩) sU).trans QD);have avA:=(AJ.frozen_far ⟨q,0,none⟩ (by show q < (w1.alloc _).heap.size;rw[Ay];omega) (Ne.symm WA)).trans (((((Ai w1.heap.size w1).alloc (Ae _) _).drew).frozen (p:=⟨q,0,none⟩) tq).trans qF)))
  all_goals
   have HD:=Hi (azt hne HB YX oD Yg WA AJ OP hat (s.drop n) FV sZ);clear OP AJ hat avc avd rV avA;go_wp2;go_ret;exact⟨_,HD.1,HD.2.1,rfl,HD.2.2⟩
def Mj(w:World)(s:List UInt8)(e:Ending)(w':World):Prop:=
 match Dp s with
 |none=>e=.returned (.tuple #[.slice none 0 0,.int .i64 7])∧Bw w w'
 |some l=>∃ v,e=.returned (.tuple #[v,.int .i64 0])∧w'.ownsRow 0 9 1 v l.length (strCells l)∧Bw w w'∧∀ g,v.ownBlock=some g→w.heap.size≤g
theorem M0{w w':World}{s:List UInt8}{e:Ending}(h:Dp s=none)(he:e=.returned (.tuple #[.slice none 0 0,.int .i64 7]))(hb:Bw w w'):Mj w s e w':=by
 unfold Mj;rw[h];exact⟨he,hb⟩
theorem mJ{w w':World}{s:List UInt8}{l:List (List UInt8)}{e:Ending}{v:Value}(h:Dp s=some l)(he:e=.returned (.tuple #[v,.int .i64 0]))(ho:w'.ownsRow 0 9 1 v l.length (strCells l))(hb:Bw w w')(hg:∀ g,v.ownBlock=some g→w.heap.size≤g):Mj w s e w':=by
 unfold Mj;rw[h];exact⟨v,he,ho,hb,hg⟩
theorem gm{k j:Nat}{s S t:List UInt8}{n:Nat}{l:List (List UInt8)}(hj:j < k)(h:Ez k s=(Ez (k -j) S).map fun q=>(l++q.1,q.2))(hr:Fv S=some (t,n)):
  Ez k s=(Ez (k -(j+1)) (S.drop n)).map fun q=>((l++[t])++q.1,q.2):=by
 rw[h,show k -j=(k -(j+1))+1 by omega];simp only[Ez,hr,CL,Option.map_map]
 congr 1
 funext q
 simp
theorem fZ{k j:Nat}{s S:List UInt8}{l:List (List UInt8)}(hj:j < k)(h:Ez k s=(Ez (k -j) S).map fun q=>(l++q.1,q.2))(hr:Fv S=none):Ez k s=none:=by
 rw[h,show k -j=(k -(j+1))+1 by omega];simp[Ez,hr]
theorem azv(w:World)(n':Nat)(s S:List UInt8):
  bZ ((((w.alloc (.cells #[.string (bs s)] 9)).alloc (.cells #[.slice none 0 0] 61)).drewN n').setCell ⟨w.heap.size,0,none⟩ (.string (bs S))) w.heap.size (w.heap.size+1) S [] (fun k=>k=w.heap.size∨k=w.heap.size+1∨(Value.slice none 0 0).ownBlock=some k)∧
  Bw w ((((w.alloc (.cells #[.string (bs s)] 9)).alloc (.cells #[.slice none 0 0] 61)).drewN n').setCell ⟨w.heap.size,0,none⟩ (.string (bs S))):=by
 have ha:=((Ai (w.heap.size+1) (w.alloc (.cells #[.string (bs s)] 9))).alloc (by rw[Ay];omega) (.cells #[.slice none 0 0] 61));have e1:(((w.alloc (.cells #[.string (bs s)] 9)).alloc (.cells #[.slice none 0 0] 61)).drewN n').heap[w.heap.size]?=some (.cells #[.string (bs s)] 9):=(ha.block w.heap.size (by omega)).trans (AQ w _);have e2:(((w.alloc (.cells #[.string (bs s)] 9)).alloc (.cells #[.slice none 0 0] 61)).drewN n').heap[w.heap.size+1]?=some (.cells #[.slice none 0 0] 61):=by
  have:=AQ (w.alloc (.cells #[.string (bs s)] 9)) (.cells #[.slice none 0 0] 61);rw[Ay] at this;exact this
 have c1:A7 (fun k=>k=w.heap.size) (((w.alloc (.cells #[.string (bs s)] 9)).alloc (.cells #[.slice none 0 0] 61)).drewN n') ((((w.alloc (.cells #[.string (bs s)] 9)).alloc (.cells #[.slice none 0 0] 61)).drewN n').setCell ⟨w.heap.size,0,none⟩ (.string (bs S))):=(A7.refl (fun k=>k=w.heap.size) _).setCell (p:=⟨w.heap.size,0,none⟩) (.inl rfl) _;refine⟨⟨Cu _ w.heap.size 0 _ _ _ e1,by omega,.slice none 0 0,(c1.block _ (Dq.1 e2).1 (by omega)).trans e2,?_,by simp[Value.ownBlock],by simp[Value.ownBlock],rfl⟩,?_⟩
 ·show World.ownsRow _ 0 _ 1 (.slice none 0 0) 0 (strCells [])
  have e:strCells []=[]:=by unfold strCells;rfl
  rw[e];exact DZ _ _ _ _
 ·exact((((Ai _ w).alloc (Ae _) _).alloc (by rw[Ay];omega) _).trans ((FB _ n').mono (by rw[Ay,Ay];omega))).setCell (p:=⟨w.heap.size,0,none⟩) (Ae _) _
theorem mF(s:List UInt8)(w:World)(hs:s.length≤1000000000):
  Calls prog 203 #[.string (bs s)] w fun e w'=>Mj w s e w':=by
 by_cases h2:s.length < 2
 ·have hR:Hid (Dp s=none):=Hi (by unfold Dp;rw[Ad h2])
  go_in
  go_wp2_with fail;exact EU (v:=.tuple #[.slice none 0 0,.int .i64 7]) (by simp[results,results203,go_sem]) rfl (M0 hR.out rfl (((Ai _ w).alloc (Ae _) _).alloc (by rw[Ay];omega) _))
 ·have hv:=val_two s (by omega);have b0:=s[0].toNat_lt;have b1:=s[1].toNat_lt;have hz:(0:Nat) < s.length:=by omega
  have Ba:(1:Nat) < s.length:=by omega
  have Be:(1:Int) < (s.length:Int):=by omega
  have hz3:(2:Int)≤(s.length:Int):=by omega
  have hcut:∀ W,(Instr.slice 9 (.string (bs s)) (some (.int .i64 2)) none none).run prog W=.ok (.string (bs (s.drop 2))) W:=fun W=>ME prog W 9 underlying9 s 2 (by omega)
  have HV:=Hi hv;clear hv
  go_in
  go_wp2
  go_quiet (fail)
  have e:(s[0].toNat:Int)+(s[1].toNat:Int)*(256:Int)=((s[0].toNat+256*s[1].toNat:Nat):Int):=by omega
  simp only[e];clear e;have LK:s[0].toNat+256*s[1].toNat≤65535:=by omega
  generalize s[0].toNat+256*s[1].toNat=n at*;go_wp2_with fail;have Bc:=fun(n':Nat)=>azv w n' s (s.drop 2)
  have Bh:=Hi Bc;clear Bc
  go_loopw [21] (fun i wr=>∃ (j:Nat) (S:List UInt8) (l:List (List UInt8)) (fp:Nat→Prop),j≤n∧i=.int .i64 j∧bZ wr w.heap.size (w.heap.size+1) S l fp∧l.length=j∧S.length≤s.length∧Bw w wr∧(∀ k,fp k→w.heap.size≤k)∧Ez n (s.drop 2)=(Ez (n -j) S).map fun q=>(l++q.1,q.2)) (fun i _=>n -(intOf i).toNat)
  case atStart=>
   refine⟨0,s.drop 2,[],_,by omega,rfl,(Bh _).1,rfl,by rw[Ct];omega,(Bh _).2,?_,?_⟩
   ·rintro k (rfl|rfl|hk)
    ·exact Ae _
    ·omega
    ·simp[Value.ownBlock] at hk
   ·simp
  case round=>
   obtain⟨j,S,l,fp,hj,rfl,OQ,El,Zr,hb,GI,Mw⟩:=hrel;have Ik:=Hi OQ;have NB:=Hi El;have HB:=Hi hb;have Fe:=Hi GI;have EZ:=Hi Mw;obtain⟨v,hq,hown,Yg,WA,ajd⟩:=OQ.row;have hp:=OQ.left;have cp:wr.cell? ⟨w.heap.size,0,none⟩=some (.string (bs S)):=(by rw[BL wr _ _ _ _ _ hp];rfl);have cq:wr.cell? ⟨w.heap.size+1,0,none⟩=some v:=(by rw[BL wr _ _ _ _ _ hq];rfl);have qF:=Dt wr (w.heap.size+1) 0 _ _ hq;have HO:=Hi hown;have HQ:=Hi hq;have yz:=Hi (show ∀ g,v.ownBlock=some g→w.heap.size≤g from fun g hg=>GI g (by rw[ajd];exact .inr (.inr hg)));clear OQ El hb GI Mw hq hown ajd hp;have Zp:∀ (o:Option (List (List UInt8))),Dp s=o→Hid (Dp s=o):=fun o h=>Hi h
   have FX:Dp s=(Ez n (s.drop 2)).bind fun q=>if q.2=[] then some q.1 else none:=by unfold Dp;rw[Ab h2,HV.out]
   have Ep:=Hi FX;clear Zp FX;by_cases hlt:j < n
   ·go_wp2_with fail;refine(azu Ik (by omega) (by rw[NB.out];omega)).mono ?_;rintro e w2⟨fp2,hu,Mx,sV⟩;have Ak:=Hi (Cy HB hu Fe HB.size)
    have iI:=Hi (show ∀ k,fp2 k→w.heap.size≤k from fun k hk=>by
     rcases Mx k hk with h|h
     ·exact Fe k h
     ·exact Aw HB.size h)
    clear hu Mx cp cq qF;cases hr:Fv S with
    |none=>
     rw[hr] at sV;obtain⟨rfl,kZ⟩:=sV;obtain⟨v2,DJ,_⟩:=kZ.row;have cq2:w2.cell? ⟨w.heap.size+1,0,none⟩=some v2:=(by rw[BL w2 _ _ _ _ _ DJ];rfl);have fq2:=Dt w2 (w.heap.size+1) 0 _ _ DJ;have hR:Hid (Dp s=none):=Hi (by rw[Ep.out,fZ hlt EZ hr];rfl);have UL:(w2.setCell ⟨w.heap.size+1,0,none⟩ (.slice none 0 0)).cell? ⟨w.heap.size+1,0,none⟩=some (.slice none 0 0):=cr (Cu w2 _ 0 _ _ _ DJ);clear kZ DJ hr;go_wp2_with fail;exact EU (v:=.tuple #[.slice none 0 0,.int .i64 7]) (by simp[results,results203,go_sem,UL]) rfl (M0 hR.out rfl (Ak.setCell (p:=⟨w.heap.size+1,0,none⟩) (by show w.heap.size≤w.heap.size+1;omega) _))
    |some r=>
     obtain⟨t,m⟩:=r;rw[hr] at sV;obtain⟨rfl,kZ⟩:=sV;have Rx:=Hi kZ;have Z4:=Hi (gm hlt EZ hr);clear kZ hr;go_wp2;go_roundw
     case rel=>exact⟨j+1,S.drop m,l++[t],fp2,by omega,by go_num,Rx,by rw[AA,NB.out];rfl,by rw[Ct];omega,Ak,iI,Z4⟩
     case measure=>simp[intOf];omega
   ·obtain rfl:j=n:=(by omega);by_cases hS:S=[]
    ·subst hS;have hR:Hid (Dp s=some l):=Hi (by rw[Ep.out,EZ.out,Nat.sub_self];simp[Ez]);obtain⟨qv,pX,rfl⟩:=Bo HO.out;have UL:(wr.setCell ⟨w.heap.size+1,0,none⟩ (.slice qv l.length pX)).cell? ⟨w.heap.size+1,0,none⟩=some (.slice qv l.length pX):=cr (Cu wr _ 0 _ _ _ HQ);go_wp2_with fail;have hu:A7 (fun k=>k=w.heap.size+1) wr (wr.setCell ⟨w.heap.size+1,0,none⟩ (.slice qv l.length pX)):=(A7.refl (fun k=>k=w.heap.size+1) wr).setCell (p:=⟨w.heap.size+1,0,none⟩) (.inl rfl) _;exact EU (v:=.tuple #[.slice qv l.length pX,.int .i64 0]) (by simp[results,results203,go_sem,UL]) rfl (mJ hR.out rfl (Bv HO hu (fun g hg e=>WA (by rw[hg,e]))) (HB.setCell (p:=⟨w.heap.size+1,0,none⟩) (by show w.heap.size≤w.heap.size+1;omega) _) yz)
    ·have hR:Hid (Dp s=none):=Hi (by rw[Ep.out,EZ.out,Nat.sub_self];simp[Ez,hS]);have hne:S.isEmpty=false:=by
      cases S with
      |nil=>exact absurd rfl hS
      |cons=>rfl
     have UL:(wr.setCell ⟨w.heap.size+1,0,none⟩ (.slice none 0 0)).cell? ⟨w.heap.size+1,0,none⟩=some (.slice none 0 0):=cr (Cu wr _ 0 _ _ _ HQ);clear hS;go_wp2_with fail;exact EU (v:=.tuple #[.slice none 0 0,.int .i64 7]) (by simp[results,results203,go_sem,UL]) rfl (M0 hR.out rfl (HB.setCell (p:=⟨w.heap.size+1,0,none⟩) (by show w.heap.size≤w.heap.size+1;omega) _))
