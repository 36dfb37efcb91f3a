/- DiskRW Rounds -/
import Derived.Test.YtmbbhdebddbhoaaGreatR2
import Derived.Deep.RegionHeld3
import Derived.Deep.RegionLaw
import Derived.Deep.AppendLies
import Derived.OrdersIn
set_option maxHeartbeats 2000000
set_option maxRecDepth 100000
set_option linter.all false
namespace Go.Proofs.YtmbbhdebddbhoaaGreat
open Tryz
section
open Go.RowKit Go.Maps
theorem BytesAt.upd{F:Nat→Prop}{w w':World}{b:Nat}{l:List UInt8}(h:BytesAt w b l)(hu:A7 F w w')(hF:¬ F b):BytesAt w' b l:=by
 have hlt:=h.lt;obtain⟨C,e,fr,h1,h2⟩:=h;exact⟨C,e,fr,by rw[hu.block b hlt hF];exact h1,h2⟩
theorem ax3{w:World}{base e s:Nat}{v:Value}{n:Nat}{xs:List Value}(h:w.ownsRow base e s v n xs):n≤9223372036854775807:=by
 rcases h.2 with⟨_,e⟩|⟨g,cap,_,_,_,_,h1,h2,_⟩
 ·omega
 ·unfold maxLen at h2;omega
theorem Em.below{w w':World}{b m:Nat}{lv:Value}{D:Dsk}(h:Em w b m lv D)(hb:Bw w w'):Em w' b m lv D:=h.upd (ub hb) (fun _ _ f=>f)
theorem ayG(w:World)(n:Nat)(hn:n≤16384):∃ C,(Instr.makeSlice 258 (.int .i64 (n:Int)) (.int .i64 (n:Int))).run prog w=.ok (.slice (some ⟨w.heap.size,0,none⟩) n n) (w.alloc (.cells C 193))∧
  BytesAt (w.alloc (.cells C 193)) w.heap.size (List.replicate (64*n) 0):=by
 have YV:(prog.info? 193).map (fun i=>(i.zero,i.size,i.bytes))=some (some (.agg (CX MK)),64,64):=by kernel_rfl
 obtain⟨i0,hi,AQ,AU,AV⟩:=Du YV;have hrun:=run_make (P:=prog) w 258 193 i0 _ underlying258 hi AQ .i64 .i64 n n (by omega) (Int.le_refl _) (by rw[AV];omega) (by omega);rw[Int.toNat_natCast] at hrun;refine⟨_,hrun,afo w _ _ _ (fun i hi=>?_)⟩;have Ba:=hi;rw[List.length_replicate] at hi;rw[AU];have hs:MK.length=64:=by simp[MK]
 have hg:=eH MK (i % 64) (by rw[hs];exact Nat.mod_lt _ (by decide));have hz:MK[i % 64]'(by rw[hs];exact Nat.mod_lt _ (by decide))=0:=List.getElem_replicate _;rw[hz] at hg;clear hz hrun;have AV:(List.replicate (64*n) (0:UInt8))[i]'Ba=0:=List.getElem_replicate _;rw[AV];unfold madeCells;simp only[Value.cells,lM,hs];rw[Array.getElem?_map,Array.getElem?_range,Ab (by omega)];simp only[Ej];rw[getElem!_def,hg]
theorem ay0{w:World}{b m:Nat}{lv:Value}{D:Dsk}(h:Em w b m lv D)(at_ n:Int)(hd:D.down=true):
  Calls prog 120 #[.pointer (some ⟨b,0,none⟩),.int .i64 at_,.int .i64 n] w fun e w'=>e=.returned (.tuple #[.string (bs []),.int .i64 40])∧w=w':=by
 have hu:Hid (D.up=40):=Hi (by unfold Dsk.up;rw[hd];rfl);clear hd;go_enter func120,ntmps120;go_wp2_with fail;refine(XP h).mono ?_;rw[hu.out];rintro e w1⟨rfl,rfl⟩;go_wp2_with fail;go_ret2;exact⟨rfl,rfl⟩
theorem tO{w:World}{b m:Nat}{lv:Value}{D:Dsk}(h:Em w b m lv D)(a n:Nat)(hd:D.down=false)(hi:D.inside a n=true):
  Calls prog 120 #[.pointer (some ⟨b,0,none⟩),.int .i64 a,.int .i64 n] w fun e w'=>e=.returned (.tuple #[.string (bs (Dsk.text D.now a n)),.int .i64 0])∧Bw w w':=by
 have hu:Hid (D.up=0):=Hi (by unfold Dsk.up;rw[hd];rfl);have HI:=Hi hi;have hN:=h.fine.n2;have Be:a+n≤D.n:=by
  simp[Dsk.inside] at hi;omega
 clear hd hi;obtain⟨C,Il,Ah⟩:=ayG w n (by omega);have CZ:=Hi Ah;clear Ah;have HD:=Hi h;go_enter func120,ntmps120;go_wp2_with fail;refine(XP h).mono ?_;rw[hu.out];rintro e w1⟨rfl,rfl⟩;go_wp2_with fail;refine(abG h a n (by omega) (by omega) (by omega) (by omega)).mono ?_;rw[HI.out];rintro e w1⟨rfl,rfl⟩;clear h;go_wp2_with fail
 go_loopw [30] (fun i wr=>∃ k:Nat,k≤n∧i=.int .i64 k∧BytesAt wr w.heap.size (Dsk.text (Dsk.upTo D.base (a+k)) a n)∧Bw w wr) (fun i _=>n -(intOf i).toNat)
 case atStart=>
  refine⟨0,by omega,rfl,?_,(Af _ _).alloc (Ac _) _⟩;rw[Nat.add_zero,Dsk.azO];exact CZ.out
 case round=>
  obtain⟨k,hk,rfl,hat,hb⟩:=hrel;by_cases hlt:k < n
  ·have IZ:=Hi hat;have X6:=HD.below hb;obtain⟨_,c1,_,_,_,_⟩:=X6.cells;have Nk:=X6.base.get (a+k) (by omega) hN;rw[Int.natCast_add] at Nk;clear hat X6;have De:=HD.fine.base;have Ku:=Hi (De (a+k) (by omega));have I9:∀ j,a≤j→j < a+n→(Dsk.upTo D.base (a+k) j).length=64:=fun j _ h2=>Dsk.azN De _ j (by omega)
   have NS:=Hi I9;have hlen:(Dsk.text (Dsk.upTo D.base (a+k)) a n).length=64*n:=Dsk.Xx I9;have AP:=IZ.store prog (k*64) (D.base (a+k)) (by rw[Ku.out,hlen];omega);have xm:=Hi (IZ.seg (D.base (a+k)) (k*64) (by rw[Ku.out,hlen];omega));have FV:=Ku.out;clear De hlen I9;go_wp2_with fail;go_roundw
   case rel=>
    refine⟨k+1,by omega,by go_num,?_,below_setCells hb (Ac _) _ _⟩;have e:=xm.out;rw[Nat.mul_comm k 64,←Dsk.anc NS hlt Ku.out,←Dsk.azP] at e;rw[Nat.mul_comm k 64];exact e
   case measure=>simp[intOf];omega
  ·obtain rfl:k=n:=(by omega);rw[Dsk.azM] at hat;have IZ:=Hi hat;have X6:=HD.below hb;obtain⟨_,_,c2,_,_,_⟩:=X6.cells;have hl:∃ q cap,lv=.slice q D.loose.length cap:=by
    rcases X6.loose.2 with⟨e1,e2⟩|⟨g,cap,_,e1,_⟩
    ·exact⟨none,0,by rw[e1,e2]⟩
    ·exact⟨_,cap,e1⟩
   obtain⟨q,cap,rfl⟩:=hl;have auE:=ax3 X6.loose;have HB:=Hi hb;clear hat X6 hb Il;go_wp2_with fail
   go_loopw [50] (fun i wr=>∃ j:Nat,j≤D.loose.length∧i=.int .i64 j∧BytesAt wr w.heap.size (Dsk.text (Dsk.lay D.base (D.loose.take j)) a k)∧Bw w wr) (fun i _=>D.loose.length -(intOf i).toNat)
   case atStart=>exact⟨0,by omega,rfl,IZ,HB⟩
   case round=>
    clear IZ HB
    rename_i wr0
    obtain⟨j,hj,rfl,hat,hb⟩:=hrel;by_cases hlt:j < D.loose.length
    ·have Mq:=(HD.below hb).loose;obtain⟨g,rfl⟩:∃ g,q=some ⟨g,0,none⟩:=by
      rcases Mq.2 with⟨e1,e2⟩|⟨g,cap,_,e1,_⟩
      ·omega
      ·exact⟨g,by cases e1;rfl⟩
     obtain⟨p1,p2⟩:=HD.fine.loose D.loose[j] (Ci hlt);have AY:∀ p∈D.loose,p.2.length=64:=fun p hp=>(HD.fine.loose p hp).2
     have hr:=abY Mq AY j hlt;have Hg:=Hr prog 115 195 underlying115 65 acx ⟨g,0,none⟩ D.loose.length cap j hlt;have WL:(⟨g,0,none⟩:Addr).add (j*65)=⟨g,j*65,none⟩:=(by unfold Addr.add;split<;>simp_all);rw[WL] at Hg;have HS:=Hi (Dsk.avW D.base D.loose j hlt);have Gx:∀ i,i < D.n→(Dsk.lay D.base (D.loose.take j) i).length=64:=Dsk.kC HD.fine.base (fun p hp=>HD.fine.loose p (List.mem_of_mem_take hp));have M7:=Hi Gx;have HR:=Hi hr;have JN:=Hi p2;have IZ:=Hi hat;generalize D.loose[j]=p at*;clear Mq AY hr Gx WL p2 hat;have hz:=alM p;have hlen:(Dsk.text (Dsk.lay D.base (D.loose.take j)) a k).length=64*k:=Dsk.Xx (fun i _ h2=>M7 i (by omega));have EY:=Hi hlen;have HB:=Hi hb;clear hlen hb;by_cases Vn:a≤p.1∧p.1 < a+k
     ·obtain⟨i1,i2⟩:=Vn;have Vg:=IZ.below ((Af _ wr).alloc (Ac _) (.cells (putRow p) 195));have AP:=Vg.store prog ((p.1 -a)*64) p.2 (by rw[JN.out,EY.out];omega);have xm:=Hi (Vg.seg p.2 ((p.1 -a)*64) (by rw[JN.out,EY.out];omega));have FV:=JN.out;clear Vg;go_wp2_with (first|(refine wpList_load_mid rfl 195 _ rfl g (j*65) rfl _ _ HR underlying195 rfl (tK p JN) ?_;rw[tJ])|(refine wpList_store_row rfl 195 _ _ rfl wr.heap.size (putRow p) rfl rfl 195 _ (AJ wr _) (tL p JN) (acA p JN) (tC p) ?_;rw[World.setRow_alloc_new])|(refine wpList_load_mid rfl 193 _ rfl wr.heap.size 1 rfl _ _ (axB wr p _) underlying193 rfl (l9 p.2 JN) ?_;rw[eF]));go_roundw
      case rel=>
       refine⟨j+1,by omega,by go_num,?_,below_setCells (HB.alloc HB.size _) (Ac _) _ _⟩;have e:=xm.out;have e2:=Dsk.anc (f:=Dsk.lay D.base (D.loose.take j)) (k:=a) (n:=k) (i:=p.1 -a) (x:=p.2) (fun i _ h2=>M7 i (by omega)) (by omega) JN.out;rw[show a+(p.1 -a)=p.1 by omega,←HS.out] at e2;rw[Nat.mul_comm (p.1 -a) 64,←e2] at e;rw[Nat.mul_comm (p.1 -a) 64];exact e
      case measure=>simp[intOf];omega
     ·have ajR:Dsk.text (Dsk.lay D.base (D.loose.take (j+1))) a k=Dsk.text (Dsk.lay D.base (D.loose.take j)) a k:=by
       rw[HS.out];exact Dsk.Pk a k (fun i h1 h2=>by unfold Dsk.upd;rw[Aa (by omega)])
      have aeC:=Hi ajR;clear ajR;by_cases Xe:a≤p.1
      ·have hhi:a+k≤p.1:=(by omega);clear Vn;go_wp2_with (first|(refine wpList_load_mid rfl 195 _ rfl g (j*65) rfl _ _ HR underlying195 rfl (tK p JN) ?_;rw[tJ])|(refine wpList_store_row rfl 195 _ _ rfl wr.heap.size (putRow p) rfl rfl 195 _ (AJ wr _) (tL p JN) (acA p JN) (tC p) ?_;rw[World.setRow_alloc_new]));go_roundw
       case rel=>exact⟨j+1,by omega,by go_num,by rw[aeC.out];exact IZ.below ((Af _ wr).alloc (Ac _) _),HB.alloc HB.size _⟩
       case measure=>simp[intOf];omega
      ·clear Vn;go_wp2_with (first|(refine wpList_load_mid rfl 195 _ rfl g (j*65) rfl _ _ HR underlying195 rfl (tK p JN) ?_;rw[tJ])|(refine wpList_store_row rfl 195 _ _ rfl wr.heap.size (putRow p) rfl rfl 195 _ (AJ wr _) (tL p JN) (acA p JN) (tC p) ?_;rw[World.setRow_alloc_new]));go_roundw
       case rel=>exact⟨j+1,by omega,by go_num,by rw[aeC.out];exact IZ.below ((Af _ wr).alloc (Ac _) _),HB.alloc HB.size _⟩
       case measure=>simp[intOf];omega
    ·obtain rfl:j=D.loose.length:=(by omega);rw[CY] at hat;have IZ:=Hi hat;have HB:=Hi hb;have M7:=Hi HD.fine.now;clear hat hb c2 HD CZ auE;go_wp2_with fail;have aje:=DL.made wr;obtain⟨wo,rfl⟩:∃ wo:World,wo=wr:=⟨_,rfl⟩;have O7:=IZ.lt;have O9:=(Af wo.heap.size wo).alloc (Ac _) (.cells #[.pointer none,.slice none 0 0] 234);have Vf:=IZ.below O9;have Ad:Bw w (wo.alloc (.cells #[.pointer none,.slice none 0 0] 234)):=HB.alloc HB.size _;have aiz:(Dsk.text D.now a k).length=64*k:=Dsk.Xx (fun i _ h2=>M7 i (by omega));have EY:=Hi aiz;clear aiz O9;have ajs:Dsk.lay D.base D.loose=D.now:=rfl;rw[ajs] at Vf;clear ajs
     go_loopw [77] (fun i wl=>∃ (j:Nat) (fp:Nat→Prop),j≤k∧i=.int .i64 j∧BytesAt wl w.heap.size (Dsk.text D.now a k)∧DL wl wo.heap.size ((Dsk.text D.now a k).take (64*j)) fp∧(∀ q,fp q→wo.heap.size≤q)∧Bw w wl) (fun i _=>k -(intOf i).toNat)
     case atStart=>
      refine⟨0,_,by omega,rfl,Vf,aje,?_,Ad⟩;rintro q (rfl|hq)
      ·exact Ac _
      ·simp[Value.ownBlock] at hq
     case round=>
      clear aje Vf Ad;obtain⟨j,fp,hj,rfl,hat,EO,FU,hb⟩:=hrel;by_cases hlt:j < k
      ·have aaV:=Dsk.ana (f:=D.now) (k:=a) (n:=k) (i:=j) (fun i _ h2=>M7 i (by omega)) hlt;have hr:=hat.range (j*64) 64 (by rw[EY.out];omega);rw[Nat.mul_comm j 64,aaV.2.1] at hr;have hx:(D.now (a+j)).length=64:=M7 _ (by omega);have HX:=Hi hx;have HR:=Hi hr
       have HT:Hid ((Dsk.text D.now a k).take (64*(j+1))=(Dsk.text D.now a k).take (64*j)++D.now (a+j)):=Hi (by
        rw[show 64*(j+1)=64*j+64 by omega,List.take_add,aaV.2.1])
       have O9:=(Af wr.heap.size wr).alloc (Ac _) (.cells (CX (D.now (a+j))) 193);have aog:=Hi (hat.below O9);have D8:=Hi (EO.upd (ub O9) (fun _ _ f=>f));have EK:=Hi FU;have QJ:=Hi EO.lt;have Wy:Hid (wo.heap.size≤wr.heap.size):=Hi (Nat.le_of_lt (EO.lt wo.heap.size EO.own));have HBB:=Hi (hb.alloc hb.size (.cells (CX (D.now (a+j))) 193));generalize hxx:D.now (a+j)=x at*;clear aaV hr hx hat EO FU hb O9 hxx;have Cz:=fun W=>ayv prog W 193 5 64 wr.heap.size underlying193 (by kernel_rfl)
       go_wp2_with (first|(refine wpList_load_mid rfl 193 _ rfl w.heap.size (j*64) rfl _ _ (by rw[Nat.mul_comm];exact HR.out) underlying193 rfl (l9 x HX) ?_;rw[eF])|(refine wpList_store_row rfl 193 _ _ rfl wr.heap.size (CX x) rfl rfl 193 _ (AJ wr _) (by rw[lM,HX.out];exact acT) (by rw[lM,HX.out];rfl) (adh x) ?_;rw[World.setRow_alloc_new]));refine(afl D8 wr.heap.size 0 64 x (fun i hi=>by rw[GJ,DF];exact eH x i hi) (fun hf=>Nat.lt_irrefl _ (QJ _ hf)) (by rw[AL,EY.out,HX.out];omega) 64 HX).mono ?_;rintro e w2⟨rfl,fp2,X0,Ep,ajW⟩;have Oo:=Hi X0;have JV:=Hi Ep;have apj:=Hi ajW;clear X0 Ep ajW;go_wp2_with fail;go_roundw
       case rel=>
        refine⟨j+1,fp2,by omega,by go_num,aog.upd JV (fun hf=>by have:=EK _ hf;omega),by rw[HT.out];exact Oo.out,?_,Ca HBB JV (fun q hq=>Ap (Nat.le_of_lt O7) (EK q hq)) HBB.size⟩;intro q hq;rcases apj q hq with h1|h1
        ·exact EK q h1
        ·have:=Wy.out;rw[Aq] at h1;omega
       case measure=>simp[intOf];omega
      ·obtain rfl:j=k:=(by omega);rw[Gn (by rw[EY.out];omega)] at EO;have D8:=Hi EO;have EK:=Hi FU;have Ag:=Hi hb;clear EO FU hb hat;go_wp2_with fail;refine(WG D8).mono ?_;rintro e w2⟨rfl,Ep⟩;go_wp2_with fail;go_ret2;exact⟨rfl,Ca Ag Ep (fun q hq=>Ap (Nat.le_of_lt O7) (EK q hq)) Ag.size⟩
end
section
open Go.RowKit Go.Maps
theorem chunk(s:List UInt8)(k:Nat)(h:64*(k+1)≤s.length):(s.take (64*(k+1))).drop (64*k)=(s.drop (64*k)).take 64∧((s.drop (64*k)).take 64).length=64:=by
 refine⟨?_,by rw[AL,Ce];omega⟩;rw[List.drop_take,show 64*(k+1) -64*k=64 by omega]
theorem axF:(prog.info? 195).map (fun i=>(i.zero,i.size,i.bytes))=some (some (.agg Tryz.zeroCells195),65,72):=by kernel_rfl
theorem awN(w:World)(C:Array Value)(T:TypeId)(N:Nat)(hN:w.heap.size=N):∀ j u,C.toList[j]?=some u→(w.alloc (.cells C T)).drew.cell? ((⟨N,0,none⟩:Addr).add j)=some u:=by
 subst hN;intro j u h;have e:(⟨w.heap.size,0,none⟩:Addr).add j=⟨w.heap.size,j,none⟩:=by unfold Addr.add;split<;>simp_all
 rw[e]
 show(w.alloc (.cells C T)).cell? _=_
 rw[DF,←Dn];exact h
theorem axA(i:Int)(x:List UInt8):∀ u∈(Ph i x).toList,u.oneCell'=true:=by
 unfold Ph;intro u hu;rcases Bt.1 hu with rfl|h
 ·rfl
 ·exact lL _ u h
theorem axz(i:Int)(x:List UInt8)(h:x.length=64):(Ph i x).toList.length=1*65:=by rw[Array.length_toList,acs i x h]
theorem axH{w w':World}{row:Option Nat}(hg:w.grownBy w' row){b o:Nat}{cs:List Value}(h:w.rangeAt b o cs)(hne:some b≠row):w'.rangeAt b o cs:=fun j v hv=>hg.cell (h j v hv) hne
theorem akn{w:World}{a:Addr}{v:Value}{b2 o:Nat}{cs:List Value}(h1:w.cell? a=some v)(h0:w.frozen? a=false)(h2:w.rangeAt b2 o cs)(ob:Obj):(w.alloc ob).drew.cell? a=some v∧(w.alloc ob).drew.frozen? a=false∧(w.alloc ob).drew.rangeAt b2 o cs:=by
 have hb:=(Af w.heap.size w).alloc (Ac _) ob;refine⟨(hb.cell (BS h1)).trans h1,(hb.frozen (BS h1)).trans h0,fun j u hj=>?_⟩;have:=h2 j u hj;exact(hb.cell (BS this)).trans this
theorem ako{w w':World}{a:Addr}{v:Value}{b2 o:Nat}{cs:List Value}(h:w.cell? a=some v∧w.frozen? a=false∧w.rangeAt b2 o cs){row:Option Nat}(hg:w.grownBy w' row)(hne:some a.block≠row)(Xg:some b2≠row):w'.cell? a=some v∧w'.frozen? a=false∧w'.rangeAt b2 o cs:=
 ⟨hg.cell h.1 hne,(hg.frozen_far a (BS h.1) hne).trans h.2.1,axH hg h.2.2 Xg⟩
theorem wrote{w1 W w2:World}{b m:Nat}{lk:Value}{E:Dsk}(h:Em w1 b m lk E)(hW:Bw w1 W)(Az:W.grownBy w2 lk.ownBlock){gg cap a:Nat}{x:List UInt8}{L:Int}{C:List Value}{N:Nat}(hN:E.loose.length+1=N)
  (hown:w2.ownsRow 0 195 65 (.slice (some ⟨gg,0,none⟩) N cap) N C)(hC:C=Nt (E.loose++[(a,x)]))(hat:lk.ownBlock=some gg∨w1.heap.size≤gg)(ha:a < E.n)(hx:x.length=64)(hL: -1≤L∧L≤9223372036854775807):
  Em ((w2.setCell ⟨b,2,none⟩ (.slice (some ⟨gg,0,none⟩) N cap)).setCell ⟨b,3,none⟩ (.int .i64 L)) b m (.slice (some ⟨gg,0,none⟩) N cap) { E with loose:=E.loose++[(a,x)],left:=L }∧
  A7 (PT b m lk) w1 ((w2.setCell ⟨b,2,none⟩ (.slice (some ⟨gg,0,none⟩) N cap)).setCell ⟨b,3,none⟩ (.int .i64 L))∧D6 (PT b m lk) (PT b m (.slice (some ⟨gg,0,none⟩) N cap)) w1:=by
 subst hC;subst hN;have hb:b < w1.heap.size:=(CR.1 h.struct).1;have hm:m < w1.heap.size:=h.base.lt;have u1:A7 (PT b m lk) w1 w2:=(A7.of_below hW).trans (A7.of_grownBy (F:=fun k=>lk.ownBlock=some k) Az (fun k e=>e)) (fun k hk=>.inl (.inr (.inr hk)));have u2:A7 (fun k=>lk.ownBlock=some k) w1 w2:=(A7.of_below hW).trans (A7.of_grownBy (F:=fun k=>lk.ownBlock=some k) Az (fun k e=>e)) (fun k hk=>.inl hk);have QZ:gg≠b:=fun e=>by
  rcases hat with hat|hat
  ·exact h.lb (by rw[hat,e])
  ·omega
 have Nl:gg≠m:=fun e=>by
  rcases hat with hat|hat
  ·exact h.lm (by rw[hat,e])
  ·omega
 have hs:w2.heap[b]?=some (.cells #[.int .i64 (E.n:Int),.map (some m),lk,.int .i64 E.left,.bool E.down] 117):=by
  rw[u2.block b hb h.lb];exact h.struct
 have hF:Dsk.BM { E with loose:=E.loose++[(a,x)],left:=L }:=by
  refine⟨h.fine.n1,h.fine.n2,h.fine.base,fun p hp=>?_,hL⟩;rcases Fp.1 hp with hp|hp
  ·exact h.fine.loose p hp
  ·simp at hp;subst hp;exact⟨ha,hx⟩
 have hv:∀ (v v':Value),A7 (fun k=>k=b) w2 ((w2.setCell ⟨b,2,none⟩ v).setCell ⟨b,3,none⟩ v'):=fun v v'=>((A7.refl (fun k=>k=b) w2).setCell (p:=⟨b,2,none⟩) (.inl rfl) v).setCell (p:=⟨b,3,none⟩) (.inl rfl) v'
 refine⟨⟨?_,?_,?_,h.mb,fun e=>QZ (by simpa[Value.ownBlock] using e),fun e=>Nl (by simpa[Value.ownBlock] using e),hF⟩,?_,?_⟩
 ·have e1:=BU w2 b 2 _ _ (.slice (some ⟨gg,0,none⟩) (E.loose.length+1:Nat) cap) hs;have e2:=BU _ b 3 _ _ (.int .i64 L) e1;exact e2
 ·refine(h.base.kept (u2.block m hm h.lm)).kept ((hv _ _).block m (DK hm u2.size) h.mb)
 ·have e:(E.loose++[(a,x)]).length=E.loose.length+1:=by simp
  show World.ownsRow _ 0 _ 65 _ (E.loose++[(a,x)]).length _
  rw[e];exact Bh hown (hv _ _) (fun g hg e=>QZ (by simp[Value.ownBlock] at hg;omega))
 ·exact(u1.setCell (p:=⟨b,2,none⟩) (.inl (.inl rfl)) _).setCell (p:=⟨b,3,none⟩) (.inl (.inl rfl)) _
 ·rintro k (rfl|rfl|hk)
  ·exact .inl (.inl rfl)
  ·exact .inl (.inr (.inl rfl))
  ·simp[Value.ownBlock] at hk;subst hk;rcases hat with hat|hat
   ·exact .inl (.inr (.inr hat))
   ·exact .inr hat
theorem aw8(l:List (Nat×List UInt8))(a k:Nat)(x:List UInt8):Nt l++(Ph ((a:Int)+(k:Int)) x).toList=Nt (l++[(a+k,x)]):=by
 rw[aw7,axy,XH]
def acR(p:Value):Sem Value:=Instr.loadAt 193 p
theorem acS(p:Value):Instr.loadAt 193 p=acR p:=rfl
attribute [local go_sem ↓] acS
attribute [local simp] eF axD acs axE
theorem aAy{w:World}{b m:Nat}{lv:Value}{D:Dsk}(h:Em w b m lv D)(a:Nat)(s:List UInt8)(hd:D.down=false)(n:Nat)(hs:s.length=64*n)(hi:D.inside a n=true)(GU:D.loose.length+n≤1000000000):
  Calls prog 134 #[.pointer (some ⟨b,0,none⟩),.int .i64 a,.string (bs s)] w fun e w'=>e=.returned (.int .i64 (Dsk.writes D a s n).2)∧∃ rY,Em w' b m rY (Dsk.writes D a s n).1∧A7 (PT b m lv) w w'∧D6 (PT b m lv) (PT b m rY) w:=by
 have hu:Hid (D.up=0):=Hi (by unfold Dsk.up;rw[hd];rfl);have HI:=Hi hi;have hN:=h.fine.n2;have Be:a+n≤D.n:=by
  simp[Dsk.inside] at hi;omega
 clear hd hi;have HS:=Hi hs;have hq:((s.length:Int) / 64)=(n:Int):=by omega
 have hr:(s.length:Int) % 64=0:=by omega
 have HD:=Hi h;clear hs;have HQ:=Hi hq;have HR:=Hi hr;clear hq hr;go_enter func134,ntmps134;go_wp2_with fail
 go_step3
 go_wp2_with fail;refine(XP h).mono ?_;rw[hu.out];rintro e w1⟨rfl,rfl⟩;have hq:=HQ.out;have hr:=HR.out;go_wp2_with fail;refine(abG h a n (by omega) (by omega) (by omega) (by omega)).mono ?_;rw[HI.out];rintro e w1⟨rfl,rfl⟩;clear h hq hr;go_wp2_with fail
 go_step3
 go_wp2_with fail
 go_loopw [6,31] (fun e i wr=>e=.int .i64 0∧∃ (k:Nat) (lk:Value) (E:Dsk),k≤n∧i=.int .i64 k∧Em wr b m lk E∧E.n=D.n∧E.loose.length=D.loose.length+k∧Dsk.writes D a s n=Dsk.writes E (a+k) (s.drop (64*k)) (n -k)∧A7 (PT b m lv) w wr∧D6 (PT b m lv) (PT b m lk) w) (fun _ i _=>n -(intOf i).toNat)
 case atStart=>exact⟨rfl,0,lv,D,by omega,rfl,HD,rfl,rfl,by rw[Nat.mul_zero,List.drop_zero];rfl,A7.refl _ _,fun _ h=>.inl h⟩
 case round=>
  obtain⟨rfl,k,lk,E,hk,rfl,hE,bA,WR,hW,hU,hS⟩:=hrel;obtain⟨c0,c1,c2,c3,c4,cf⟩:=hE.cells;by_cases hlt:k < n
  ·obtain⟨EE,E8⟩:=chunk s k (by rw[HS.out];omega);have hstep:Dsk.writes E (a+k) (s.drop (64*k)) (n -k)=if E.left=0 then({ E with down:=true },40) else Dsk.writes { E with loose:=E.loose++[(a+k,(s.drop (64*k)).take 64)],left:=max (E.left -1) (-1) } (a+k+1) ((s.drop (64*k)).drop 64) (n -(k+1)):=by
    rw[show n -k=(n -(k+1))+1 by omega];rfl
   have AR:=Hi hstep;have HE:=Hi hE;have HEN:=Hi bA;have HEL:=Hi WR;have HW:=Hi hW;have HU:=Hi hU;have UM:=Hi hS;have Ox:=Hi EE;have QT:=Hi E8;have cf3:=cf 3;have nW:=cf 4;have gZ:=cf 2;clear hstep hE bA WR hW hU hS EE E8 cf c0 c1;by_cases LD:E.left=0
   ·have Bq:(E.left == 0)=true:=(by simp[LD]);have HL:=Hi LD;clear LD;go_wp2_with fail;rw[Exit.noGoto_ret];go_ret;have OV:Dsk.BM { E with down:=true }:=⟨HE.fine.n1,HE.fine.n2,HE.fine.base,HE.fine.loose,HE.fine.left⟩;refine⟨by rw[HW.out,AR.out,Ab HL.out];rfl,lk,?_,HU.setCell (p:=⟨b,4,none⟩) (.inl (.inl rfl)) _,UM.out⟩;rw[HW.out,AR.out,Ab HL.out];exact HE.set (D':={ E with down:=true }) 4 _ rfl rfl rfl rfl OV
   ·have Bq:(E.left == 0)=false:=(by simp[LD]);have HL:=Hi LD;clear LD;have Cz:64*(k+1)≤s.length:=(by rw[HS.out];omega);have ko:List.drop (k*64) (List.take ((k+1)*64) s)=(s.drop (64*k)).take 64:=(by rw[Nat.mul_comm k,Nat.mul_comm (k+1)];exact Ox.out);have apd:Hid ((s.drop (64*k)).drop 64=s.drop (64*(k+1))):=Hi (by rw[List.drop_drop,show 64*k+64=64*(k+1) by omega]);generalize (s.drop (64*k)).take 64=x at*;obtain⟨w1,cap,U0,OP,Ad,LK⟩:=aqI prog 9 232 5 underlying9 underlying232 underlying5 wr x;have iZ:=fun W=>run_arrayAt prog W 193 5 64 (some ⟨wr.heap.size,0,none⟩) x.length cap underlying193 (by rw[QT.out];exact Ac _)
    have ab3:=OP.range 0 64 (by rw[QT.out];exact Ac _);rw[List.drop_zero,Gn (by rw[QT.out];exact Ac _)] at ab3;have TC:=Hi ab3;have EZ:=Hi LK;clear LK;have HB1:=Hi Ad;have zX:=HE.below Ad;obtain⟨_,_,d2,d3,_,df⟩:=zX.cells;have FB:=Hi zX;have df2:=df 2;have YF:=df 3;clear ab3 Ad Ox OP c2 c4 cf3 nW gZ zX df;go_wp2_with (first|(refine wpList_load_mid rfl 193 _ rfl wr.heap.size 0 rfl _ _ TC underlying193 rfl (l9 x QT) ?_;rw[eF])|(refine wpList_store_row rfl 193 _ _ rfl w1.heap.size (CX x) rfl rfl 193 _ (AJ w1 _) (by rw[lM,QT.out];exact acT) (by rw[lM,QT.out];rfl) (adh x) ?_;rw[World.setRow_alloc_new]));have Xe:=(FB.loose);have ak3:=underlying193;have aiO:=l9 x QT.out;have Nj:(w1.alloc (.cells (CX x) 193)).cell? ⟨b,2,none⟩=some lk:=by
     rw[←d2];exact((Af _ w1).alloc (Ac _) _).cell (BS d2)
    have hf2:(w1.alloc (.cells (CX x) 193)).frozen? ⟨b,2,none⟩=false:=by
     rw[←df2];exact((Af _ w1).alloc (Ac _) _).frozen (BS d2)
    have Ah:(w1.alloc (.cells (CX x) 193)).rangeAt w1.heap.size 0 (BV x):=by
     intro j v hv;rw[GJ,DF,←Dn,adg];exact hv
    obtain⟨i0,Ba,AQ,AU,AV⟩:=Du axF;have Xu:=QT.out;have Zn:IntKind.i64.wrap ((a:Int)+(k:Int))=(a:Int)+(k:Int):=Ei _ (by omega);have Xg:=FB.lb;have ajn:lk.ownBlock≠some w1.heap.size:=fun e=>by have:=ZB Xe e;omega
    have ai8:(E.loose.length+1)*72≤140737488355328:=(by rw[HEL.out];omega);have SH:(w1.alloc (.cells (CX x) 193)).heap.size=w1.heap.size+1:=Array.size_push _;have aBA:w1.heap.size≠b:=(by have:=BS d2;simp at this;omega);have av3:w1.heap.size≤(w1.alloc (.cells (CX x) 193)).heap.size:=(by rw[SH];omega);have OQ:(w1.alloc (.cells (CX x) 193)).cell? ⟨b,3,none⟩=some (.int .i64 E.left):=by
     rw[←d3];exact((Af _ w1).alloc (Ac _) _).cell (BS d3)
    have hf3:(w1.alloc (.cells (CX x) 193)).frozen? ⟨b,3,none⟩=false:=by
     rw[←YF];exact((Af _ w1).alloc (Ac _) _).frozen (BS d3)
    have abM:=fun ob=>akn OQ hf3 Ah ob
    obtain⟨F7,FV⟩:=HE.fine.left;have abL:=fun ob=>akn Nj hf2 Ah ob
    have qQ:(acR (.pointer (some ⟨w1.heap.size,0,none⟩))).run prog (w1.alloc (.cells (CX x) 193)).drew=.ok (.agg (CX x)) (w1.alloc (.cells (CX x) 193)).drew:=by
     have:=run_loadAt_mid (w1.alloc (.cells (CX x) 193)).drew w1.heap.size 0 193 (BV x) _ (fun j u hj=>Ah j u hj) ak3 rfl aiO;rw[eF,acS] at this;exact this
    clear ak3 aiO
    go_region_law
     ((refine step_append_lies _ (by rfl) _ _ _ (by rfl) 0 195 i0 _ 65 72 underlying115 Ba AQ AU AV (by rfl) (by omega) lk E.loose.length (Nt E.loose) (by rfl) (((Xe.alloc _).alloc _).drew) ⟨w1.heap.size+1,0,none⟩ 1 1 (Ph ((a:Int)+(k:Int)) x).toList (by rfl) (axz _ _ Xu) (awN (w1.alloc (.cells (CX x) 193)) _ _ _ SH) (axA _ _) (by omega) (by unfold maxLen;omega) ai8 (by omega) (w1.heap.size+2) (by simp) ?_;intro gg cap2 w2 Kj Az hat O8;have Gf:=Az.cell (abL _).1 (Ne.symm Xg);have aud:=(ako (abL _) Az (Ne.symm Xg) (Ne.symm ajn)).2.1;have Js:=Az.cell (abM _).1 (Ne.symm Xg);have aBQ:=(ako (abM _) Az (Ne.symm Xg) (Ne.symm ajn)).2.1))
    all_goals
     clear abL abM qQ Nj hf2 OQ hf3 SH Ah Xe d2 d3 df2 YF c3 U0 iZ ai8 Ba AQ AU AV;go_wp2_with fail;have D7:Bw w1 ((w1.alloc (Obj.cells (CX x) 193)).alloc (Obj.cells (Ph (↑a+ ↑k) x) 195)).drew:=(((Af _ w1).alloc (Ac _) _).alloc av3 _).drew;have hmx:(if E.left -1 < -1 then(-1:Int) else E.left -1)=max (E.left -1) (-1):=(by split<;>omega);rw[hmx];obtain⟨g1,g2,g3⟩:=wrote (a:=a+k) (L:=max (E.left -1) (-1)) FB D7 Az rfl Kj (aw8 _ _ _ _) (hat.imp (fun h=>h) (fun h=>by omega)) (by have:=HEN.out;omega) Xu (by omega);refine⟨⟨rfl,k+1,_,_,by omega,rfl,g1,HEN,?_,?_,?_,?_⟩,?_⟩
     ·show(E.loose++[(a+k,x)]).length=_
      rw[Au,HEL.out];rfl
     ·rw[HW.out,AR.out,Aa HL.out,apd.out];rfl
     ·refine(HU.trans (ub HB1) (fun _ f=>f.elim)).trans g2 (fun i hi=>?_);exact UM i hi
     ·intro i hi;have av4:=(HU.trans (ub HB1) (fun _ f=>f.elim)).size;rcases g3 i hi with h|h
      ·exact UM i h
      ·exact .inr (by omega)
     ·show n -((k:Int)+1).toNat < n -((k:Int)).toNat
      omega
  ·have Vp:k=n:=(by omega);subst Vp;have HE:=Hi hE;have HW:=Hi hW;have HU:=Hi hU;have UM:=Hi hS;clear hE hW hU hS bA WR c0 c1 c2 c3 c4 cf;go_wp2_with fail;rw[Exit.noGoto_ret];go_ret;rw[HW.out,Nat.sub_self];exact⟨rfl,lk,HE,HU,UM⟩
theorem lW{w:World}{b:Nat}{D:Dsk}{fp:Nat→Prop}(h:Bl w b D fp)(a:Int)(s:List UInt8)(ha: -9223372036854775808≤a∧a≤9223372036854775807)(hl:s.length≤1000000000)(GU:D.loose.length+s.length / 64≤1000000000):
  Calls prog 134 #[.pointer (some ⟨b,0,none⟩),.int .i64 a,.string (bs s)] w fun e w'=>e=.returned (.int .i64 (D.write a s).2)∧∃ fp',Bl w' b (D.write a s).1 fp'∧A7 fp w w'∧D6 fp fp' w:=by
 obtain⟨m,lv,hI,rfl⟩:=h;by_cases hd:D.down=true
 ·have hu:Hid (D.up=40):=Hi (by unfold Dsk.up;rw[hd];rfl);have hW:D.write a s=(D,40):=by unfold Dsk.write;rw[Ab hd]
  rw[hW];have HI:=Hi hI;clear hW hd;go_enter func134,ntmps134;go_wp2_with fail
  go_step3
  go_wp2_with fail;refine(XP hI).mono ?_;rw[hu.out];rintro e w1⟨rfl,rfl⟩;go_wp2_with fail;rw[Exit.noGoto_ret];go_ret;exact⟨rfl,_,⟨m,lv,HI,rfl⟩,A7.refl _ _,fun _ h=>.inl h⟩
 ·have X4:D.down=false:=by simpa using hd
  by_cases hc:s.length % 64=0∧D.inside a (s.length / 64:Nat)=true
  ·have hW:D.write a s=Dsk.writes D a.toNat s (s.length / 64):=(by unfold Dsk.write;rw[Aa hd,Ab hc]);obtain⟨h1,h2⟩:=hc;have h3:=h2;simp only[Dsk.inside,Bool.and_eq_true,decide_eq_true_eq] at h3;have e:a=(a.toNat:Int):=(by omega);rw[hW];have hE:=aAy hI a.toNat s X4 (s.length / 64) (by omega) (by rw[←e];exact h2) GU;rw[←e] at hE;refine hE.mono ?_;rintro e w1⟨rfl,rY,g1,g2,g3⟩;exact⟨rfl,_,⟨m,rY,g1,rfl⟩,g2,g3⟩
  ·have hu:Hid (D.up=0):=Hi (by unfold Dsk.up;rw[X4];rfl);have hW:D.write a s=(D,2):=(by unfold Dsk.write;rw[Aa hd,Aa hc]);rw[hW];have HI:=Hi hI;by_cases hr:(s.length:Int) % 64=0
   ·have Be:D.inside a (s.length / 64:Nat)=false:=by
     rcases hb:D.inside a (s.length / 64:Nat) with _|_
     ·rfl
     ·exact absurd ⟨by omega,hb⟩ hc
    have KD:=Hi Be;clear hW hd X4 hc Be;have hq:((s.length:Int) / 64)=((s.length / 64:Nat):Int):=(by omega);generalize s.length / 64=n at*;have HR:=Hi hr;have HQ:=Hi hq;clear hr hq;go_enter func134,ntmps134;go_wp2_with fail
    go_step3
    go_wp2_with fail;refine(XP hI).mono ?_;rw[hu.out];rintro e w1⟨rfl,rfl⟩;have hq:=HQ.out;have hr:=HR.out;go_wp2_with fail;refine(abG hI a n (by omega) (by omega) (by omega) (by omega)).mono ?_;rw[KD.out];rintro e w1⟨rfl,rfl⟩;go_wp2_with fail;rw[Exit.noGoto_ret];go_ret;exact⟨rfl,_,⟨m,lv,HI,rfl⟩,A7.refl _ _,fun _ h=>.inl h⟩
   ·have HR:=Hi hr;clear hW hd X4 hc hr;go_enter func134,ntmps134;go_wp2_with fail
    go_step3
    go_wp2_with fail;refine(XP hI).mono ?_;rw[hu.out];rintro e w1⟨rfl,rfl⟩;have hr:=HR.out;go_wp2_with fail;rw[Exit.noGoto_ret];go_ret;exact⟨rfl,_,⟨m,lv,HI,rfl⟩,A7.refl _ _,fun _ h=>.inl h⟩
end
section
section
variable {F:Fence}{n:Nat}{P:Program}{ops:Array Oper}{Q:Exit→Act→World→Prop}{md:Region.Mode}
structure apO(a0:Act)(d m:Nat)(vals:Array Value)(listed:Array Bool)(a:Act):Prop where
 defers:a.defers=a0.defers
 size:a.tmps.size=a0.tmps.size
 out:∀ s,(s < d∨d+m≤s)→a.tmps.getD s undef=a0.tmps.getD s undef
 got:∀ j,j < m→listed.getD j false=true→a.tmps.getD (d+j) undef=vals.getD j undef
theorem p9{α:Type}(xs:Array α)(i j:Nat)(v d:α):(xs.setIfInBounds i v).getD j d=if i=j∧i < xs.size then v else xs.getD j d:=by
 simp only[Array.getD_eq_getD_getElem?,Array.getElem?_setIfInBounds];by_cases h:i=j
 ·subst h;by_cases h2:i < xs.size
  ·simp[h2]
  ·simp[h2]
 ·simp[h]
theorem count_set(xs:Array Bool)(i:Nat)(hi:i < xs.size)(hf:xs.getD i true=false):(xs.setIfInBounds i true).toList.count false+1=xs.toList.count false:=by
 rw[Array.toList_setIfInBounds,List.count_set (by simpa using hi)];have h:xs.toList[i]'(by simpa using hi)=false:=by
  rw[Array.getD_eq_getD_getElem?,VT hi] at hf;simpa using hf
 have hp:0 < xs.toList.count false:=List.count_pos_iff.2 (by rw[←h];exact Ci _);rw[h]
 show xs.toList.count false -1+0+1=_
 omega
theorem least(p:Nat→Bool):∀ m,p m=false→∃ j,p j=false∧∀ i,i < j→p i=true:=by
 intro m
 induction m using Nat.strongRecOn with
 |_ m ih=>
  intro h;by_cases hx:∃ i,i < m∧p i=false
  ·obtain⟨i,h1,h2⟩:=hx;exact ih i h1 h2
  ·exact⟨m,h,fun i hi=>by
    cases hp:p i with
    |true=>rfl
    |false=>exact absurd ⟨i,hi,hp⟩ hx⟩
def aq3(md:Region.Mode)(ops:Array Oper):Bool:=(List.range ops.size).all fun j=>match ops[j]? with|some o=>o.after.all (fun e=>!Region.binds md e || decide (e.on < j))|none=>true
def lastB(md:Region.Mode)(ops:Array Oper)(m:Nat):Bool:=(List.range m).all fun j=>match ops[m]? with|some o=>o.after.any (fun e=>Region.binds md e && decide (e.on=j))|none=>true
theorem aAt{a0:Act}{W:World}{d m:Nat}{vals:Array Value}(Jc:ops.size=m+1)(hd:d+m≤a0.tmps.size)
  (hops:∀ j,j < m→∃ o,ops[j]?=some o∧o.dst=some (d+j)∧o.guard=none)
  (atz:aq3 md ops=true)(aut:lastB md ops m=true)
  (hrun:∀ j,j < m→∀ o,ops[j]?=some o→∀ a:Act,a.defers=a0.defers→(∀ s,(s < d∨d+m≤s)→a.tmps.getD s undef=a0.tmps.getD s undef)→
   (∀ e∈o.after,Region.binds md e=true→a.tmps.getD (d+e.on) undef=vals.getD e.on undef)→(∀ f,o.about P W a.eval=some f→F.fn f)∧(o.semAt F.round a.eval).run P W=.ok (.value (vals.getD j undef)) W)
  (hfin:∀ a:Act,a.defers=a0.defers→a.tmps.size=a0.tmps.size→(∀ s,(s < d∨d+m≤s)→a.tmps.getD s undef=a0.tmps.getD s undef)→(∀ j,j < m→a.tmps.getD (d+j) undef=vals.getD j undef)→wpOpIn F n P ops Q m (fun a' w'=>Q .normal a' w') a W):
  wpAnyIn F n P md ops Q ops.size (Array.replicate ops.size false) a0 W:=by
 have qm:∀ j o,ops[j]?=some o→∀ e∈o.after,Region.binds md e=true→e.on < j:=by
  intro j o ho e he hb;have hj:=(CR.1 ho).1;have:=Nz.1 atz j (List.mem_range.2 hj);rw[ho] at this;have h2:=(Array.all_eq_true_iff_forall_mem.1 this) e he;simpa[hb] using h2
 have bX:∀ o,ops[m]?=some o→∀ j,j < m→∃ e∈o.after,Region.binds md e=true∧e.on=j:=by
  intro o ho j hj;have:=Nz.1 aut j (List.mem_range.2 hj);rw[ho] at this;have h2:o.after.any (fun e=>Region.binds md e && decide (e.on=j))=true:=this;rw[Array.any_eq_true] at h2;obtain⟨i,hi,h3⟩:=h2;exact⟨_,Array.getElem_mem hi,by simpa using h3⟩
 have main:∀ (fuel:Nat) (listed:Array Bool) (a:Act),listed.size=m+1→listed.toList.count false=fuel→listed.getD m true=false→apO a0 d m vals listed a→wpAnyIn F n P md ops Q fuel listed a W:=by
  intro fuel
  induction fuel with
  |zero=>
   intro listed a hs hc hm _;exfalso;rw[List.count_eq_zero] at hc;apply hc;rw[Array.getD_eq_getD_getElem?,VT (by omega)] at hm;have:listed[m]'(by omega)=false:=(by simpa using hm);rw[←this];exact Array.mem_toList_iff.2 (Array.getElem_mem _)
  |succ fuel ih=>
   intro listed a hs hc hm hR;have hex:∃ i,i∈Region.ready md ops listed:=by
    obtain⟨j,hj,auF⟩:=least (fun j=>listed.getD j true) m hm;have hjs:j < m+1:=by
     rcases Nat.lt_or_ge j (m+1) with h|h
     ·exact h
     ·rw[Array.getD_eq_getD_getElem?,Array.getElem?_eq_none (by omega)] at hj;simp at hj
    refine⟨j,mem_ready.2 ⟨hj,ops[j]'(by omega),VT _,fun e he hb=>?_⟩⟩;have hlt:=qm j _ (VT (by omega)) e he hb;have:=auF e.on hlt;rw[Array.getD_eq_getD_getElem?,VT (by omega)] at this ⊢;simpa using this
   refine⟨fun h0=>by obtain⟨i,hi⟩:=hex;rw[h0] at hi;exact(List.not_mem_nil hi).elim,fun i hi=>?_⟩;obtain⟨SL,o,ho,AY⟩:=mem_ready.1 hi;have his:i < m+1:=by
    have:=(CR.1 ho).1;omega
   by_cases qM:i < m
   ·obtain⟨o',R8,atW,hg⟩:=hops i qM;obtain rfl:o'=o:=(by rw[ho] at R8;exact(G7 R8).symm);have Mq:∀ j,j < m→listed.getD j false=true→a.tmps.getD (d+j) undef=vals.getD j undef:=hR.got
    obtain⟨hab,hrn⟩:=hrun i qM o' ho a hR.defers hR.out (fun e he hb=>by
     have h1:=AY e he hb;have h2:=qm i o' ho e he hb;exact Mq e.on (by omega) h1)
    unfold wpOpIn;simp only[ho];rw[Ab (by simp[Region.wanted,hg])];refine⟨hab,?_⟩;rw[hrn];simp only[Oper.uponIn];have Ni:=count_set listed i (by omega) SL;refine ih _ _ (by rw[Array.size_setIfInBounds];exact hs) (by omega) ?_ ?_
    ·rw[p9,Aa (by omega)];exact hm
    ·rw[atW];refine⟨hR.defers,?_,?_,?_⟩
     ·simp only[Act.put,Array.size_setIfInBounds];exact hR.size
     ·intro s hsx;simp only[Act.put];rw[p9,Aa (by omega)];exact hR.out s hsx
     ·intro j hj hl;simp only[Act.put];rw[p9] at hl ⊢;by_cases qL:i=j
      ·subst qL;rw[Ab ⟨rfl,by rw[hR.size];omega⟩]
      ·rw[Aa (by omega)];rw[Aa (by omega)] at hl;exact hR.got j hj hl
   ·obtain rfl:i=m:=(by omega);have ahK:∀ j,j < i→listed.getD j false=true:=fun j hj=>by
     obtain⟨e,he,hb,rfl⟩:=bX o ho j hj;exact AY e he hb
    refine wpOpIn_mono ?_ (hfin a hR.defers hR.size hR.out (fun j hj=>hR.got j hj (ahK j hj)));intro a' w' hq;have Ni:=count_set listed i (by omega) SL;have ajq:Region.ready md ops (listed.setIfInBounds i true)=[]:=by
     rw[List.eq_nil_iff_forall_not_mem];intro j hj;obtain⟨Xc,oj,cK,_⟩:=mem_ready.1 hj;have hjs:=(CR.1 cK).1;rw[p9] at Xc;by_cases qL:i=j
     ·rw[Ab ⟨qL,by omega⟩] at Xc;cases Xc
     ·rw[Aa (by omega)] at Xc;have:=ahK j (by omega);rw[Array.getD_eq_getD_getElem?,VT (by omega)] at this Xc;simp at this Xc;rw[this] at Xc;cases Xc
    cases fuel with
    |zero=>exact⟨ajq,hq⟩
    |succ fuel=>exact⟨fun _=>hq,fun j hj=>by rw[ajq] at hj;cases hj⟩
 refine main ops.size _ a0 (by simp[Jc]) (by simp) ?_ ⟨rfl,rfl,fun _ _=>rfl,fun j hj hl=>?_⟩
 ·rw[Array.getD_eq_getD_getElem?,Array.getElem?_replicate,Ab (by omega)];rfl
 ·rw[Array.getD_eq_getD_getElem?,Array.getElem?_replicate,Ab (by omega)] at hl;cases hl
end
end
end Go.Proofs.YtmbbhdebddbhoaaGreat
