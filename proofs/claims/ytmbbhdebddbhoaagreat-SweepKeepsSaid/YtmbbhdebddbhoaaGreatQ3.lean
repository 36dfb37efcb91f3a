/- DiskRW Rounds -/
import Derived.Test.YtmbbhdebddbhoaaGreatQ2
import Derived.Deep.RegionHeld3
import Derived.Deep.RegionLaw
import Derived.Deep.AppendLies
import Derived.OrdersIn
set_option maxHeartbeats 2000000
set_option maxRecDepth 100000
set_option linter.all false
namespace Go.Proofs.YtmbbhdebddbhoaaGreat
open Tryz
section
open Go.RowKit Go.Maps
theorem BytesAt.upd{F:Nat→Prop}{w w':World}{b:Nat}{l:List UInt8}(h:BytesAt w b l)(hu:A7 F w w')(hF:¬ F b):BytesAt w' b l:=by
 have hlt:=h.lt;obtain⟨C,e,fr,h1,h2⟩:=h;exact⟨C,e,fr,by rw[hu.block b hlt hF];exact h1,h2⟩
theorem afW{w:World}{base e s:Nat}{v:Value}{n:Nat}{xs:List Value}(h:w.ownsRow base e s v n xs):n≤9223372036854775807:=by
 rcases h.2 with⟨_,e⟩|⟨g,cap,_,_,_,_,h1,h2,_⟩
 ·omega
 ·unfold maxLen at h2;omega
theorem Dv.below{w w':World}{b m:Nat}{lv:Value}{D:Dsk}(h:Dv w b m lv D)(hb:Bw w w'):Dv w' b m lv D:=h.upd (ub hb) (fun _ _ f=>f)
theorem afX(w:World)(n:Nat)(hn:n≤16384):∃ C,(Instr.makeSlice 258 (.int .i64 (n:Int)) (.int .i64 (n:Int))).run prog w=.ok (.slice (some ⟨w.heap.size,0,none⟩) n n) (w.alloc (.cells C 193))∧
  BytesAt (w.alloc (.cells C 193)) w.heap.size (List.replicate (64*n) 0):=by
 have axw:(prog.info? 193).map (fun i=>(i.zero,i.size,i.bytes))=some (some (.agg (Cf IM)),64,64):=by kernel_rfl
 obtain⟨i0,hi,hz0,hz1,hz2⟩:=Cz axw;have hrun:=run_make (P:=prog) w 258 193 i0 _ underlying258 hi hz0 .i64 .i64 n n (by omega) (Int.le_refl _) (by rw[hz2];omega) (by omega);rw[Int.toNat_natCast] at hrun;refine⟨_,hrun,tC w _ _ _ (fun i hi=>?_)⟩;have hi0:=hi;rw[List.length_replicate] at hi;rw[hz1];have hs:IM.length=64:=by simp[IM]
 have hg:=Ue IM (i % 64) (by rw[hs];exact Nat.mod_lt _ (by decide));have hz:IM[i % 64]'(by rw[hs];exact Nat.mod_lt _ (by decide))=0:=List.getElem_replicate _;rw[hz] at hg;clear hz hrun;have hz2:(List.replicate (64*n) (0:UInt8))[i]'hi0=0:=List.getElem_replicate _;rw[hz2];unfold madeCells;simp only[Value.cells,Z8,hs];rw[Array.getElem?_map,Array.getElem?_range,Ac (by omega)];simp only[Dm];rw[getElem!_def,hg]
theorem afY{w:World}{b m:Nat}{lv:Value}{D:Dsk}(h:Dv w b m lv D)(at_ n:Int)(hd:D.down=true):
  Calls prog 120 #[.pointer (some ⟨b,0,none⟩),.int .i64 at_,.int .i64 n] w fun e w'=>e=.returned (.tuple #[.string (bs []),.int .i64 40])∧w=w':=by
 have hu:Hid (D.up=40):=Hi (by unfold Dsk.up;rw[hd];rfl);clear hd;go_enter func120,ntmps120;go_wp2_with fail;refine(Qt h).mono ?_;rw[hu.out];rintro e w1⟨rfl,rfl⟩;go_wp2_with fail;go_ret2;exact⟨rfl,rfl⟩
theorem Z9{w:World}{b m:Nat}{lv:Value}{D:Dsk}(h:Dv w b m lv D)(a n:Nat)(hd:D.down=false)(hi:D.inside a n=true):
  Calls prog 120 #[.pointer (some ⟨b,0,none⟩),.int .i64 a,.int .i64 n] w fun e w'=>e=.returned (.tuple #[.string (bs (Dsk.text D.now a n)),.int .i64 0])∧Bw w w':=by
 have hu:Hid (D.up=0):=Hi (by unfold Dsk.up;rw[hd];rfl);have HI:=Hi hi;have hN:=h.fine.n2;have hin:a+n≤D.n:=by
  simp[Dsk.inside] at hi;omega
 clear hd hi;obtain⟨C,hmk,ast⟩:=afX w n (by omega);have Ce:=Hi ast;clear ast;have HD:=Hi h;go_enter func120,ntmps120;go_wp2_with fail;refine(Qt h).mono ?_;rw[hu.out];rintro e w1⟨rfl,rfl⟩;go_wp2_with fail;refine(gz h a n (by omega) (by omega) (by omega) (by omega)).mono ?_;rw[HI.out];rintro e w1⟨rfl,rfl⟩;clear h;go_wp2_with fail
 go_loopw [30] (fun i wr=>∃ k:Nat,k≤n∧i=.int .i64 k∧BytesAt wr w.heap.size (Dsk.text (Dsk.upTo D.base (a+k)) a n)∧Bw w wr) (fun i _=>n -(intOf i).toNat)
 case atStart=>
  refine⟨0,by omega,rfl,?_,(Ad _ _).alloc (Ab _) _⟩;rw[Nat.add_zero,Dsk.afw];exact Ce.out
 case round=>
  obtain⟨k,hk,rfl,hat,hb⟩:=hrel;by_cases hlt:k < n
  ·have HAT:=Hi hat;have hdi:=HD.below hb;obtain⟨_,c1,_,_,_,_⟩:=hdi.cells;have av3:=hdi.base.get (a+k) (by omega) hN;rw[Int.natCast_add] at av3;clear hat hdi;have hbl:=HD.fine.base;have Hw:=Hi (hbl (a+k) (by omega));have EW:∀ j,a≤j→j < a+n→(Dsk.upTo D.base (a+k) j).length=64:=fun j _ h2=>Dsk.afv hbl _ j (by omega)
   have Mf:=Hi EW;have hlen:(Dsk.text (Dsk.upTo D.base (a+k)) a n).length=64*n:=Dsk.Qq EW;have hst:=HAT.store prog (k*64) (D.base (a+k)) (by rw[Hw.out,hlen];omega);have gB:=Hi (HAT.tu (D.base (a+k)) (k*64) (by rw[Hw.out,hlen];omega));have hl2:=Hw.out;clear hbl hlen EW;go_wp2_with fail;go_roundw
   case rel=>
    refine⟨k+1,by omega,by go_num,?_,below_setCells hb (Ab _) _ _⟩;have e:=gB.out;rw[Nat.mul_comm k 64,←Dsk.sQ Mf hlt Hw.out,←Dsk.afx] at e;rw[Nat.mul_comm k 64];exact e
   case measure=>simp[intOf];omega
  ·obtain rfl:k=n:=(by omega);rw[Dsk.afy] at hat;have HAT:=Hi hat;have hdi:=HD.below hb;obtain⟨_,_,c2,_,_,_⟩:=hdi.cells;have hl:∃ q cap,lv=.slice q D.loose.length cap:=by
    rcases hdi.loose.2 with⟨e1,e2⟩|⟨g,cap,_,e1,_⟩
    ·exact⟨none,0,by rw[e1,e2]⟩
    ·exact⟨_,cap,e1⟩
   obtain⟨q,cap,rfl⟩:=hl;have aBY:=afW hdi.loose;have HB:=Hi hb;clear hat hdi hb hmk;go_wp2_with fail
   go_loopw [50] (fun i wr=>∃ j:Nat,j≤D.loose.length∧i=.int .i64 j∧BytesAt wr w.heap.size (Dsk.text (Dsk.lay D.base (D.loose.take j)) a k)∧Bw w wr) (fun i _=>D.loose.length -(intOf i).toNat)
   case atStart=>exact⟨0,by omega,rfl,HAT,HB⟩
   case round=>
    clear HAT HB
    rename_i tV
    obtain⟨j,hj,rfl,hat,hb⟩:=hrel;by_cases hlt:j < D.loose.length
    ·have hlo:=(HD.below hb).loose;obtain⟨g,rfl⟩:∃ g,q=some ⟨g,0,none⟩:=by
      rcases hlo.2 with⟨e1,e2⟩|⟨g,cap,_,e1,_⟩
      ·omega
      ·exact⟨g,by cases e1;rfl⟩
     obtain⟨p1,p2⟩:=HD.fine.loose D.loose[j] (BF hlt);have asD:∀ p∈D.loose,p.2.length=64:=fun p hp=>(HD.fine.loose p hp).2
     have hr:=tN hlo asD j hlt;have au8:=Fw prog 115 195 underlying115 65 tO ⟨g,0,none⟩ D.loose.length cap j hlt;have Wq:(⟨g,0,none⟩:Addr).add (j*65)=⟨g,j*65,none⟩:=(by unfold Addr.add;split<;>simp_all);rw[Wq] at au8;have HS:=Hi (Dsk.afz D.base D.loose j hlt);have hfl:∀ i,i < D.n→(Dsk.lay D.base (D.loose.take j) i).length=64:=Dsk.Wh HD.fine.base (fun p hp=>HD.fine.loose p (List.mem_of_mem_take hp));have IQ:=Hi hfl;have HR:=Hi hr;have GR:=Hi p2;have HAT:=Hi hat;generalize D.loose[j]=p at*;clear hlo asD hr hfl Wq p2 hat;have hz:=tL p;have hlen:(Dsk.text (Dsk.lay D.base (D.loose.take j)) a k).length=64*k:=Dsk.Qq (fun i _ h2=>IQ i (by omega));have atv:=Hi hlen;have HB:=Hi hb;clear hlen hb;by_cases awP:a≤p.1∧p.1 < a+k
     ·obtain⟨i1,i2⟩:=awP;have Pf:=HAT.below ((Ad _ wr).alloc (Ab _) (.cells (putRow p) 195));have hst:=Pf.store prog ((p.1 -a)*64) p.2 (by rw[GR.out,atv.out];omega);have gB:=Hi (Pf.tu p.2 ((p.1 -a)*64) (by rw[GR.out,atv.out];omega));have hl2:=GR.out;clear Pf;go_wp2_with (first|(refine wpList_load_mid rfl 195 _ rfl g (j*65) rfl _ _ HR underlying195 rfl (Z5 p GR) ?_;rw[Z6])|(refine wpList_store_row rfl 195 _ _ rfl wr.heap.size (putRow p) rfl rfl 195 _ (Aq wr _) (Z0 p GR) (gp p GR) (YZ p) ?_;rw[World.setRow_alloc_new])|(refine wpList_load_mid rfl 193 _ rfl wr.heap.size 1 rfl _ _ (afO wr p _) underlying193 rfl (Wp p.2 GR) ?_;rw[Ug]));go_roundw
      case rel=>
       refine⟨j+1,by omega,by go_num,?_,below_setCells (HB.alloc HB.size _) (Ab _) _ _⟩;have e:=gB.out;have e2:=Dsk.sQ (f:=Dsk.lay D.base (D.loose.take j)) (k:=a) (n:=k) (i:=p.1 -a) (x:=p.2) (fun i _ h2=>IQ i (by omega)) (by omega) GR.out;rw[show a+(p.1 -a)=p.1 by omega,←HS.out] at e2;rw[Nat.mul_comm (p.1 -a) 64,←e2] at e;rw[Nat.mul_comm (p.1 -a) 64];exact e
      case measure=>simp[intOf];omega
     ·have aBe:Dsk.text (Dsk.lay D.base (D.loose.take (j+1))) a k=Dsk.text (Dsk.lay D.base (D.loose.take j)) a k:=by
       rw[HS.out];exact Dsk.Kn a k (fun i h1 h2=>by unfold Dsk.upd;rw[Aa (by omega)])
      have tX:=Hi aBe;clear aBe;by_cases az5:a≤p.1
      ·have hhi:a+k≤p.1:=(by omega);clear awP;go_wp2_with (first|(refine wpList_load_mid rfl 195 _ rfl g (j*65) rfl _ _ HR underlying195 rfl (Z5 p GR) ?_;rw[Z6])|(refine wpList_store_row rfl 195 _ _ rfl wr.heap.size (putRow p) rfl rfl 195 _ (Aq wr _) (Z0 p GR) (gp p GR) (YZ p) ?_;rw[World.setRow_alloc_new]));go_roundw
       case rel=>exact⟨j+1,by omega,by go_num,by rw[tX.out];exact HAT.below ((Ad _ wr).alloc (Ab _) _),HB.alloc HB.size _⟩
       case measure=>simp[intOf];omega
      ·clear awP;go_wp2_with (first|(refine wpList_load_mid rfl 195 _ rfl g (j*65) rfl _ _ HR underlying195 rfl (Z5 p GR) ?_;rw[Z6])|(refine wpList_store_row rfl 195 _ _ rfl wr.heap.size (putRow p) rfl rfl 195 _ (Aq wr _) (Z0 p GR) (gp p GR) (YZ p) ?_;rw[World.setRow_alloc_new]));go_roundw
       case rel=>exact⟨j+1,by omega,by go_num,by rw[tX.out];exact HAT.below ((Ad _ wr).alloc (Ab _) _),HB.alloc HB.size _⟩
       case measure=>simp[intOf];omega
    ·obtain rfl:j=D.loose.length:=(by omega);rw[Ck] at hat;have HAT:=Hi hat;have HB:=Hi hb;have IQ:=Hi HD.fine.now;clear hat hb c2 HD Ce aBY;go_wp2_with fail;have tY:=CW.made wr;obtain⟨wo,rfl⟩:∃ wo:World,wo=wr:=⟨_,rfl⟩;have hlb:=HAT.lt;have avn:=(Ad wo.heap.size wo).alloc (Ab _) (.cells #[.pointer none,.slice none 0 0] 234);have Pg:=HAT.below avn;have hb1:Bw w (wo.alloc (.cells #[.pointer none,.slice none 0 0] 234)):=HB.alloc HB.size _;have tZ:(Dsk.text D.now a k).length=64*k:=Dsk.Qq (fun i _ h2=>IQ i (by omega));have atv:=Hi tZ;clear tZ avn;have uf:Dsk.lay D.base D.loose=D.now:=rfl;rw[uf] at Pg;clear uf
     go_loopw [77] (fun i wl=>∃ (j:Nat) (fp:Nat→Prop),j≤k∧i=.int .i64 j∧BytesAt wl w.heap.size (Dsk.text D.now a k)∧CW wl wo.heap.size ((Dsk.text D.now a k).take (64*j)) fp∧(∀ q,fp q→wo.heap.size≤q)∧Bw w wl) (fun i _=>k -(intOf i).toNat)
     case atStart=>
      refine⟨0,_,by omega,rfl,Pg,tY,?_,hb1⟩;rintro q (rfl|hq)
      ·exact Ab _
      ·simp[Value.ownBlock] at hq
     case round=>
      clear tY Pg hb1;obtain⟨j,fp,hj,rfl,hat,hbu,hfp,hb⟩:=hrel;by_cases hlt:j < k
      ·have gD:=Dsk.sP (f:=D.now) (k:=a) (n:=k) (i:=j) (fun i _ h2=>IQ i (by omega)) hlt;have hr:=hat.range (j*64) 64 (by rw[atv.out];omega);rw[Nat.mul_comm j 64,gD.2.1] at hr;have hx:(D.now (a+j)).length=64:=IQ _ (by omega);have HX:=Hi hx;have HR:=Hi hr
       have HT:Hid ((Dsk.text D.now a k).take (64*(j+1))=(Dsk.text D.now a k).take (64*j)++D.now (a+j)):=Hi (by
        rw[show 64*(j+1)=64*j+64 by omega,List.take_add,gD.2.1])
       have avn:=(Ad wr.heap.size wr).alloc (Ab _) (.cells (Cf (D.now (a+j))) 193);have afZ:=Hi (hat.below avn);have Ch:=Hi (hbu.upd (ub avn) (fun _ _ f=>f));have Dw:=Hi hfp;have O6:=Hi hbu.lt;have Qv:Hid (wo.heap.size≤wr.heap.size):=Hi (Nat.le_of_lt (hbu.lt wo.heap.size hbu.own));have ug:=Hi (hb.alloc hb.size (.cells (Cf (D.now (a+j))) 193));generalize uh:D.now (a+j)=x at*;clear gD hr hx hat hbu hfp hb avn uh;have hsl:=fun W=>af7 prog W 193 5 64 wr.heap.size underlying193 (by kernel_rfl)
       go_wp2_with (first|(refine wpList_load_mid rfl 193 _ rfl w.heap.size (j*64) rfl _ _ (by rw[Nat.mul_comm];exact HR.out) underlying193 rfl (Wp x HX) ?_;rw[Ug])|(refine wpList_store_row rfl 193 _ _ rfl wr.heap.size (Cf x) rfl rfl 193 _ (Aq wr _) (by rw[Z8,HX.out];exact fV) (by rw[Z8,HX.out];rfl) (fI x) ?_;rw[World.setRow_alloc_new]));refine(tT Ch wr.heap.size 0 64 x (fun i hi=>by rw[Fs,CV];exact Ue x i hi) (fun hf=>Nat.lt_irrefl _ (O6 _ hf)) (by rw[Aw,atv.out,HX.out];omega) 64 HX).mono ?_;rintro e w2⟨rfl,fp2,Qw,hu2,ui⟩;have Kr:=Hi Qw;have GU:=Hi hu2;have ag0:=Hi ui;clear Qw hu2 ui;go_wp2_with fail;go_roundw
       case rel=>
        refine⟨j+1,fp2,by omega,by go_num,afZ.upd GU (fun hf=>by have:=Dw _ hf;omega),by rw[HT.out];exact Kr.out,?_,Bu ug GU (fun q hq=>Ah (Nat.le_of_lt hlb) (Dw q hq)) ug.size⟩;intro q hq;rcases ag0 q hq with h1|h1
        ·exact Dw q h1
        ·have:=Qv.out;rw[Ai] at h1;omega
       case measure=>simp[intOf];omega
      ·obtain rfl:j=k:=(by omega);rw[ET (by rw[atv.out];omega)] at hbu;have Ch:=Hi hbu;have Dw:=Hi hfp;have HB2:=Hi hb;clear hbu hfp hb hat;go_wp2_with fail;refine(Qs Ch).mono ?_;rintro e w2⟨rfl,hu2⟩;go_wp2_with fail;go_ret2;exact⟨rfl,Bu HB2 hu2 (fun q hq=>Ah (Nat.le_of_lt hlb) (Dw q hq)) HB2.size⟩
end
section
open Go.RowKit Go.Maps
theorem chunk(s:List UInt8)(k:Nat)(h:64*(k+1)≤s.length):(s.take (64*(k+1))).drop (64*k)=(s.drop (64*k)).take 64∧((s.drop (64*k)).take 64).length=64:=by
 refine⟨?_,by rw[Aw,BA];omega⟩;rw[List.drop_take,show 64*(k+1) -64*k=64 by omega]
theorem ag1:(prog.info? 195).map (fun i=>(i.zero,i.size,i.bytes))=some (some (.agg Tryz.zeroCells195),65,72):=by kernel_rfl
theorem ag2(w:World)(C:Array Value)(T:TypeId)(N:Nat)(hN:w.heap.size=N):∀ j u,C.toList[j]?=some u→(w.alloc (.cells C T)).drew.cell? ((⟨N,0,none⟩:Addr).add j)=some u:=by
 subst hN;intro j u h;have e:(⟨w.heap.size,0,none⟩:Addr).add j=⟨w.heap.size,j,none⟩:=by unfold Addr.add;split<;>simp_all
 rw[e]
 show(w.alloc (.cells C T)).cell? _=_
 rw[CV,←CB];exact h
theorem ag3(i:Int)(x:List UInt8):∀ u∈(Kq i x).toList,u.oneCell'=true:=by
 unfold Kq;intro u hu;rcases AZ.1 hu with rfl|h
 ·rfl
 ·exact Wn _ u h
theorem ag4(i:Int)(x:List UInt8)(h:x.length=64):(Kq i x).toList.length=1*65:=by rw[Array.length_toList,gu i x h]
theorem ag5{w w':World}{row:Option Nat}(hg:w.grownBy w' row){b o:Nat}{cs:List Value}(h:w.rangeAt b o cs)(hne:some b≠row):w'.rangeAt b o cs:=fun j v hv=>hg.cell (h j v hv) hne
theorem uj{w:World}{a:Addr}{v:Value}{b2 o:Nat}{cs:List Value}(h1:w.cell? a=some v)(h0:w.frozen? a=false)(h2:w.rangeAt b2 o cs)(ob:Obj):(w.alloc ob).drew.cell? a=some v∧(w.alloc ob).drew.frozen? a=false∧(w.alloc ob).drew.rangeAt b2 o cs:=by
 have hb:=(Ad w.heap.size w).alloc (Ab _) ob;refine⟨(hb.cell (Bz h1)).trans h1,(hb.frozen (Bz h1)).trans h0,fun j u hj=>?_⟩;have:=h2 j u hj;exact(hb.cell (Bz this)).trans this
theorem uk{w w':World}{a:Addr}{v:Value}{b2 o:Nat}{cs:List Value}(h:w.cell? a=some v∧w.frozen? a=false∧w.rangeAt b2 o cs){row:Option Nat}(hg:w.grownBy w' row)(hne:some a.block≠row)(ax9:some b2≠row):w'.cell? a=some v∧w'.frozen? a=false∧w'.rangeAt b2 o cs:=
 ⟨hg.cell h.1 hne,(hg.frozen_far a (Bz h.1) hne).trans h.2.1,ag5 hg h.2.2 ax9⟩
theorem wrote{w1 W w2:World}{b m:Nat}{lk:Value}{E:Dsk}(h:Dv w1 b m lk E)(hW:Bw w1 W)(asx:W.grownBy w2 lk.ownBlock){gg cap a:Nat}{x:List UInt8}{L:Int}{C:List Value}{N:Nat}(hN:E.loose.length+1=N)
  (hown:w2.ownsRow 0 195 65 (.slice (some ⟨gg,0,none⟩) N cap) N C)(hC:C=Jf (E.loose++[(a,x)]))(hat:lk.ownBlock=some gg∨w1.heap.size≤gg)(ha:a < E.n)(hx:x.length=64)(hL: -1≤L∧L≤9223372036854775807):
  Dv ((w2.setCell ⟨b,2,none⟩ (.slice (some ⟨gg,0,none⟩) N cap)).setCell ⟨b,3,none⟩ (.int .i64 L)) b m (.slice (some ⟨gg,0,none⟩) N cap) { E with loose:=E.loose++[(a,x)],left:=L }∧
  A7 (Lh b m lk) w1 ((w2.setCell ⟨b,2,none⟩ (.slice (some ⟨gg,0,none⟩) N cap)).setCell ⟨b,3,none⟩ (.int .i64 L))∧Cg (Lh b m lk) (Lh b m (.slice (some ⟨gg,0,none⟩) N cap)) w1:=by
 subst hC;subst hN;have hb:b < w1.heap.size:=(BZ.1 h.struct).1;have hm:m < w1.heap.size:=h.base.lt;have u1:A7 (Lh b m lk) w1 w2:=(A7.of_below hW).trans (A7.of_grownBy (F:=fun k=>lk.ownBlock=some k) asx (fun k e=>e)) (fun k hk=>.inl (.inr (.inr hk)));have u2:A7 (fun k=>lk.ownBlock=some k) w1 w2:=(A7.of_below hW).trans (A7.of_grownBy (F:=fun k=>lk.ownBlock=some k) asx (fun k e=>e)) (fun k hk=>.inl hk);have hgb:gg≠b:=fun e=>by
  rcases hat with hat|hat
  ·exact h.lb (by rw[hat,e])
  ·omega
 have hgm:gg≠m:=fun e=>by
  rcases hat with hat|hat
  ·exact h.lm (by rw[hat,e])
  ·omega
 have hs:w2.heap[b]?=some (.cells #[.int .i64 (E.n:Int),.map (some m),lk,.int .i64 E.left,.bool E.down] 117):=by
  rw[u2.block b hb h.lb];exact h.struct
 have hF:Dsk.Bf { E with loose:=E.loose++[(a,x)],left:=L }:=by
  refine⟨h.fine.n1,h.fine.n2,h.fine.base,fun p hp=>?_,hL⟩;rcases Ee.1 hp with hp|hp
  ·exact h.fine.loose p hp
  ·simp at hp;subst hp;exact⟨ha,hx⟩
 have hv:∀ (v v':Value),A7 (fun k=>k=b) w2 ((w2.setCell ⟨b,2,none⟩ v).setCell ⟨b,3,none⟩ v'):=fun v v'=>((A7.refl (fun k=>k=b) w2).setCell (p:=⟨b,2,none⟩) (.inl rfl) v).setCell (p:=⟨b,3,none⟩) (.inl rfl) v'
 refine⟨⟨?_,?_,?_,h.mb,fun e=>hgb (by simpa[Value.ownBlock] using e),fun e=>hgm (by simpa[Value.ownBlock] using e),hF⟩,?_,?_⟩
 ·have e1:=Bh w2 b 2 _ _ (.slice (some ⟨gg,0,none⟩) (E.loose.length+1:Nat) cap) hs;have e2:=Bh _ b 3 _ _ (.int .i64 L) e1;exact e2
 ·refine(h.base.kept (u2.block m hm h.lm)).kept ((hv _ _).block m (Di hm u2.size) h.mb)
 ·have e:(E.loose++[(a,x)]).length=E.loose.length+1:=by simp
  show World.ownsRow _ 0 _ 65 _ (E.loose++[(a,x)]).length _
  rw[e];exact AL hown (hv _ _) (fun g hg e=>hgb (by simp[Value.ownBlock] at hg;omega))
 ·exact(u1.setCell (p:=⟨b,2,none⟩) (.inl (.inl rfl)) _).setCell (p:=⟨b,3,none⟩) (.inl (.inl rfl)) _
 ·rintro k (rfl|rfl|hk)
  ·exact .inl (.inl rfl)
  ·exact .inl (.inr (.inl rfl))
  ·simp[Value.ownBlock] at hk;subst hk;rcases hat with hat|hat
   ·exact .inl (.inr (.inr hat))
   ·exact .inr hat
theorem ag6(l:List (Nat×List UInt8))(a k:Nat)(x:List UInt8):Jf l++(Kq ((a:Int)+(k:Int)) x).toList=Jf (l++[(a+k,x)]):=by
 rw[afM,afP,RQ]
def gF(p:Value):Sem Value:=Instr.loadAt 193 p
theorem gG(p:Value):Instr.loadAt 193 p=gF p:=rfl
attribute [local go_sem ↓] gG
attribute [local simp] Ug afQ gu afR
theorem ag7{w:World}{b m:Nat}{lv:Value}{D:Dsk}(h:Dv w b m lv D)(a:Nat)(s:List UInt8)(hd:D.down=false)(n:Nat)(hs:s.length=64*n)(hi:D.inside a n=true)(EX:D.loose.length+n≤1000000000):
  Calls prog 134 #[.pointer (some ⟨b,0,none⟩),.int .i64 a,.string (bs s)] w fun e w'=>e=.returned (.int .i64 (Dsk.writes D a s n).2)∧∃ Za,Dv w' b m Za (Dsk.writes D a s n).1∧A7 (Lh b m lv) w w'∧Cg (Lh b m lv) (Lh b m Za) w:=by
 have hu:Hid (D.up=0):=Hi (by unfold Dsk.up;rw[hd];rfl);have HI:=Hi hi;have hN:=h.fine.n2;have hin:a+n≤D.n:=by
  simp[Dsk.inside] at hi;omega
 clear hd hi;have HS:=Hi hs;have hq:((s.length:Int) / 64)=(n:Int):=by omega
 have hr:(s.length:Int) % 64=0:=by omega
 have HD:=Hi h;clear hs;have HQ:=Hi hq;have HR:=Hi hr;clear hq hr;go_enter func134,ntmps134;go_wp2_with fail
 go_step3
 go_wp2_with fail;refine(Qt h).mono ?_;rw[hu.out];rintro e w1⟨rfl,rfl⟩;have hq:=HQ.out;have hr:=HR.out;go_wp2_with fail;refine(gz h a n (by omega) (by omega) (by omega) (by omega)).mono ?_;rw[HI.out];rintro e w1⟨rfl,rfl⟩;clear h hq hr;go_wp2_with fail
 go_step3
 go_wp2_with fail
 go_loopw [6,31] (fun e i wr=>e=.int .i64 0∧∃ (k:Nat) (lk:Value) (E:Dsk),k≤n∧i=.int .i64 k∧Dv wr b m lk E∧E.n=D.n∧E.loose.length=D.loose.length+k∧Dsk.writes D a s n=Dsk.writes E (a+k) (s.drop (64*k)) (n -k)∧A7 (Lh b m lv) w wr∧Cg (Lh b m lv) (Lh b m lk) w) (fun _ i _=>n -(intOf i).toNat)
 case atStart=>exact⟨rfl,0,lv,D,by omega,rfl,HD,rfl,rfl,by rw[Nat.mul_zero,List.drop_zero];rfl,A7.refl _ _,fun _ h=>.inl h⟩
 case round=>
  obtain⟨rfl,k,lk,E,hk,rfl,hE,Uj,hEl,hW,hU,hS⟩:=hrel;obtain⟨c0,c1,c2,c3,c4,cf⟩:=hE.cells;by_cases hlt:k < n
  ·obtain⟨hx1,hx2⟩:=chunk s k (by rw[HS.out];omega);have hstep:Dsk.writes E (a+k) (s.drop (64*k)) (n -k)=if E.left=0 then({ E with down:=true },40) else Dsk.writes { E with loose:=E.loose++[(a+k,(s.drop (64*k)).take 64)],left:=max (E.left -1) (-1) } (a+k+1) ((s.drop (64*k)).drop 64) (n -(k+1)):=by
    rw[show n -k=(n -(k+1))+1 by omega];rfl
   have HST:=Hi hstep;have HE:=Hi hE;have um:=Hi Uj;have uo:=Hi hEl;have HW:=Hi hW;have HU:=Hi hU;have Ph:=Hi hS;have Kt:=Hi hx1;have Mg:=Hi hx2;have cf3:=cf 3;have Zb:=cf 4;have Qx:=cf 2;clear hstep hE Uj hEl hW hU hS hx1 hx2 cf c0 c1;by_cases hl0:E.left=0
   ·have hb0:(E.left == 0)=true:=(by simp[hl0]);have HL:=Hi hl0;clear hl0;go_wp2_with fail;rw[Exit.noGoto_ret];go_ret;have Ku:Dsk.Bf { E with down:=true }:=⟨HE.fine.n1,HE.fine.n2,HE.fine.base,HE.fine.loose,HE.fine.left⟩;refine⟨by rw[HW.out,HST.out,Ac HL.out];rfl,lk,?_,HU.setCell (p:=⟨b,4,none⟩) (.inl (.inl rfl)) _,Ph.out⟩;rw[HW.out,HST.out,Ac HL.out];exact HE.set (D':={ E with down:=true }) 4 _ rfl rfl rfl rfl Ku
   ·have hb0:(E.left == 0)=false:=(by simp[hl0]);have HL:=Hi hl0;clear hl0;have hsl:64*(k+1)≤s.length:=(by rw[HS.out];omega);have hxe:List.drop (k*64) (List.take ((k+1)*64) s)=(s.drop (64*k)).take 64:=(by rw[Nat.mul_comm k,Nat.mul_comm (k+1)];exact Kt.out);have ag9:Hid ((s.drop (64*k)).drop 64=s.drop (64*(k+1))):=Hi (by rw[List.drop_drop,show 64*k+64=64*(k+1) by omega]);generalize (s.drop (64*k)).take 64=x at*;obtain⟨w1,cap,hcv,hby,hb1,auP⟩:=afJ prog 9 232 5 underlying9 underlying232 underlying5 wr x;have har:=fun W=>run_arrayAt prog W 193 5 64 (some ⟨wr.heap.size,0,none⟩) x.length cap underlying193 (by rw[Mg.out];exact Ab _)
    have azK:=hby.range 0 64 (by rw[Mg.out];exact Ab _);rw[List.drop_zero,ET (by rw[Mg.out];exact Ab _)] at azK;have O7:=Hi azK;have Db:=Hi auP;clear auP;have HB1:=Hi hb1;have hE1:=HE.below hb1;obtain⟨_,_,d2,d3,_,df⟩:=hE1.cells;have Ef:=Hi hE1;have df2:=df 2;have Uk:=df 3;clear azK hb1 Kt hby c2 c4 cf3 Zb Qx hE1 df;go_wp2_with (first|(refine wpList_load_mid rfl 193 _ rfl wr.heap.size 0 rfl _ _ O7 underlying193 rfl (Wp x Mg) ?_;rw[Ug])|(refine wpList_store_row rfl 193 _ _ rfl w1.heap.size (Cf x) rfl rfl 193 _ (Aq w1 _) (by rw[Z8,Mg.out];exact fV) (by rw[Z8,Mg.out];rfl) (fI x) ?_;rw[World.setRow_alloc_new]));have az5:=(Ef.loose);have uu:=underlying193;have uw:=Wp x Mg.out;have hd2:(w1.alloc (.cells (Cf x) 193)).cell? ⟨b,2,none⟩=some lk:=by
     rw[←d2];exact((Ad _ w1).alloc (Ab _) _).cell (Bz d2)
    have hf2:(w1.alloc (.cells (Cf x) 193)).frozen? ⟨b,2,none⟩=false:=by
     rw[←df2];exact((Ad _ w1).alloc (Ab _) _).frozen (Bz d2)
    have ast:(w1.alloc (.cells (Cf x) 193)).rangeAt w1.heap.size 0 (Bn x):=by
     intro j v hv;rw[Fs,CV,←CB,fT];exact hv
    obtain⟨i0,hi0,hz0,hz1,hz2⟩:=Cz ag1;have Qy:=Mg.out;have hwr:IntKind.i64.wrap ((a:Int)+(k:Int))=(a:Int)+(k:Int):=CZ _ (by omega);have ax9:=Ef.lb;have uy:lk.ownBlock≠some w1.heap.size:=fun e=>by have:=RO az5 e;omega
    have aAt:(E.loose.length+1)*72≤140737488355328:=(by rw[uo.out];omega);have awl:(w1.alloc (.cells (Cf x) 193)).heap.size=w1.heap.size+1:=Array.size_push _;have aCn:w1.heap.size≠b:=(by have:=Bz d2;simp at this;omega);have aga:w1.heap.size≤(w1.alloc (.cells (Cf x) 193)).heap.size:=(by rw[awl];omega);have hd3:(w1.alloc (.cells (Cf x) 193)).cell? ⟨b,3,none⟩=some (.int .i64 E.left):=by
     rw[←d3];exact((Ad _ w1).alloc (Ab _) _).cell (Bz d3)
    have hf3:(w1.alloc (.cells (Cf x) 193)).frozen? ⟨b,3,none⟩=false:=by
     rw[←Uk];exact((Ad _ w1).alloc (Ab _) _).frozen (Bz d3)
    have gH:=fun ob=>uj hd3 hf3 ast ob
    obtain⟨hl1,hl2⟩:=HE.fine.left;have gI:=fun ob=>uj hd2 hf2 ast ob
    have hld:(gF (.pointer (some ⟨w1.heap.size,0,none⟩))).run prog (w1.alloc (.cells (Cf x) 193)).drew=.ok (.agg (Cf x)) (w1.alloc (.cells (Cf x) 193)).drew:=by
     have:=run_loadAt_mid (w1.alloc (.cells (Cf x) 193)).drew w1.heap.size 0 193 (Bn x) _ (fun j u hj=>ast j u hj) uu rfl uw;rw[Ug,gG] at this;exact this
    clear uu uw
    go_region_law
     ((refine step_append_lies _ (by rfl) _ _ _ (by rfl) 0 195 i0 _ 65 72 underlying115 hi0 hz0 hz1 hz2 (by rfl) (by omega) lk E.loose.length (Jf E.loose) (by rfl) (((az5.alloc _).alloc _).drew) ⟨w1.heap.size+1,0,none⟩ 1 1 (Kq ((a:Int)+(k:Int)) x).toList (by rfl) (ag4 _ _ Qy) (ag2 (w1.alloc (.cells (Cf x) 193)) _ _ _ awl) (ag3 _ _) (by omega) (by unfold maxLen;omega) aAt (by omega) (w1.heap.size+2) (by simp) ?_;intro gg cap2 w2 aut asx hat avm;have hc2:=asx.cell (gI _).1 (Ne.symm ax9);have agb:=(uk (gI _) asx (Ne.symm ax9) (Ne.symm uy)).2.1;have hc3:=asx.cell (gH _).1 (Ne.symm ax9);have aqL:=(uk (gH _) asx (Ne.symm ax9) (Ne.symm uy)).2.1))
    all_goals
     clear gI gH hld hd2 hf2 hd3 hf3 awl ast az5 d2 d3 df2 Uk c3 hcv har aAt hi0 hz0 hz1 hz2;go_wp2_with fail;have hbw:Bw w1 ((w1.alloc (Obj.cells (Cf x) 193)).alloc (Obj.cells (Kq (↑a+ ↑k) x) 195)).drew:=(((Ad _ w1).alloc (Ab _) _).alloc aga _).drew;have hmx:(if E.left -1 < -1 then(-1:Int) else E.left -1)=max (E.left -1) (-1):=(by split<;>omega);rw[hmx];obtain⟨g1,g2,g3⟩:=wrote (a:=a+k) (L:=max (E.left -1) (-1)) Ef hbw asx rfl aut (ag6 _ _ _ _) (hat.imp (fun h=>h) (fun h=>by omega)) (by have:=um.out;omega) Qy (by omega);refine⟨⟨rfl,k+1,_,_,by omega,rfl,g1,um,?_,?_,?_,?_⟩,?_⟩
     ·show(E.loose++[(a+k,x)]).length=_
      rw[Aj,uo.out];rfl
     ·rw[HW.out,HST.out,Aa HL.out,ag9.out];rfl
     ·refine(HU.trans (ub HB1) (fun _ f=>f.elim)).trans g2 (fun i hi=>?_);exact Ph i hi
     ·intro i hi;have agc:=(HU.trans (ub HB1) (fun _ f=>f.elim)).size;rcases g3 i hi with h|h
      ·exact Ph i h
      ·exact .inr (by omega)
     ·show n -((k:Int)+1).toNat < n -((k:Int)).toNat
      omega
  ·have hkn:k=n:=(by omega);subst hkn;have HE:=Hi hE;have HW:=Hi hW;have HU:=Hi hU;have Ph:=Hi hS;clear hE hW hU hS Uj hEl c0 c1 c2 c3 c4 cf;go_wp2_with fail;rw[Exit.noGoto_ret];go_ret;rw[HW.out,Nat.sub_self];exact⟨rfl,lk,HE,HU,Ph⟩
theorem Ws{w:World}{b:Nat}{D:Dsk}{fp:Nat→Prop}(h:AU w b D fp)(a:Int)(s:List UInt8)(ha: -9223372036854775808≤a∧a≤9223372036854775807)(hl:s.length≤1000000000)(EX:D.loose.length+s.length / 64≤1000000000):
  Calls prog 134 #[.pointer (some ⟨b,0,none⟩),.int .i64 a,.string (bs s)] w fun e w'=>e=.returned (.int .i64 (D.write a s).2)∧∃ fp',AU w' b (D.write a s).1 fp'∧A7 fp w w'∧Cg fp fp' w:=by
 obtain⟨m,lv,hI,rfl⟩:=h;by_cases hd:D.down=true
 ·have hu:Hid (D.up=40):=Hi (by unfold Dsk.up;rw[hd];rfl);have hW:D.write a s=(D,40):=by unfold Dsk.write;rw[Ac hd]
  rw[hW];have HI:=Hi hI;clear hW hd;go_enter func134,ntmps134;go_wp2_with fail
  go_step3
  go_wp2_with fail;refine(Qt hI).mono ?_;rw[hu.out];rintro e w1⟨rfl,rfl⟩;go_wp2_with fail;rw[Exit.noGoto_ret];go_ret;exact⟨rfl,_,⟨m,lv,HI,rfl⟩,A7.refl _ _,fun _ h=>.inl h⟩
 ·have hd':D.down=false:=by simpa using hd
  by_cases hc:s.length % 64=0∧D.inside a (s.length / 64:Nat)=true
  ·have hW:D.write a s=Dsk.writes D a.toNat s (s.length / 64):=(by unfold Dsk.write;rw[Aa hd,Ac hc]);obtain⟨h1,h2⟩:=hc;have h3:=h2;simp only[Dsk.inside,Bool.and_eq_true,decide_eq_true_eq] at h3;have e:a=(a.toNat:Int):=(by omega);rw[hW];have hE:=ag7 hI a.toNat s hd' (s.length / 64) (by omega) (by rw[←e];exact h2) EX;rw[←e] at hE;refine hE.mono ?_;rintro e w1⟨rfl,Za,g1,g2,g3⟩;exact⟨rfl,_,⟨m,Za,g1,rfl⟩,g2,g3⟩
  ·have hu:Hid (D.up=0):=Hi (by unfold Dsk.up;rw[hd'];rfl);have hW:D.write a s=(D,2):=(by unfold Dsk.write;rw[Aa hd,Aa hc]);rw[hW];have HI:=Hi hI;by_cases hr:(s.length:Int) % 64=0
   ·have hin:D.inside a (s.length / 64:Nat)=false:=by
     rcases hb:D.inside a (s.length / 64:Nat) with _|_
     ·rfl
     ·exact absurd ⟨by omega,hb⟩ hc
    have Gh:=Hi hin;clear hW hd hd' hc hin;have hq:((s.length:Int) / 64)=((s.length / 64:Nat):Int):=(by omega);generalize s.length / 64=n at*;have HR:=Hi hr;have HQ:=Hi hq;clear hr hq;go_enter func134,ntmps134;go_wp2_with fail
    go_step3
    go_wp2_with fail;refine(Qt hI).mono ?_;rw[hu.out];rintro e w1⟨rfl,rfl⟩;have hq:=HQ.out;have hr:=HR.out;go_wp2_with fail;refine(gz hI a n (by omega) (by omega) (by omega) (by omega)).mono ?_;rw[Gh.out];rintro e w1⟨rfl,rfl⟩;go_wp2_with fail;rw[Exit.noGoto_ret];go_ret;exact⟨rfl,_,⟨m,lv,HI,rfl⟩,A7.refl _ _,fun _ h=>.inl h⟩
   ·have HR:=Hi hr;clear hW hd hd' hc hr;go_enter func134,ntmps134;go_wp2_with fail
    go_step3
    go_wp2_with fail;refine(Qt hI).mono ?_;rw[hu.out];rintro e w1⟨rfl,rfl⟩;have hr:=HR.out;go_wp2_with fail;rw[Exit.noGoto_ret];go_ret;exact⟨rfl,_,⟨m,lv,HI,rfl⟩,A7.refl _ _,fun _ h=>.inl h⟩
end
section
section
variable {F:Fence}{n:Nat}{P:Program}{ops:Array Oper}{Q:Exit→Act→World→Prop}{md:Region.Mode}
structure agd(a0:Act)(d m:Nat)(vals:Array Value)(listed:Array Bool)(a:Act):Prop where
 defers:a.defers=a0.defers
 size:a.tmps.size=a0.tmps.size
 out:∀ s,(s < d∨d+m≤s)→a.tmps.getD s undef=a0.tmps.getD s undef
 got:∀ j,j < m→listed.getD j false=true→a.tmps.getD (d+j) undef=vals.getD j undef
theorem Zc{α:Type}(xs:Array α)(i j:Nat)(v d:α):(xs.setIfInBounds i v).getD j d=if i=j∧i < xs.size then v else xs.getD j d:=by
 simp only[Array.getD_eq_getD_getElem?,Array.getElem?_setIfInBounds];by_cases h:i=j
 ·subst h;by_cases h2:i < xs.size
  ·simp[h2]
  ·simp[h2]
 ·simp[h]
theorem count_set(xs:Array Bool)(i:Nat)(hi:i < xs.size)(hf:xs.getD i true=false):(xs.setIfInBounds i true).toList.count false+1=xs.toList.count false:=by
 rw[Array.toList_setIfInBounds,List.count_set (by simpa using hi)];have h:xs.toList[i]'(by simpa using hi)=false:=by
  rw[Array.getD_eq_getD_getElem?,RG hi] at hf;simpa using hf
 have hp:0 < xs.toList.count false:=List.count_pos_iff.2 (by rw[←h];exact BF _);rw[h]
 show xs.toList.count false -1+0+1=_
 omega
theorem least(p:Nat→Bool):∀ m,p m=false→∃ j,p j=false∧∀ i,i < j→p i=true:=by
 intro m
 induction m using Nat.strongRecOn with
 |_ m ih=>
  intro h;by_cases hx:∃ i,i < m∧p i=false
  ·obtain⟨i,h1,h2⟩:=hx;exact ih i h1 h2
  ·exact⟨m,h,fun i hi=>by
    cases hp:p i with
    |true=>rfl
    |false=>exact absurd ⟨i,hi,hp⟩ hx⟩
def age(md:Region.Mode)(ops:Array Oper):Bool:=(List.range ops.size).all fun j=>match ops[j]? with|some o=>o.after.all (fun e=>!Region.binds md e || decide (e.on < j))|none=>true
def lastB(md:Region.Mode)(ops:Array Oper)(m:Nat):Bool:=(List.range m).all fun j=>match ops[m]? with|some o=>o.after.any (fun e=>Region.binds md e && decide (e.on=j))|none=>true
theorem agf{a0:Act}{W:World}{d m:Nat}{vals:Array Value}(aug:ops.size=m+1)(hd:d+m≤a0.tmps.size)
  (hops:∀ j,j < m→∃ o,ops[j]?=some o∧o.dst=some (d+j)∧o.guard=none)
  (agh:age md ops=true)(agi:lastB md ops m=true)
  (hrun:∀ j,j < m→∀ o,ops[j]?=some o→∀ a:Act,a.defers=a0.defers→(∀ s,(s < d∨d+m≤s)→a.tmps.getD s undef=a0.tmps.getD s undef)→
   (∀ e∈o.after,Region.binds md e=true→a.tmps.getD (d+e.on) undef=vals.getD e.on undef)→(∀ f,o.about P W a.eval=some f→F.fn f)∧(o.semAt F.round a.eval).run P W=.ok (.value (vals.getD j undef)) W)
  (hfin:∀ a:Act,a.defers=a0.defers→a.tmps.size=a0.tmps.size→(∀ s,(s < d∨d+m≤s)→a.tmps.getD s undef=a0.tmps.getD s undef)→(∀ j,j < m→a.tmps.getD (d+j) undef=vals.getD j undef)→wpOpIn F n P ops Q m (fun a' w'=>Q .normal a' w') a W):
  wpAnyIn F n P md ops Q ops.size (Array.replicate ops.size false) a0 W:=by
 have ayS:∀ j o,ops[j]?=some o→∀ e∈o.after,Region.binds md e=true→e.on < j:=by
  intro j o ho e he hb;have hj:=(BZ.1 ho).1;have:=Kl.1 agh j (List.mem_range.2 hj);rw[ho] at this;have h2:=(Array.all_eq_true_iff_forall_mem.1 this) e he;simpa[hb] using h2
 have ay4:∀ o,ops[m]?=some o→∀ j,j < m→∃ e∈o.after,Region.binds md e=true∧e.on=j:=by
  intro o ho j hj;have:=Kl.1 agi j (List.mem_range.2 hj);rw[ho] at this;have h2:o.after.any (fun e=>Region.binds md e && decide (e.on=j))=true:=this;rw[Array.any_eq_true] at h2;obtain⟨i,hi,h3⟩:=h2;exact⟨_,Array.getElem_mem hi,by simpa using h3⟩
 have main:∀ (fuel:Nat) (listed:Array Bool) (a:Act),listed.size=m+1→listed.toList.count false=fuel→listed.getD m true=false→agd a0 d m vals listed a→wpAnyIn F n P md ops Q fuel listed a W:=by
  intro fuel
  induction fuel with
  |zero=>
   intro listed a hs hc hm _;exfalso;rw[List.count_eq_zero] at hc;apply hc;rw[Array.getD_eq_getD_getElem?,RG (by omega)] at hm;have:listed[m]'(by omega)=false:=(by simpa using hm);rw[←this];exact Array.mem_toList_iff.2 (Array.getElem_mem _)
  |succ fuel ih=>
   intro listed a hs hc hm hR;have hex:∃ i,i∈Region.ready md ops listed:=by
    obtain⟨j,hj,aBZ⟩:=least (fun j=>listed.getD j true) m hm;have hjs:j < m+1:=by
     rcases Nat.lt_or_ge j (m+1) with h|h
     ·exact h
     ·rw[Array.getD_eq_getD_getElem?,Array.getElem?_eq_none (by omega)] at hj;simp at hj
    refine⟨j,mem_ready.2 ⟨hj,ops[j]'(by omega),RG _,fun e he hb=>?_⟩⟩;have hlt:=ayS j _ (RG (by omega)) e he hb;have:=aBZ e.on hlt;rw[Array.getD_eq_getD_getElem?,RG (by omega)] at this ⊢;simpa using this
   refine⟨fun h0=>by obtain⟨i,hi⟩:=hex;rw[h0] at hi;exact(List.not_mem_nil hi).elim,fun i hi=>?_⟩;obtain⟨hun,o,ho,asD⟩:=mem_ready.1 hi;have his:i < m+1:=by
    have:=(BZ.1 ho).1;omega
   by_cases him:i < m
   ·obtain⟨o',ho',aBN,hg⟩:=hops i him;obtain rfl:o'=o:=(by rw[ho] at ho';exact(EH ho').symm);have hlo:∀ j,j < m→listed.getD j false=true→a.tmps.getD (d+j) undef=vals.getD j undef:=hR.got
    obtain⟨hab,hrn⟩:=hrun i him o' ho a hR.defers hR.out (fun e he hb=>by
     have h1:=asD e he hb;have h2:=ayS i o' ho e he hb;exact hlo e.on (by omega) h1)
    unfold wpOpIn;simp only[ho];rw[Ac (by simp[Region.wanted,hg])];refine⟨hab,?_⟩;rw[hrn];simp only[Oper.uponIn];have hc':=count_set listed i (by omega) hun;refine ih _ _ (by rw[Array.size_setIfInBounds];exact hs) (by omega) ?_ ?_
    ·rw[Zc,Aa (by omega)];exact hm
    ·rw[aBN];refine⟨hR.defers,?_,?_,?_⟩
     ·simp only[Act.put,Array.size_setIfInBounds];exact hR.size
     ·intro s hsx;simp only[Act.put];rw[Zc,Aa (by omega)];exact hR.out s hsx
     ·intro j hj hl;simp only[Act.put];rw[Zc] at hl ⊢;by_cases hij:i=j
      ·subst hij;rw[Ac ⟨rfl,by rw[hR.size];omega⟩]
      ·rw[Aa (by omega)];rw[Aa (by omega)] at hl;exact hR.got j hj hl
   ·obtain rfl:i=m:=(by omega);have uz:∀ j,j < i→listed.getD j false=true:=fun j hj=>by
     obtain⟨e,he,hb,rfl⟩:=ay4 o ho j hj;exact asD e he hb
    refine wpOpIn_mono ?_ (hfin a hR.defers hR.size hR.out (fun j hj=>hR.got j hj (uz j hj)));intro a' w' hq;have hc':=count_set listed i (by omega) hun;have aAX:Region.ready md ops (listed.setIfInBounds i true)=[]:=by
     rw[List.eq_nil_iff_forall_not_mem];intro j hj;obtain⟨Qz,oj,hoj,_⟩:=mem_ready.1 hj;have hjs:=(BZ.1 hoj).1;rw[Zc] at Qz;by_cases hij:i=j
     ·rw[Ac ⟨hij,by omega⟩] at Qz;cases Qz
     ·rw[Aa (by omega)] at Qz;have:=uz j (by omega);rw[Array.getD_eq_getD_getElem?,RG (by omega)] at this Qz;simp at this Qz;rw[this] at Qz;cases Qz
    cases fuel with
    |zero=>exact⟨aAX,hq⟩
    |succ fuel=>exact⟨fun _=>hq,fun j hj=>by rw[aAX] at hj;cases hj⟩
 refine main ops.size _ a0 (by simp[aug]) (by simp) ?_ ⟨rfl,rfl,fun _ _=>rfl,fun j hj hl=>?_⟩
 ·rw[Array.getD_eq_getD_getElem?,Array.getElem?_replicate,Ac (by omega)];rfl
 ·rw[Array.getD_eq_getD_getElem?,Array.getElem?_replicate,Ac (by omega)] at hl;cases hl
end
end
end Go.Proofs.YtmbbhdebddbhoaaGreat
