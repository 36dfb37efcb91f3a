/- WalOpen2 -/
import Derived.Test.YtmbbhdebddbhoaaGreatQ7
set_option maxHeartbeats 4000000
set_option maxRecDepth 100000
set_option linter.all false
namespace Go.Proofs.YtmbbhdebddbhoaaGreat
open Tryz
section
open Go.RowKit Go.Maps
open Wal
def Dsk.openW(D:Dsk)(a n:Int):Option AO×Int:=
 if n < 2∨a < 0∨(D.n:Int) < a∨(D.n:Int) -a < n then(none,2)
 else if D.down then(none,40)
 else match FV (Dsk.text D.now a.toNat n.toNat) n.toNat with
  |none=>(none,50)
  |some (g,u,l)=>(some ⟨a.toNat,n.toNat,g,u,l,0⟩,0)
def Ps(w:World)(b:Nat)(D:Dsk)(a n:Int)(e:Ending)(w':World):Prop:=
 match D.openW a n with
 |(none,k)=>e=.returned (.tuple #[.pointer none,.int .i64 k])∧Bw w w'
 |(some L,k)=>∃ x gv,e=.returned (.tuple #[.pointer (some ⟨x,0,none⟩),.int .i64 k])∧Bq w' x b gv L∧Bw w w'∧∀ q,Ba x gv q→w.heap.size≤q
theorem QI{w w':World}{b:Nat}{D:Dsk}{a n k:Int}{e:Ending}(h:D.openW a n=(none,k))(he:e=.returned (.tuple #[.pointer none,.int .i64 k]))(hb:Bw w w'):Ps w b D a n e w':=by
 unfold Ps;rw[h];exact⟨he,hb⟩
theorem wF{w w':World}{b:Nat}{D:Dsk}{a n k:Int}{L:AO}{e:Ending}{x:Nat}{gv:Value}(h:D.openW a n=(some L,k))(he:e=.returned (.tuple #[.pointer (some ⟨x,0,none⟩),.int .i64 k]))(hw:Bq w' x b gv L)(hb:Bw w w')(hn:∀ q,Ba x gv q→w.heap.size≤q):Ps w b D a n e w':=by
 unfold Ps;rw[h];exact⟨x,gv,he,hw,hb,hn⟩
theorem iJ:(prog.info? 27).map (fun i=>(i.zero,i.size,i.bytes))=some (some (.slice none 0 0),1,24):=by kernel_rfl
theorem ahj{w:World}{b:Nat}{D:Dsk}{fp:Nat→Prop}(h:AU w b D fp)(a n:Int)(ha: -9223372036854775808≤a∧a≤9223372036854775807)(hn: -9223372036854775808≤n∧n≤9223372036854775807)
  (av2:n < 2∨a < 0∨(D.n:Int) < a∨(D.n:Int) -a < n):
  Calls prog 53 #[.pointer (some ⟨b,0,none⟩),.int .i64 a,.int .i64 n] w fun e w'=>Ps w b D a n e w':=by
 have hO:Hid (D.openW a n=(none,2)):=Hi (by unfold Dsk.openW;rw[Ac av2]);have hN:=h.fine.n2;have H:=Hi h;clear h;generalize Nf:(D.n:Int)=N at*;have HN:=Hi Nf;have hN2:0≤N∧N≤16384:=by omega
 clear Nf hN;by_cases h1:n < 2
 ·go_enter func53,ntmps53;go_wp2_with fail;go_ret2;exact QI hO.out rfl (Ad _ _)
 by_cases h2:a < 0
 ·go_enter func53,ntmps53;go_wp2_with fail;go_ret2;exact QI hO.out rfl (Ad _ _)
 by_cases h3:N < a
 ·go_enter func53,ntmps53;go_wp2_with fail;refine(Qu H).mono ?_;rw[HN.out];rintro e w1⟨rfl,rfl⟩;go_wp2_with fail;go_ret2;exact QI hO.out rfl (Ad _ _)
 ·have h4:N -a < n:=by omega
  go_enter func53,ntmps53;go_wp2_with fail;refine(Qu H).mono ?_;rw[HN.out];rintro e w1⟨rfl,rfl⟩;go_wp2_with fail;refine(Qu H).mono ?_;rw[HN.out];rintro e w1⟨rfl,rfl⟩;go_wp2_with fail;go_ret2;exact QI hO.out rfl (Ad _ _)
theorem ahl{w:World}{b:Nat}{D:Dsk}{fp:Nat→Prop}(h:AU w b D fp)(a n:Int)(ha: -9223372036854775808≤a∧a≤9223372036854775807)(hn: -9223372036854775808≤n∧n≤9223372036854775807)
  (hok:¬ (n < 2∨a < 0∨(D.n:Int) < a∨(D.n:Int) -a < n))(hd:D.down=true):
  Calls prog 53 #[.pointer (some ⟨b,0,none⟩),.int .i64 a,.int .i64 n] w fun e w'=>Ps w b D a n e w':=by
 have hO:Hid (D.openW a n=(none,40)):=Hi (by unfold Dsk.openW;rw[Aa hok,Ac hd]);have hN:=h.fine.n2;have H:=Hi h;obtain⟨m,lv,hI,_⟩:=h;have HI:=Hi hI;have HD:=Hi hd;clear hI hd;generalize Nf:(D.n:Int)=N at*;have HN:=Hi Nf;have hN2:0≤N∧N≤16384:=by omega
 clear Nf hN;have h1:2≤n:=by omega
 have h2:0≤a:=by omega
 have h3:a≤N:=by omega
 have h4:n≤N -a:=by omega
 clear hok;go_enter func53,ntmps53;go_wp2_with fail;refine(Qu H).mono ?_;rw[HN.out];rintro e w1⟨rfl,rfl⟩;go_wp2_with fail;refine(Qu H).mono ?_;rw[HN.out];rintro e w1⟨rfl,rfl⟩;go_wp2_with fail;refine(afY HI a n HD).mono ?_;rintro e w1⟨rfl,rfl⟩;go_wp2_with fail;go_ret2;exact QI hO.out rfl (Ad _ _)
theorem walOpen_in{w:World}{b:Nat}{D:Dsk}{fp:Nat→Prop}(h:AU w b D fp)(a n:Nat)(h2:2≤n)(han:a+n≤D.n)(hd:D.down=false):
  Calls prog 53 #[.pointer (some ⟨b,0,none⟩),.int .i64 (a:Int),.int .i64 (n:Int)] w fun e w'=>Ps w b D a n e w':=by
 have hO:D.openW a n=match FV (Dsk.text D.now a n) n with|none=>(none,50)|some (g,u,l)=>(some ⟨a,n,g,u,l,0⟩,0):=by
  unfold Dsk.openW;rw[Aa (by omega),Aa (by simp[hd])];simp
 have hN:=h.fine.n2;have hlen:(Dsk.text D.now a n).length=64*n:=Dsk.Qq (fun i h1 h2=>h.fine.now i (by omega));have H:=Hi h;obtain⟨m,lv,hI,_⟩:=h;have hrd:=Z9 hI a n hd (by simp[Dsk.inside];omega);have Fa:=Hi hrd;clear hI hd hrd;generalize Nf:D.n=N at*;have HN:=Hi Nf;generalize Dsk.text D.now a n=s at*;clear Nf;have aqS:∀ W,(Instr.slice 9 (.string (bs s)) none (some (.int .i64 64)) none).run prog W=.ok (.string (bs (s.take 64))) W:=fun W=>Ji prog W 9 underlying9 s 64 (by omega)
 have aqT:∀ W,(Instr.slice 9 (.string (bs s)) (some (.int .i64 64)) none none).run prog W=.ok (.string (bs (s.drop 64))) W:=fun W=>Ik prog W 9 underlying9 s 64 (by omega)
 have wG:(s.take 64).length=64:=by rw[Aw];omega
 have ahm:=Hi wG;have HO:=Hi hO;have atv:=Hi hlen;clear wG hO hlen;go_enter func53,ntmps53;go_wp2_with fail;refine(Qu H).mono ?_;rw[HN.out];rintro e w1⟨rfl,rfl⟩;go_wp2_with fail;refine(Qu H).mono ?_;rw[HN.out];rintro e w1⟨rfl,rfl⟩;go_wp2_with fail;refine Fa.mono ?_;rintro e w1⟨rfl,hb⟩;have HB:=Hi hb;clear hb;go_wp2_with fail
 go_quiet (fail)
 go_wp2_with fail;refine(gY [0] _ (by simp)).mono ?_;rintro e w2⟨rfl,hb2⟩;have hx2:w1.heap.size < w2.heap.size:=Di (by show w1.heap.size < (w1.alloc _).heap.size;rw[Ai];omega) hb2.size;have hB2:Bw w w2:=(HB.trans ((((Ad w1.heap.size w1).alloc (Ab _) _).trans ((DK _ _).mono (by rw[Ai];omega))).mono HB.size)).trans (hb2.mono (by have:=HB.size;show w.heap.size≤(w1.alloc _).heap.size;rw[Ai];omega));have hw2:Bq w2 w1.heap.size b (.slice none 0 0) ⟨a,n,0,0,[],0⟩:=⟨(hb2.block w1.heap.size (by show w1.heap.size < (w1.alloc _).heap.size;rw[Ai];omega)).trans (Aq w1 _),GY.none _,by show 0 < 18446744073709551616;decide,by show 0+1≤n;omega,by show a+n≤16384;omega⟩;have HX:=Hi (show w.heap.size≤w1.heap.size from HB.size);have HB2:=Hi hB2;have HW2:=Hi hw2;clear hb2 hB2 hw2 hx2;have Lu:FV s n=if s.take 64=pad [0] then some (0,0,[]) else
  if s.take 64=Wal.mark (Crc.val (((s.take 64).take 12).drop 4)) (Crc.val (((s.take 64).take 16).drop 12))∧Crc.val (((s.take 64).take 16).drop 12)≤n -1 then
   (FO (Crc.val (((s.take 64).take 16).drop 12)) ((s.drop 64).take (64*Crc.val (((s.take 64).take 16).drop 12)))).map fun l=>(Crc.val (((s.take 64).take 12).drop 4),Crc.val (((s.take 64).take 16).drop 12),l)
  else none:=rfl
 have hdl:(s.drop 64).length=64*(n -1):=by rw[BA,atv.out];omega
 have Nn:=Hi hdl;generalize s.take 64=f at*;generalize s.drop 64=r at*;clear hdl;by_cases hz:f=pad [0]
 ·rw[Ac hz] at Lu;have hbz:(f == pad [0])=true:=by simp[hz]
  have Lv:=Hi Lu;clear Lu hz;go_wp2_with fail;go_ret2;refine wF (L:=⟨a,n,0,0,[],0⟩) (k:=0) (by rw[HO.out,Lv.out]) rfl HW2 HB2 (fun q hq=>?_);rcases hq with rfl|hq
  ·exact HX.out
  ·simp[Value.ownBlock] at hq
 ·rw[Aa hz] at Lu;have hbz:(f == pad [0])=false:=by simp[hz]
  have hfl:=ahm.out;have aqU:∀ W,(Instr.slice 9 (.string (bs f)) (some (.int .i64 4)) (some (.int .i64 12)) none).run prog W=.ok (.string (bs ((f.take 12).drop 4))) W:=fun W=>Um prog W 9 underlying9 f 4 12 (by omega) (by omega)
  have aqV:∀ W,(Instr.slice 9 (.string (bs f)) (some (.int .i64 12)) (some (.int .i64 16)) none).run prog W=.ok (.string (bs ((f.take 16).drop 12))) W:=fun W=>Um prog W 9 underlying9 f 12 16 (by omega) (by omega)
  have l1:((f.take 12).drop 4).length=8:=by rw[BA,Aw];omega
  have l2:((f.take 16).drop 12).length=4:=by rw[BA,Aw];omega
  have g1:=fun(W:World)=>QB ((f.take 12).drop 4) W (by omega) (by omega)
  have g2:=fun(W:World)=>QB ((f.take 16).drop 12) W (by omega) (by omega)
  have v1:=Crc.Gg ((f.take 12).drop 4);have v2:=Crc.Gg ((f.take 16).drop 12);rw[l1] at v1;rw[l2] at v2;generalize Crc.val ((f.take 12).drop 4)=gen at*;generalize Crc.val ((f.take 16).drop 12)=used at*;have wH:gen < 18446744073709551616:=v1;have iK:used < 4294967296:=v2;have Fx:=Hi g1;have HG2:=Hi g2;have ZE:=Hi wH;have hwn:IntKind.u64.wrap ((n:Int) -1)=(n:Int) -1:=IntWalk.u64_in _ (by omega);clear hz hfl l1 l2 g1 g2 v1 v2 wH;by_cases hmk:f=Wal.mark gen used
  ·have KE:(f == Wal.mark gen used)=true:=(by rw[hmk];simp);by_cases hun:used≤n -1
   ·rw[Ac ⟨hmk,hun⟩] at Lu;have hui:(used:Int)≤(n:Int) -1:=(by omega);have Lv:=Hi Lu;have Jk:=Hi hmk;obtain⟨d0,d1,d2,d3,d4,d5,d6,df⟩:=HW2.cells;clear Lu hmk;go_wp2_with fail;refine(Fx _).mono ?_;rintro e w3⟨rfl,rfl⟩;go_wp2_with fail;refine(HG2 _).mono ?_;rintro e w3⟨rfl,rfl⟩;go_wp2_with fail;refine(WB gen used _ ZE iK).mono ?_;rintro e w3⟨rfl,hb3⟩;have HW3:=Hi (HW2.below hb3);have HB3:=Hi (HB2.trans (hb3.mono HB2.size));clear hb3 d0 d1 d2 d3 d4 d5 d6 df;obtain⟨d0,d1,d2,d3,d4,d5,d6,df⟩:=HW3.cells;have wI:=df 0;have ZF:=df 1;have hwu:(64:Int)*(used:Int)≤640000000:=(by omega);have hrl:=Nn.out;have hcr:∀ W,(Instr.slice 9 (.string (bs r)) none (some (.int .i64 (64*(used:Int)))) none).run prog W=.ok (.string (bs (r.take (64*used)))) W:=fun W=>by
     have:=Ji prog W 9 underlying9 r (64*used) (by omega);rw[Int.natCast_mul] at this;exact this
    have hw4:Bq ((w3.setCell ⟨w1.heap.size,0,none⟩ (.int .u64 (gen:Int))).setCell ⟨w1.heap.size,1,none⟩ (.int .i64 (used:Int))) w1.heap.size b (.slice none 0 0) ⟨a,n,gen,used,[],0⟩:=by
     have e1:=Bh w3 w1.heap.size 0 _ _ (.int .u64 (gen:Int)) HW3.struct;have e2:=Bh _ w1.heap.size 1 _ _ (.int .i64 (used:Int)) e1;exact⟨e2,GY.none _,ZE,by show used+1≤n;omega,HW3.n⟩
    have Np:=Hi hw4;have Ay:=Hi ((HB3.setCell (p:=⟨w1.heap.size,0,none⟩) HX (.int .u64 (gen:Int))).setCell (p:=⟨w1.heap.size,1,none⟩) HX (.int .i64 (used:Int)));have htl:(r.take (64*used)).length=64*used:=(by rw[Aw];omega);have IV:=Hi htl;clear df hw4 htl;go_wp2_with fail
    go_loopw [12] (fun rv wr=>∃ (k:Nat) (S:List UInt8) (l:List (List (List UInt8))) (gv:Value),rv=.string (bs S)∧S.length % 64=0∧S.length≤64*k∧S.length≤10000000∧Bq wr w1.heap.size b gv ⟨a,n,gen,used,l,0⟩∧Bw w wr∧(∀ q,Ba w1.heap.size gv q→w.heap.size≤q)∧FO used (r.take (64*used))=(FO k S).map (l++ ·)∧l.length+k=used) (fun rv _=>match rv with| .string s=>s.size|_=>0)
    case atStart=>
     refine⟨used,r.take (64*used),[],.slice none 0 0,rfl,by rw[IV.out];omega,by rw[IV.out];omega,by rw[IV.out];omega,Np,Ay,fun q hq=>?_,by simp,by simp⟩;rcases hq with rfl|hq
     ·exact HX.out
     ·simp[Value.ownBlock] at hq
    case round=>
     obtain⟨k,S,l,gv,rfl,aho,hSk,hSb,wJ,hb,avn,hrs,hlk⟩:=hrel;have wK:=Hi hlk;clear hlk;have wL:=Hi wJ;have QJ:=Hi hb;have iL:=Hi avn;have Dn:=Hi hrs;clear wJ hb avn hrs HW2 HW3 Np HB2 HB3 Ay d0 d1 d2 d3 d4 d5 d6 wI ZF;by_cases hS:S=[]
     ·subst hS;go_wp2_with fail;go_ret2;refine wF (L:=⟨a,n,gen,used,l,0⟩) (k:=0) ?_ rfl wL QJ iL.out;rw[HO.out,Lv.out,Dn.out,sW];simp
     ·have hne:S.isEmpty=false:=by
       cases S with
       |nil=>exact absurd rfl hS
       |cons=>rfl
      have GV:=Hi hS;clear hS;go_wp2_with fail;refine(agI S _ hSb aho).mono ?_;intro e w5 hp;unfold Uu at hp;have hkp:0 < S.length:=List.length_pos_iff.2 GV.out;obtain⟨k',rfl⟩:∃ k',k=k'+1:=⟨k -1,by omega⟩;cases hnx:GQ S with
      |none=>
       rw[hnx] at hp;obtain⟨rfl,hb5⟩:=hp;have BG:=Hi (QJ.trans (hb5.mono QJ.size));have hno:Hid (FO used (r.take (64*used))=none):=Hi (afC GV Dn hnx);clear hb5 hnx;go_wp2_with fail;go_ret2;exact QI (by rw[HO.out,Lv.out,hno.out];rfl) rfl BG.out
      |some pr=>
       obtain⟨t,m⟩:=pr;rw[hnx] at hp;obtain⟨lv,rfl,ast,hb5,_⟩:=hp;obtain⟨hm1,hm2,Od⟩:=afA hnx;have BG:=Hi (QJ.trans (hb5.mono QJ.size));have GZ:=Hi (wL.below hb5);obtain⟨qa,ca,rfl,_⟩:=Zo ast;have wM:=Hi (Gj.BU ast);have HST:=Hi (afB GV Dn hnx);have hux:=QJ.size;obtain⟨cs,hc1,hc2,hc3,hc4⟩:=GZ.groups;obtain⟨qg,cg,rfl⟩:=AA hc1;have QK:=Hi hc1;have JI:=Hi hc2;have QL:=Hi hc3;have iM:=Hi hc4;obtain⟨i0,hi0,hz0,hz1,hz2⟩:=Cz iJ;obtain⟨d0,d1,d2,d3,d4,d5,d6,df⟩:=GZ.cells;have Nq:=df 5;have hll:l.length≤16384:=(by have:=wK.out;omega);have k5:=fun(ob:Obj)=>BD ((((Ad w5.heap.size w5).alloc (Ab _) ob).cell (p:=⟨w1.heap.size,5,none⟩) (GZ.lt _ (.inl rfl))).trans d5) ((((Ad w5.heap.size w5).alloc (Ab _) ob).frozen (p:=⟨w1.heap.size,5,none⟩) (GZ.lt _ (.inl rfl))).trans Nq)
       have ahp:∀ W,(Instr.slice 9 (.string (bs S)) (some (.int .i64 (m:Int))) none none).run prog W=.ok (.string (bs (S.drop m))) W:=fun W=>Ik prog W 9 underlying9 S m Od
       have hsl:=GZ.ne;clear hc1 hc2 hc3 hc4 ast hb5 hnx d0 d1 d2 d3 d4 d6 df
       go_wp2_with (
        at_builtin
        refine wpList_append_own_at _ rfl _ _ _ rfl 0 27 i0 _ 1 24 underlying128 hi0 hz0 hz1 hz2 rfl (by omega) (.slice qg l.length cg) l.length cs rfl (QK.alloc _) ⟨w5.heap.size,0,none⟩ 1 1 [.slice qa t.length ca] rfl rfl (World.news_of_block (cs:=#[.slice qa t.length ca]) (t:=27) (fr:=(0,0)) (Aq w5 _)) (fun u hu=>by rw[DT] at hu;subst hu;exact wM.one) (by unfold maxLen;omega) (by omega) (Ar _) ?_;intro v' w6 hown asx _ hat;have iN:=Hi (GZ.pushed wM JI QL iM ((Ad w5.heap.size w5).alloc (Ab _) _) asx hown hat);obtain⟨qv,cv,rfl⟩:=AA hown;have c6:=(asx.cell_far ⟨w1.heap.size,5,none⟩ (by have:=GZ.lt _ (.inl rfl);show w1.heap.size < (w5.alloc _).heap.size;rw[Ai];omega) (Ne.symm hsl)).trans (k5 _).1;have f6:=(asx.frozen_far ⟨w1.heap.size,5,none⟩ (by have:=GZ.lt _ (.inl rfl);show w1.heap.size < (w5.alloc _).heap.size;rw[Ai];omega) (Ne.symm hsl)).trans (k5 _).2;clear hown asx hat k5 d5 Nq)
       refine⟨⟨k',S.drop m,l++[t],_,rfl,by rw[BA];omega,by rw[BA];omega,by rw[BA];omega,iN.1,Bu BG iN.2.1 iL BG.size,fun q hq=>?_,HST,by have:=wK.out;rw[Aj,Ii];omega⟩,?_⟩
       ·rcases iN.2.2 q hq with h1|h1
        ·exact iL q h1
        ·exact Ah BG.size h1
       ·show(S.drop m).length < S.length
        rw[BA];omega
   ·rw[Aa (fun h=>hun h.2)] at Lu;have hui:(n:Int) -1 < (used:Int):=(by omega);have Lv:=Hi Lu;clear Lu hmk;go_wp2_with fail;refine(Fx _).mono ?_;rintro e w3⟨rfl,rfl⟩;go_wp2_with fail;refine(HG2 _).mono ?_;rintro e w3⟨rfl,rfl⟩;go_wp2_with fail;refine(WB gen used _ ZE iK).mono ?_;rintro e w3⟨rfl,hb3⟩;have HB3:=Hi (HB2.trans (hb3.mono HB2.size));clear hb3;go_wp2_with fail;go_ret2;exact QI (by rw[HO.out,Lv.out]) rfl HB3.out
  ·rw[Aa (fun h=>hmk h.1)] at Lu;have KE:(f == Wal.mark gen used)=false:=(by simp[hmk]);have Lv:=Hi Lu;clear Lu hmk;go_wp2_with fail;refine(Fx _).mono ?_;rintro e w3⟨rfl,rfl⟩;go_wp2_with fail;refine(HG2 _).mono ?_;rintro e w3⟨rfl,rfl⟩;go_wp2_with fail;refine(WB gen used _ ZE iK).mono ?_;rintro e w3⟨rfl,hb3⟩;have HB3:=Hi (HB2.trans (hb3.mono HB2.size));clear hb3;go_wp2_with fail;go_ret2;exact QI (by rw[HO.out,Lv.out]) rfl HB3.out
theorem ahq{w:World}{b:Nat}{D:Dsk}{fp:Nat→Prop}(h:AU w b D fp)(a n:Int)(ha: -9223372036854775808≤a∧a≤9223372036854775807)(hn: -9223372036854775808≤n∧n≤9223372036854775807):
  Calls prog 53 #[.pointer (some ⟨b,0,none⟩),.int .i64 a,.int .i64 n] w fun e w'=>Ps w b D a n e w':=by
 by_cases av2:n < 2∨a < 0∨(D.n:Int) < a∨(D.n:Int) -a < n
 ·exact ahj h a n ha hn av2
 ·cases hd:D.down with
  |true=>exact ahl h a n ha hn av2 hd
  |false=>
   obtain⟨a,rfl⟩:∃ k:Nat,a=(k:Int):=⟨a.toNat,by omega⟩;obtain⟨n,rfl⟩:∃ k:Nat,n=(k:Int):=⟨n.toNat,by omega⟩;exact walOpen_in h a n (by omega) (by omega) hd
end
section
open Go.RowKit Go.Maps
open Wal
theorem WL(w:World)(p:Option Addr)(n c:Nat):(binOp .eql 27 (.slice p n c) (.slice none 0 0)).run prog w=.ok (.bool p.isNone) w:=by
 have h:∀ d,(Op.equalIn (d+1) 27 (.slice p n c) (.slice none 0 0)).run prog w=.ok p.isNone w:=fun d=>by
  cases p<;>simp[Op.equalIn,ER underlying27]
 simp only[binOp];simp[show Op.equal 27 (.slice p n c) (.slice none 0 0)=Op.equalIn (9999+1) 27 (.slice p n c) (.slice none 0 0) from rfl,h 9999]
theorem iO(w:World):(w.alloc (.cells #[] 9)).ownsRow 0 9 1 (.slice (some ⟨w.heap.size,0,none⟩) 0 0) 0 []:=
 ⟨rfl,.inr ⟨w.heap.size,0,#[],rfl,Ar _,Aq w _,Ab _,Ar _,rfl,rfl⟩⟩
theorem Nr:(prog.info? 9).map (fun i=>(i.zero,i.size,i.bytes))=some (some (.string ByteArray.empty),1,16):=by kernel_rfl
theorem WM:strCells []=[]:=by unfold strCells;rfl
def ahr(w:World)(l:List (List UInt8))(e:Ending)(w':World):Prop:=
 ∃ v',e=.returned v'∧w'.ownsRow 0 9 1 v' l.length (strCells l)∧Bw w w'∧∀ g,v'.ownBlock=some g→w.heap.size≤g
theorem wN(w:World)(a:Option Addr)(cap:Nat)(l:List (List UInt8))(h:BB w a l)(hlen:l.length≤1000000000):
  Calls prog 114 #[.slice a l.length cap] w fun e w'=>ahr w l e w':=by
 have hq:=fun w=>WL w a l.length cap
 cases a with
 |none=>
  have e:l=[]:=by
   cases l with
   |nil=>rfl
   |cons x l=>obtain⟨p,hp,_⟩:=h 0 (by simp);cases hp
  subst e;have hq0:=fun w=>WL w none 0 cap
  clear h hq;go_enter func114,ntmps114;go_wp2_with fail;go_ret;refine⟨_,rfl,?_,Ad _ _,fun g e=>by simp[Value.ownBlock] at e⟩;rw[WM];exact DJ _ _ _ _
 |some p=>
  have hc:∀ j u,(strCells l)[j]?=some u→w.cell? (p.add j)=some u:=fun j u hj=>by
   have hjl:j < l.length:=by
    have:=(Ql.1 hj).1;rwa[strCells_length] at this
   obtain⟨p',hp',atE⟩:=h j hjl;cases hp';rw[QA l j hjl] at hj;rw[atE,←hj]
  have HC:=Hi hc;have hll:=strCells_length l;have JF:=Hi hll;obtain⟨i0,hi0,hz0,hz1,hz2⟩:=Cz Nr;have hsz:=Ai w (.cells #[] 9);clear h hc hll;go_enter func114,ntmps114;go_wp2_with (at_builtin;refine wpList_append_own_at _ rfl _ _ _ rfl 0 9 i0 _ 1 16 underlying27 hi0 hz0 hz1 hz2 rfl (by omega) _ 0 [] rfl (iO w) p l.length cap (strCells l) rfl (by rw[JF.out];omega) (fun j u hj=>(((Ad w.heap.size w).alloc (Ab _) _).cell (Bz (HC j u hj))).trans (HC j u hj)) (gL l) (by unfold maxLen;omega) (by omega) (Ar _) ?_;intro v' w1 hown asx _ hat);go_ret;refine⟨v',rfl,by rw[Fs,DI] at hown;exact hown,((Ad w.heap.size w).alloc (Ab _) _).grown asx (by omega) (fun k e=>by have e':some w.heap.size=some k:=e;have:=EH e';omega),fun k hk=>?_⟩;rcases hat with hat|hat
  ·rw[hat] at hk;have e':some w.heap.size=some k:=hk;have:=EH e';omega
  ·rw[hat] at hk;have:=EH hk;omega
theorem GY.pushed{w w1 w2:World}{gv lv v':Value}{L:List (List (List UInt8))}{l:List (List UInt8)}{cs:List Value}{n:Nat}(hn:n=L.length)(h:w.ownsRow 0 27 1 gv n cs)(hl:Gj w lv l)
  (hcl:cs.length=L.length)(hc1:∀ u∈cs,u.oneCell'=true)(hcr:∀ i (h:i < L.length) (h':i < cs.length),Gj w cs[i] L[i])
  (hb:Bw w w1)(asx:w1.grownBy w2 gv.ownBlock)(hown:w2.ownsRow 0 27 1 v' (n+1) (cs++[lv])):
  GY w2 v' (L++[l]):=by
 subst hn;have u1:A7 (fun k=>gv.ownBlock=some k) w w2:=(A7.of_below hb).trans (A7.of_grownBy (F:=fun k=>gv.ownBlock=some k) asx (fun k e=>e)) (fun k hk=>.inl hk);have hgb:∀ k,Ap w k 9→¬ gv.ownBlock=some k:=fun k hk e=>Ap.ne hk (Bi h e) (by decide) rfl
 refine⟨cs++[lv],by rw[Aj];exact hown,by simp[hcl],fun u hu=>?_,fun i hi hi'=>?_⟩
 ·rcases Ee.1 hu with hu|hu
  ·exact hc1 u hu
  ·rw[DT] at hu;subst hu;exact hl.one
 ·by_cases hlt:i < L.length
  ·rw[O3 (by omega),O3 hlt];exact(hcr i hlt (by omega)).upd u1 hgb
  ·have hi2:=hi;rw[Aj,Ii] at hi2;have e:i=L.length:=(by omega);rw[Qm (by omega),Qm (by omega)];simp only[List.getElem_singleton];exact hl.upd u1 hgb
def wO(w:World)(L:List (List (List UInt8)))(e:Ending)(w':World):Prop:=
 ∃ v',e=.returned v'∧GY w' v' L∧Bw w w'∧∀ g,v'.ownBlock=some g→w.heap.size≤g
theorem ahs(w:World)(gv:Value)(L:List (List (List UInt8)))(h:GY w gv L)(hlen:L.length≤1000000)(asD:∀ l∈L,l.length≤1000000000):
  Calls prog 130 #[gv] w fun e w'=>wO w L e w':=by
 obtain⟨cs,h1,h2,h3,h4⟩:=h;obtain⟨qg,cg,rfl⟩:=AA h1;have atE:∀ k,(hk:k < L.length)→∃ g,qg=some ⟨g,0,none⟩∧∀ v,cs[k]?=some v→w.cell? ⟨g,k,none⟩=some v:=fun k hk=>by
  rcases h1.2 with⟨e1,e2⟩|⟨g,cap,cur,e1,_⟩
  ·omega
  ·injection e1 with e1 e2 e3
   subst e1;refine⟨g,rfl,fun v hv=>?_⟩;have:=h1.cells (g:=g) rfl k v hv;rwa[add_plain] at this
 have aht:=Hi atE;have H1:=Hi h1;have H2:=Hi h2;have H3:=Hi h3;have H4:=Hi h4;have Eh:=Hi asD;clear atE h1 h2 h3 h4 asD;go_enter func130,ntmps130;go_wp2_with fail
 go_loopw [2,7] (fun ov i wr=>∃ (k:Nat),k≤L.length∧i=.int .i64 k∧GY wr ov (L.take k)∧Bw w wr∧∀ g,ov.ownBlock=some g→w.heap.size≤g) (fun _ i _=>L.length -(intOf i).toNat)
 case atStart=>exact⟨0,Ar _,rfl,GY.none _,Ad _ _,fun g e=>by simp[Value.ownBlock] at e⟩
 case round=>
  obtain⟨k,hk,rfl,hg,hb,hn⟩:=hrel;have HB:=Hi hb;have HN:=Hi hn;by_cases hlt:k < L.length
  ·obtain⟨g,rfl,hc⟩:=aht k hlt;have hck:k < cs.length:=(by rw[H2.out];exact hlt);have ast:=H4 k hlt hck;have hc:=hc cs[k] (BP hck);have hc':wr.cell? ⟨g,k,none⟩=some cs[k]:=(hb.cell (Bz hc)).trans hc;have awk:Gj wr cs[k] L[k]:=ast.upd (ub hb) (fun _ _ f=>f);obtain⟨ar,cr,er,htx⟩:=awk.texts;rw[er] at hc';have S9:=Hi htx;obtain⟨cs',g1,g2,g3,g4⟩:=hg;have htk:(L.take k).length=k:=(by rw[Aw];omega);rw[htk] at g1;have G1:=Hi g1;have G2:=Hi g2;have G3:=Hi g3;have G4:=Hi g4;obtain⟨qo,co,rfl⟩:=AA g1;have hlk:L[k].length≤1000000000:=Eh _ (BF hlt);have Bo:=Hi htk;have O9:Hid (L.take (k+1)=L.take k++[L[k]]):=Hi (BS hlt);generalize L[k]=l at*;obtain⟨i0,hi0,hz0,hz1,hz2⟩:=Cz iJ;clear hb hn hc ast awk htx g1 g2 g3 g4 htk er;go_wp2_with fail;refine(wN wr ar cr l S9 hlk).mono ?_;rintro e w1⟨lv,rfl,aut,hb1,hn1⟩;have HB1:=Hi (HB.trans (hb1.mono HB.size));have HR1:=Hi (Gj.BU aut);obtain⟨ql,cl,rfl⟩:=AA aut;have u1:=ub hb1;have wP:=Hi (AL G1 u1 (fun _ _ f=>f));have G4':=Hi (fun i (h:i < (L.take k).length) (h':i < cs'.length)=>(G4 i h h').upd u1 (fun _ _ f=>f));clear aut hb1 hn1 u1
   go_wp2_with (
    at_builtin
    refine wpList_append_own_at _ rfl _ _ _ rfl 0 27 i0 _ 1 24 underlying128 hi0 hz0 hz1 hz2 rfl (by omega) (.slice qo k co) k cs' rfl (wP.alloc _) ⟨w1.heap.size,0,none⟩ 1 1 [.slice ql l.length cl] rfl rfl (World.news_of_block (cs:=#[.slice ql l.length cl]) (t:=27) (fr:=(0,0)) (Aq w1 _)) (fun u hu=>by rw[DT] at hu;subst hu;exact HR1.one) (by unfold maxLen;omega) (by omega) (Ar _) ?_;intro v' w2 hown asx _ hat;have HG2:=Hi (GY.pushed Bo.symm wP HR1 G2 G3 G4' ((Ad w1.heap.size w1).alloc (Ab _) _) asx hown);have HB2:=Hi ((HB1.alloc HB1.size _).grown asx (Ah HB1.size (by rw[Ai];omega)) HN)
    have Jh:=Hi (show ∀ g,v'.ownBlock=some g→w.heap.size≤g from fun g hg=>by
     rcases hat with hat|hat
     ·rw[hat] at hg;exact HN g hg
     ·rw[hat] at hg;have:=EH hg;rw[Ai] at this;have:=HB1.size;omega)
    clear hown asx hat)
   go_roundw
   case rel=>exact⟨k+1,by omega,by go_num,by rw[O9.out];exact HG2.out,HB2,Jh⟩
   case measure=>simp[intOf];omega
  ·obtain rfl:k=L.length:=(by omega);have HG:=Hi hg;clear hg hb hn;go_wp2_with fail;go_ret;exact⟨_,rfl,by have:=HG.out;rwa[ET (Ab _)] at this,HB,HN⟩
section
variable {w:World}{x b:Nat}{gv:Value}{L:AO}
theorem wQ(h:Bq w x b gv L):Calls prog 54 #[.pointer (some ⟨x,0,none⟩)] w fun e w'=>e=.returned (.int .u64 (L.gen:Int))∧w=w':=by
 obtain⟨c0,c1,c2,c3,c4,c5,c6,cf⟩:=h.cells;clear h;go_enter func54,ntmps54;go_wp2_with fail;go_ret;exact⟨rfl,rfl⟩
theorem Uw(h:Bq w x b gv L):Calls prog 131 #[.pointer (some ⟨x,0,none⟩)] w fun e w'=>e=.returned (.int .i64 L.fault)∧w=w':=by
 obtain⟨c0,c1,c2,c3,c4,c5,c6,cf⟩:=h.cells;clear h;go_enter func131,ntmps131;go_wp2_with fail;go_ret;exact⟨rfl,rfl⟩
theorem ahv(h:Bq w x b gv L):Calls prog 99 #[.pointer (some ⟨x,0,none⟩)] w fun e w'=>e=.returned (.int .i64 ((L.n -1 -L.used:Nat):Int))∧Bw w w':=by
 obtain⟨c0,c1,c2,c3,c4,c5,c6,cf⟩:=h.cells;have g1:=h.used;have g2:=h.n;have hv:((L.n -1 -L.used:Nat):Int)=(L.n:Int) -1 -(L.used:Int):=by omega
 have HV:=Hi hv;have e1:IntKind.i64.wrap ((L.n:Int) -1)=(L.n:Int) -1:=CZ _ (by omega);have e2:IntKind.i64.wrap ((L.n:Int) -1 -(L.used:Int))=(L.n:Int) -1 -(L.used:Int):=CZ _ (by omega);clear h hv;go_enter func99,ntmps99;go_wp2_with fail
 go_quiet (fail)
 go_wp2_with fail;go_ret;rw[HV.out];exact⟨rfl,DK _ _⟩
theorem ahw(h:Bq w x b gv L)(hlen:L.groups.length≤1000000)(asD:∀ l∈L.groups,l.length≤1000000000):Calls prog 55 #[.pointer (some ⟨x,0,none⟩)] w fun e w'=>wO w L.groups e w':=by
 obtain⟨c0,c1,c2,c3,c4,c5,c6,cf⟩:=h.cells;have HG:=Hi h.groups;clear h;go_enter func55,ntmps55;go_wp2_with fail;refine(ahs w gv L.groups HG hlen asD).mono ?_;rintro e w1⟨v',rfl,g1,g2,g3⟩;have G:=Hi (BD g1 (BD g2 g3));clear g1 g2 g3;go_wp2_with fail;go_ret;exact⟨v',rfl,G.1,G.2.1,G.2.2⟩
end
theorem iP(l:List (List UInt8)):(Gi l).1.length≤rowLen l+68:=by
 unfold Gi;cases h:EU l with
 |none=>simp
 |some s=>
  obtain⟨a,ha,rfl⟩:=Zr h;have h1:=Zn ha;have h2:=Md (Crc.le 4 a.length++a);rw[Aj,Crc.Be] at h2
  show(pad _).length≤_
  omega
theorem ahx(l:List (List UInt8))(a:Option Addr)(cap:Nat)(w:World)(hl:BB w a l)(hlen:l.length≤maxLen)(asV:rowLen l≤10000000):
  Calls prog 98 #[.slice a l.length cap] w fun e w'=>e=.returned (.tuple #[.int .i64 (((Gi l).1.length / 64:Nat):Int),.int .i64 (Gi l).2])∧Bw w w':=by
 have HL:=Hi hl;have atv:=Hi hlen;clear hl hlen;go_enter func98,ntmps98;go_wp2_with fail;obtain⟨r1,r2,hr⟩:∃ r1 r2,Gi l=(r1,r2):=⟨_,_,rfl⟩;have aqZ:r1.length≤10000068:=by have:=iP l;rw[hr] at this;have h2:r1.length≤rowLen l+68:=this;omega
 have HR:=Hi hr;clear hr;refine(Ut l a cap w HL atv asV).mono ?_;rw[HR.out];rintro e w1⟨rfl,hb⟩;have HB:=Hi hb;clear hb;have hv:((r1.length / 64:Nat):Int)=(r1.length:Int) / 64:=by omega
 have HV:=Hi hv;clear hv;go_wp2_with fail;go_ret2;rw[HR.out];refine⟨?_,HB⟩
 show _=Ending.returned (.tuple #[.int .i64 ((r1.length / 64:Nat):Int),.int .i64 r2])
 rw[HV.out];rfl
end
end Go.Proofs.YtmbbhdebddbhoaaGreat
