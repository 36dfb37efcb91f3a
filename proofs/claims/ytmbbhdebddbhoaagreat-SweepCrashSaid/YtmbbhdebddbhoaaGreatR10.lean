/- WalOpen2 -/
import Derived.Test.YtmbbhdebddbhoaaGreatR7
set_option maxHeartbeats 4000000
set_option maxRecDepth 100000
set_option linter.all false
namespace Go.Proofs.YtmbbhdebddbhoaaGreat
open Tryz
section
open Go.RowKit Go.Maps
open Wal
def Dsk.openW(D:Dsk)(a n:Int):Option Bn×Int:=
 if n < 2∨a < 0∨(D.n:Int) < a∨(D.n:Int) -a < n then(none,2)
 else if D.down then(none,40)
 else match IV (Dsk.text D.now a.toNat n.toNat) n.toNat with
  |none=>(none,50)
  |some (g,u,l)=>(some ⟨a.toNat,n.toNat,g,u,l,0⟩,0)
def UT(w:World)(b:Nat)(D:Dsk)(a n:Int)(e:Ending)(w':World):Prop:=
 match D.openW a n with
 |(none,k)=>e=.returned (.tuple #[.pointer none,.int .i64 k])∧Bw w w'
 |(some L,k)=>∃ x gv,e=.returned (.tuple #[.pointer (some ⟨x,0,none⟩),.int .i64 k])∧BZ w' x b gv L∧Bw w w'∧∀ q,BD x gv q→w.heap.size≤q
theorem XE{w w':World}{b:Nat}{D:Dsk}{a n k:Int}{e:Ending}(h:D.openW a n=(none,k))(he:e=.returned (.tuple #[.pointer none,.int .i64 k]))(hb:Bw w w'):UT w b D a n e w':=by
 unfold UT;rw[h];exact⟨he,hb⟩
theorem alf{w w':World}{b:Nat}{D:Dsk}{a n k:Int}{L:Bn}{e:Ending}{x:Nat}{gv:Value}(h:D.openW a n=(some L,k))(he:e=.returned (.tuple #[.pointer (some ⟨x,0,none⟩),.int .i64 k]))(hw:BZ w' x b gv L)(hb:Bw w w')(hn:∀ q,BD x gv q→w.heap.size≤q):UT w b D a n e w':=by
 unfold UT;rw[h];exact⟨x,gv,he,hw,hb,hn⟩
theorem acN:(prog.info? 27).map (fun i=>(i.zero,i.size,i.bytes))=some (some (.slice none 0 0),1,24):=by kernel_rfl
theorem aAm{w:World}{b:Nat}{D:Dsk}{fp:Nat→Prop}(h:Bl w b D fp)(a n:Int)(ha: -9223372036854775808≤a∧a≤9223372036854775807)(hn: -9223372036854775808≤n∧n≤9223372036854775807)
  (Nh:n < 2∨a < 0∨(D.n:Int) < a∨(D.n:Int) -a < n):
  Calls prog 53 #[.pointer (some ⟨b,0,none⟩),.int .i64 a,.int .i64 n] w fun e w'=>UT w b D a n e w':=by
 have hO:Hid (D.openW a n=(none,2)):=Hi (by unfold Dsk.openW;rw[Ab Nh]);have hN:=h.fine.n2;have H:=Hi h;clear h;generalize Sj:(D.n:Int)=N at*;have HN:=Hi Sj;have hN2:0≤N∧N≤16384:=by omega
 clear Sj hN;by_cases h1:n < 2
 ·go_enter func53,ntmps53;go_wp2_with fail;go_ret2;exact XE hO.out rfl (Af _ _)
 by_cases h2:a < 0
 ·go_enter func53,ntmps53;go_wp2_with fail;go_ret2;exact XE hO.out rfl (Af _ _)
 by_cases h3:N < a
 ·go_enter func53,ntmps53;go_wp2_with fail;refine(XJ H).mono ?_;rw[HN.out];rintro e w1⟨rfl,rfl⟩;go_wp2_with fail;go_ret2;exact XE hO.out rfl (Af _ _)
 ·have h4:N -a < n:=by omega
  go_enter func53,ntmps53;go_wp2_with fail;refine(XJ H).mono ?_;rw[HN.out];rintro e w1⟨rfl,rfl⟩;go_wp2_with fail;refine(XJ H).mono ?_;rw[HN.out];rintro e w1⟨rfl,rfl⟩;go_wp2_with fail;go_ret2;exact XE hO.out rfl (Af _ _)
theorem aAn{w:World}{b:Nat}{D:Dsk}{fp:Nat→Prop}(h:Bl w b D fp)(a n:Int)(ha: -9223372036854775808≤a∧a≤9223372036854775807)(hn: -9223372036854775808≤n∧n≤9223372036854775807)
  (Cb:¬ (n < 2∨a < 0∨(D.n:Int) < a∨(D.n:Int) -a < n))(hd:D.down=true):
  Calls prog 53 #[.pointer (some ⟨b,0,none⟩),.int .i64 a,.int .i64 n] w fun e w'=>UT w b D a n e w':=by
 have hO:Hid (D.openW a n=(none,40)):=Hi (by unfold Dsk.openW;rw[Aa Cb,Ab hd]);have hN:=h.fine.n2;have H:=Hi h;obtain⟨m,lv,hI,_⟩:=h;have HI:=Hi hI;have HD:=Hi hd;clear hI hd;generalize Sj:(D.n:Int)=N at*;have HN:=Hi Sj;have hN2:0≤N∧N≤16384:=by omega
 clear Sj hN;have h1:2≤n:=by omega
 have h2:0≤a:=by omega
 have h3:a≤N:=by omega
 have h4:n≤N -a:=by omega
 clear Cb;go_enter func53,ntmps53;go_wp2_with fail;refine(XJ H).mono ?_;rw[HN.out];rintro e w1⟨rfl,rfl⟩;go_wp2_with fail;refine(XJ H).mono ?_;rw[HN.out];rintro e w1⟨rfl,rfl⟩;go_wp2_with fail;refine(ay0 HI a n HD).mono ?_;rintro e w1⟨rfl,rfl⟩;go_wp2_with fail;go_ret2;exact XE hO.out rfl (Af _ _)
theorem walOpen_in{w:World}{b:Nat}{D:Dsk}{fp:Nat→Prop}(h:Bl w b D fp)(a n:Nat)(h2:2≤n)(han:a+n≤D.n)(hd:D.down=false):
  Calls prog 53 #[.pointer (some ⟨b,0,none⟩),.int .i64 (a:Int),.int .i64 (n:Int)] w fun e w'=>UT w b D a n e w':=by
 have hO:D.openW a n=match IV (Dsk.text D.now a n) n with|none=>(none,50)|some (g,u,l)=>(some ⟨a,n,g,u,l,0⟩,0):=by
  unfold Dsk.openW;rw[Aa (by omega),Aa (by simp[hd])];simp
 have hN:=h.fine.n2;have hlen:(Dsk.text D.now a n).length=64*n:=Dsk.Xx (fun i h1 h2=>h.fine.now i (by omega));have H:=Hi h;obtain⟨m,lv,hI,_⟩:=h;have Oc:=tO hI a n hd (by simp[Dsk.inside];omega);have He:=Hi Oc;clear hI hd Oc;generalize Sj:D.n=N at*;have HN:=Hi Sj;generalize Dsk.text D.now a n=s at*;clear Sj;have aBB:∀ W,(Instr.slice 9 (.string (bs s)) none (some (.int .i64 64)) none).run prog W=.ok (.string (bs (s.take 64))) W:=fun W=>Ny prog W 9 underlying9 s 64 (by omega)
 have aBC:∀ W,(Instr.slice 9 (.string (bs s)) (some (.int .i64 64)) none none).run prog W=.ok (.string (bs (s.drop 64))) W:=fun W=>LQ prog W 9 underlying9 s 64 (by omega)
 have aip:(s.take 64).length=64:=by rw[AL];omega
 have aou:=Hi aip;have HO:=Hi hO;have EY:=Hi hlen;clear aip hO hlen;go_enter func53,ntmps53;go_wp2_with fail;refine(XJ H).mono ?_;rw[HN.out];rintro e w1⟨rfl,rfl⟩;go_wp2_with fail;refine(XJ H).mono ?_;rw[HN.out];rintro e w1⟨rfl,rfl⟩;go_wp2_with fail;refine He.mono ?_;rintro e w1⟨rfl,hb⟩;have HB:=Hi hb;clear hb;go_wp2_with fail
 go_quiet (fail)
 go_wp2_with fail;refine(adt [0] _ (by simp)).mono ?_;rintro e w2⟨rfl,A8⟩;have E8:w1.heap.size < w2.heap.size:=DK (by show w1.heap.size < (w1.alloc _).heap.size;rw[Aq];omega) A8.size;have WQ:Bw w w2:=(HB.trans ((((Af w1.heap.size w1).alloc (Ac _) _).trans ((F6 _ _).mono (by rw[Aq];omega))).mono HB.size)).trans (A8.mono (by have:=HB.size;show w.heap.size≤(w1.alloc _).heap.size;rw[Aq];omega));have Ns:BZ w2 w1.heap.size b (.slice none 0 0) ⟨a,n,0,0,[],0⟩:=⟨(A8.block w1.heap.size (by show w1.heap.size < (w1.alloc _).heap.size;rw[Aq];omega)).trans (AJ w1 _),JK.none _,by show 0 < 18446744073709551616;decide,by show 0+1≤n;omega,by show a+n≤16384;omega⟩;have HX:=Hi (show w.heap.size≤w1.heap.size from HB.size);have Ag:=Hi WQ;have QS:=Hi Ns;clear A8 WQ Ns E8;have Q0:IV s n=if s.take 64=pad [0] then some (0,0,[]) else
  if s.take 64=Wal.mark (Crc.val (((s.take 64).take 12).drop 4)) (Crc.val (((s.take 64).take 16).drop 12))∧Crc.val (((s.take 64).take 16).drop 12)≤n -1 then
   (Ip (Crc.val (((s.take 64).take 16).drop 12)) ((s.drop 64).take (64*Crc.val (((s.take 64).take 16).drop 12)))).map fun l=>(Crc.val (((s.take 64).take 12).drop 4),Crc.val (((s.take 64).take 16).drop 12),l)
  else none:=rfl
 have K9:(s.drop 64).length=64*(n -1):=by rw[Ce,EY.out];omega
 have RA:=Hi K9;generalize s.take 64=f at*;generalize s.drop 64=r at*;clear K9;by_cases hz:f=pad [0]
 ·rw[Ab hz] at Q0;have J9:(f == pad [0])=true:=by simp[hz]
  have PI:=Hi Q0;clear Q0 hz;go_wp2_with fail;go_ret2;refine alf (L:=⟨a,n,0,0,[],0⟩) (k:=0) (by rw[HO.out,PI.out]) rfl QS Ag (fun q hq=>?_);rcases hq with rfl|hq
  ·exact HX.out
  ·simp[Value.ownBlock] at hq
 ·rw[Aa hz] at Q0;have J9:(f == pad [0])=false:=by simp[hz]
  have Gx:=aou.out;have aBE:∀ W,(Instr.slice 9 (.string (bs f)) (some (.int .i64 4)) (some (.int .i64 12)) none).run prog W=.ok (.string (bs ((f.take 12).drop 4))) W:=fun W=>dW prog W 9 underlying9 f 4 12 (by omega) (by omega)
  have aBF:∀ W,(Instr.slice 9 (.string (bs f)) (some (.int .i64 12)) (some (.int .i64 16)) none).run prog W=.ok (.string (bs ((f.take 16).drop 12))) W:=fun W=>dW prog W 9 underlying9 f 12 16 (by omega) (by omega)
  have l1:((f.take 12).drop 4).length=8:=by rw[Ce,AL];omega
  have l2:((f.take 16).drop 12).length=4:=by rw[Ce,AL];omega
  have g1:=fun(W:World)=>WO ((f.take 12).drop 4) W (by omega) (by omega)
  have g2:=fun(W:World)=>WO ((f.take 16).drop 12) W (by omega) (by omega)
  have v1:=Crc.Ji ((f.take 12).drop 4);have v2:=Crc.Ji ((f.take 16).drop 12);rw[l1] at v1;rw[l2] at v2;generalize Crc.val ((f.take 12).drop 4)=gen at*;generalize Crc.val ((f.take 16).drop 12)=used at*;have v1':gen < 18446744073709551616:=v1;have v2':used < 4294967296:=v2;have Hw:=Hi g1;have CS:=Hi g2;have nH:=Hi v1';have hwn:IntKind.u64.wrap ((n:Int) -1)=(n:Int) -1:=IntWalk.u64_in _ (by omega);clear hz Gx l1 l2 g1 g2 v1 v2 v1';by_cases Il:f=Wal.mark gen used
  ·have OO:(f == Wal.mark gen used)=true:=(by rw[Il];simp);by_cases SL:used≤n -1
   ·rw[Ab ⟨Il,SL⟩] at Q0;have hui:(used:Int)≤(n:Int) -1:=(by omega);have PI:=Hi Q0;have MV:=Hi Il;obtain⟨d0,d1,d2,d3,d4,d5,d6,df⟩:=QS.cells;clear Q0 Il;go_wp2_with fail;refine(Hw _).mono ?_;rintro e w3⟨rfl,rfl⟩;go_wp2_with fail;refine(CS _).mono ?_;rintro e w3⟨rfl,rfl⟩;go_wp2_with fail;refine(kH gen used _ nH v2').mono ?_;rintro e w3⟨rfl,Ak⟩;have UO:=Hi (QS.below Ak);have Am:=Hi (Ag.trans (Ak.mono Ag.size));clear Ak d0 d1 d2 d3 d4 d5 d6 df;obtain⟨d0,d1,d2,d3,d4,d5,d6,df⟩:=UO.cells;have df0:=df 0;have o9:=df 1;have hwu:(64:Int)*(used:Int)≤640000000:=(by omega);have Gi:=RA.out;have TY:∀ W,(Instr.slice 9 (.string (bs r)) none (some (.int .i64 (64*(used:Int)))) none).run prog W=.ok (.string (bs (r.take (64*used)))) W:=fun W=>by
     have:=Ny prog W 9 underlying9 r (64*used) (by omega);rw[Int.natCast_mul] at this;exact this
    have JA:BZ ((w3.setCell ⟨w1.heap.size,0,none⟩ (.int .u64 (gen:Int))).setCell ⟨w1.heap.size,1,none⟩ (.int .i64 (used:Int))) w1.heap.size b (.slice none 0 0) ⟨a,n,gen,used,[],0⟩:=by
     have e1:=BU w3 w1.heap.size 0 _ _ (.int .u64 (gen:Int)) UO.struct;have e2:=BU _ w1.heap.size 1 _ _ (.int .i64 (used:Int)) e1;exact⟨e2,JK.none _,nH,by show used+1≤n;omega,UO.n⟩
    have RO:=Hi JA;have AZ:=Hi ((Am.setCell (p:=⟨w1.heap.size,0,none⟩) HX (.int .u64 (gen:Int))).setCell (p:=⟨w1.heap.size,1,none⟩) HX (.int .i64 (used:Int)));have Nr:(r.take (64*used)).length=64*used:=(by rw[AL];omega);have Mc:=Hi Nr;clear df JA Nr;go_wp2_with fail
    go_loopw [12] (fun rv wr=>∃ (k:Nat) (S:List UInt8) (l:List (List (List UInt8))) (gv:Value),rv=.string (bs S)∧S.length % 64=0∧S.length≤64*k∧S.length≤10000000∧BZ wr w1.heap.size b gv ⟨a,n,gen,used,l,0⟩∧Bw w wr∧(∀ q,BD w1.heap.size gv q→w.heap.size≤q)∧Ip used (r.take (64*used))=(Ip k S).map (l++ ·)∧l.length+k=used) (fun rv _=>match rv with| .string s=>s.size|_=>0)
    case atStart=>
     refine⟨used,r.take (64*used),[],.slice none 0 0,rfl,by rw[Mc.out];omega,by rw[Mc.out];omega,by rw[Mc.out];omega,RO,AZ,fun q hq=>?_,by simp,by simp⟩;rcases hq with rfl|hq
     ·exact HX.out
     ·simp[Value.ownBlock] at hq
    case round=>
     obtain⟨k,S,l,gv,rfl,atm,hSk,hSb,hwi,hb,O9,LG,Ik⟩:=hrel;have HLK:=Hi Ik;clear Ik;have HWI:=Hi hwi;have VY:=Hi hb;have wU:=Hi O9;have Ex:=Hi LG;clear hwi hb O9 LG QS UO RO Ag Am AZ d0 d1 d2 d3 d4 d5 d6 df0 o9;by_cases hS:S=[]
     ·subst hS;go_wp2_with fail;go_ret2;refine alf (L:=⟨a,n,gen,used,l,0⟩) (k:=0) ?_ rfl HWI VY wU.out;rw[HO.out,PI.out,Ex.out,alV];simp
     ·have hne:S.isEmpty=false:=by
       cases S with
       |nil=>exact absurd rfl hS
       |cons=>rfl
      have JS:=Hi hS;clear hS;go_wp2_with fail;refine(awS S _ hSb atm).mono ?_;intro e w5 hp;unfold aO at hp;have bV:0 < S.length:=List.length_pos_iff.2 JS.out;obtain⟨k',rfl⟩:∃ k',k=k'+1:=⟨k -1,by omega⟩;cases Gg:Ko S with
      |none=>
       rw[Gg] at hp;obtain⟨rfl,Bf⟩:=hp;have Ck:=Hi (VY.trans (Bf.mono VY.size));have CO:Hid (Ip used (r.take (64*used))=none):=Hi (axQ JS Ex Gg);clear Bf Gg;go_wp2_with fail;go_ret2;exact XE (by rw[HO.out,PI.out,CO.out];rfl) rfl Ck.out
      |some pr=>
       obtain⟨t,m⟩:=pr;rw[Gg] at hp;obtain⟨lv,rfl,Ah,Bf,_⟩:=hp;obtain⟨hm1,Mr,U7⟩:=awP Gg;have Ck:=Hi (VY.trans (Bf.mono VY.size));have JX:=Hi (HWI.below Bf);obtain⟨qa,ca,rfl,_⟩:=uD Ah;have HRK:=Hi (J5.CG Ah);have AR:=Hi (axR JS Ex Gg);have hux:=VY.size;obtain⟨cs,Gw,Gf,Js,LA⟩:=JX.groups;obtain⟨qg,cg,rfl⟩:=Bg Gw;have W9:=Hi Gw;have NG:=Hi Gf;have Wd:=Hi Js;have vG:=Hi LA;obtain⟨i0,Ba,AQ,AU,AV⟩:=Du acN;obtain⟨d0,d1,d2,d3,d4,d5,d6,df⟩:=JX.cells;have RS:=df 5;have EB:l.length≤16384:=(by have:=HLK.out;omega);have k5:=fun(ob:Obj)=>Cc ((((Af w5.heap.size w5).alloc (Ac _) ob).cell (p:=⟨w1.heap.size,5,none⟩) (JX.lt _ (.inl rfl))).trans d5) ((((Af w5.heap.size w5).alloc (Ac _) ob).frozen (p:=⟨w1.heap.size,5,none⟩) (JX.lt _ (.inl rfl))).trans RS)
       have atT:∀ W,(Instr.slice 9 (.string (bs S)) (some (.int .i64 (m:Int))) none none).run prog W=.ok (.string (bs (S.drop m))) W:=fun W=>LQ prog W 9 underlying9 S m U7
       have Cz:=JX.ne;clear Gw Gf Js LA Ah Bf Gg d0 d1 d2 d3 d4 d6 df
       go_wp2_with (
        at_builtin
        refine wpList_append_own_at _ rfl _ _ _ rfl 0 27 i0 _ 1 24 underlying128 Ba AQ AU AV rfl (by omega) (.slice qg l.length cg) l.length cs rfl (W9.alloc _) ⟨w5.heap.size,0,none⟩ 1 1 [.slice qa t.length ca] rfl rfl (World.news_of_block (cs:=#[.slice qa t.length ca]) (t:=27) (fr:=(0,0)) (AJ w5 _)) (fun u hu=>by rw[EX] at hu;subst hu;exact HRK.one) (by unfold maxLen;omega) (by omega) (AB _) ?_;intro v' w6 hown Az _ hat;have wY:=Hi (JX.pushed HRK NG Wd vG ((Af w5.heap.size w5).alloc (Ac _) _) Az hown hat);obtain⟨qv,cv,rfl⟩:=Bg hown;have c6:=(Az.cell_far ⟨w1.heap.size,5,none⟩ (by have:=JX.lt _ (.inl rfl);show w1.heap.size < (w5.alloc _).heap.size;rw[Aq];omega) (Ne.symm Cz)).trans (k5 _).1;have f6:=(Az.frozen_far ⟨w1.heap.size,5,none⟩ (by have:=JX.lt _ (.inl rfl);show w1.heap.size < (w5.alloc _).heap.size;rw[Aq];omega) (Ne.symm Cz)).trans (k5 _).2;clear hown Az hat k5 d5 RS)
       refine⟨⟨k',S.drop m,l++[t],_,rfl,by rw[Ce];omega,by rw[Ce];omega,by rw[Ce];omega,wY.1,Ca Ck wY.2.1 wU Ck.size,fun q hq=>?_,AR,by have:=HLK.out;rw[Au,Kq];omega⟩,?_⟩
       ·rcases wY.2.2 q hq with h1|h1
        ·exact wU q h1
        ·exact Ap Ck.size h1
       ·show(S.drop m).length < S.length
        rw[Ce];omega
   ·rw[Aa (fun h=>SL h.2)] at Q0;have hui:(n:Int) -1 < (used:Int):=(by omega);have PI:=Hi Q0;clear Q0 Il;go_wp2_with fail;refine(Hw _).mono ?_;rintro e w3⟨rfl,rfl⟩;go_wp2_with fail;refine(CS _).mono ?_;rintro e w3⟨rfl,rfl⟩;go_wp2_with fail;refine(kH gen used _ nH v2').mono ?_;rintro e w3⟨rfl,Ak⟩;have Am:=Hi (Ag.trans (Ak.mono Ag.size));clear Ak;go_wp2_with fail;go_ret2;exact XE (by rw[HO.out,PI.out]) rfl Am.out
  ·rw[Aa (fun h=>Il h.1)] at Q0;have OO:(f == Wal.mark gen used)=false:=(by simp[Il]);have PI:=Hi Q0;clear Q0 Il;go_wp2_with fail;refine(Hw _).mono ?_;rintro e w3⟨rfl,rfl⟩;go_wp2_with fail;refine(CS _).mono ?_;rintro e w3⟨rfl,rfl⟩;go_wp2_with fail;refine(kH gen used _ nH v2').mono ?_;rintro e w3⟨rfl,Ak⟩;have Am:=Hi (Ag.trans (Ak.mono Ag.size));clear Ak;go_wp2_with fail;go_ret2;exact XE (by rw[HO.out,PI.out]) rfl Am.out
theorem aAl{w:World}{b:Nat}{D:Dsk}{fp:Nat→Prop}(h:Bl w b D fp)(a n:Int)(ha: -9223372036854775808≤a∧a≤9223372036854775807)(hn: -9223372036854775808≤n∧n≤9223372036854775807):
  Calls prog 53 #[.pointer (some ⟨b,0,none⟩),.int .i64 a,.int .i64 n] w fun e w'=>UT w b D a n e w':=by
 by_cases Nh:n < 2∨a < 0∨(D.n:Int) < a∨(D.n:Int) -a < n
 ·exact aAm h a n ha hn Nh
 ·cases hd:D.down with
  |true=>exact aAn h a n ha hn Nh hd
  |false=>
   obtain⟨a,rfl⟩:∃ k:Nat,a=(k:Int):=⟨a.toNat,by omega⟩;obtain⟨n,rfl⟩:∃ k:Nat,n=(k:Int):=⟨n.toNat,by omega⟩;exact walOpen_in h a n (by omega) (by omega) hd
end
section
open Go.RowKit Go.Maps
open Wal
theorem iA(w:World)(p:Option Addr)(n c:Nat):(binOp .eql 27 (.slice p n c) (.slice none 0 0)).run prog w=.ok (.bool p.isNone) w:=by
 have h:∀ d,(Op.equalIn (d+1) 27 (.slice p n c) (.slice none 0 0)).run prog w=.ok p.isNone w:=fun d=>by
  cases p<;>simp[Op.equalIn,Gp underlying27]
 simp only[binOp];simp[show Op.equal 27 (.slice p n c) (.slice none 0 0)=Op.equalIn (9999+1) 27 (.slice p n c) (.slice none 0 0) from rfl,h 9999]
theorem zh(w:World):(w.alloc (.cells #[] 9)).ownsRow 0 9 1 (.slice (some ⟨w.heap.size,0,none⟩) 0 0) 0 []:=
 ⟨rfl,.inr ⟨w.heap.size,0,#[],rfl,AB _,AJ w _,Ac _,AB _,rfl,rfl⟩⟩
theorem Ta:(prog.info? 9).map (fun i=>(i.zero,i.size,i.bytes))=some (some (.string ByteArray.empty),1,16):=by kernel_rfl
theorem lu:strCells []=[]:=by unfold strCells;rfl
def ao8(w:World)(l:List (List UInt8))(e:Ending)(w':World):Prop:=
 ∃ v',e=.returned v'∧w'.ownsRow 0 9 1 v' l.length (strCells l)∧Bw w w'∧∀ g,v'.ownBlock=some g→w.heap.size≤g
theorem an1(w:World)(a:Option Addr)(cap:Nat)(l:List (List UInt8))(h:Cg w a l)(hlen:l.length≤1000000000):
  Calls prog 114 #[.slice a l.length cap] w fun e w'=>ao8 w l e w':=by
 have hq:=fun w=>iA w a l.length cap
 cases a with
 |none=>
  have e:l=[]:=by
   cases l with
   |nil=>rfl
   |cons x l=>obtain⟨p,hp,_⟩:=h 0 (by simp);cases hp
  subst e;have hq0:=fun w=>iA w none 0 cap
  clear h hq;go_enter func114,ntmps114;go_wp2_with fail;go_ret;refine⟨_,rfl,?_,Af _ _,fun g e=>by simp[Value.ownBlock] at e⟩;rw[lu];exact EI _ _ _ _
 |some p=>
  have hc:∀ j u,(strCells l)[j]?=some u→w.cell? (p.add j)=some u:=fun j u hj=>by
   have Ju:j < l.length:=by
    have:=(Uw.1 hj).1;rwa[strCells_length] at this
   obtain⟨p',Mw,FE⟩:=h j Ju;cases Mw;rw[XL l j Ju] at hj;rw[FE,←hj]
  have HC:=Hi hc;have EB:=strCells_length l;have NK:=Hi EB;obtain⟨i0,Ba,AQ,AU,AV⟩:=Du Ta;have hsz:=Aq w (.cells #[] 9);clear h hc EB;go_enter func114,ntmps114;go_wp2_with (at_builtin;refine wpList_append_own_at _ rfl _ _ _ rfl 0 9 i0 _ 1 16 underlying27 Ba AQ AU AV rfl (by omega) _ 0 [] rfl (zh w) p l.length cap (strCells l) rfl (by rw[NK.out];omega) (fun j u hj=>(((Af w.heap.size w).alloc (Ac _) _).cell (BS (HC j u hj))).trans (HC j u hj)) (ad1 l) (by unfold maxLen;omega) (by omega) (AB _) ?_;intro v' w1 hown Az _ hat);go_ret;refine⟨v',rfl,by rw[GJ,Eu] at hown;exact hown,((Af w.heap.size w).alloc (Ac _) _).grown Az (by omega) (fun k e=>by have e':some w.heap.size=some k:=e;have:=G7 e';omega),fun k hk=>?_⟩;rcases hat with hat|hat
  ·rw[hat] at hk;have e':some w.heap.size=some k:=hk;have:=G7 e';omega
  ·rw[hat] at hk;have:=G7 hk;omega
theorem JK.pushed{w w1 w2:World}{gv lv v':Value}{L:List (List (List UInt8))}{l:List (List UInt8)}{cs:List Value}{n:Nat}(hn:n=L.length)(h:w.ownsRow 0 27 1 gv n cs)(hl:J5 w lv l)
  (BH:cs.length=L.length)(Gw:∀ u∈cs,u.oneCell'=true)(TY:∀ i (h:i < L.length) (h':i < cs.length),J5 w cs[i] L[i])
  (hb:Bw w w1)(Az:w1.grownBy w2 gv.ownBlock)(hown:w2.ownsRow 0 27 1 v' (n+1) (cs++[lv])):
  JK w2 v' (L++[l]):=by
 subst hn;have u1:A7 (fun k=>gv.ownBlock=some k) w w2:=(A7.of_below hb).trans (A7.of_grownBy (F:=fun k=>gv.ownBlock=some k) Az (fun k e=>e)) (fun k hk=>.inl hk);have QZ:∀ k,AA w k 9→¬ gv.ownBlock=some k:=fun k hk e=>AA.ne hk (BQ h e) (by decide) rfl
 refine⟨cs++[lv],by rw[Au];exact hown,by simp[BH],fun u hu=>?_,fun i hi qJ=>?_⟩
 ·rcases Fp.1 hu with hu|hu
  ·exact Gw u hu
  ·rw[EX] at hu;subst hu;exact hl.one
 ·by_cases hlt:i < L.length
  ·rw[Rp (by omega),Rp hlt];exact(TY i hlt (by omega)).upd u1 QZ
  ·have Ja:=hi;rw[Au,Kq] at Ja;have e:i=L.length:=(by omega);rw[Ux (by omega),Ux (by omega)];simp only[List.getElem_singleton];exact hl.upd u1 QZ
def adC(w:World)(L:List (List (List UInt8)))(e:Ending)(w':World):Prop:=
 ∃ v',e=.returned v'∧JK w' v' L∧Bw w w'∧∀ g,v'.ownBlock=some g→w.heap.size≤g
theorem aqJ(w:World)(gv:Value)(L:List (List (List UInt8)))(h:JK w gv L)(hlen:L.length≤1000000)(AY:∀ l∈L,l.length≤1000000000):
  Calls prog 130 #[gv] w fun e w'=>adC w L e w':=by
 obtain⟨cs,h1,h2,h3,h4⟩:=h;obtain⟨qg,cg,rfl⟩:=Bg h1;have FE:∀ k,(hk:k < L.length)→∃ g,qg=some ⟨g,0,none⟩∧∀ v,cs[k]?=some v→w.cell? ⟨g,k,none⟩=some v:=fun k hk=>by
  rcases h1.2 with⟨e1,e2⟩|⟨g,cap,cur,e1,_⟩
  ·omega
  ·injection e1 with e1 e2 e3
   subst e1;refine⟨g,rfl,fun v hv=>?_⟩;have:=h1.cells (g:=g) rfl k v hv;rwa[add_plain] at this
 have aor:=Hi FE;have H1:=Hi h1;have H2:=Hi h2;have H3:=Hi h3;have H4:=Hi h4;have Fy:=Hi AY;clear FE h1 h2 h3 h4 AY;go_enter func130,ntmps130;go_wp2_with fail
 go_loopw [2,7] (fun ov i wr=>∃ (k:Nat),k≤L.length∧i=.int .i64 k∧JK wr ov (L.take k)∧Bw w wr∧∀ g,ov.ownBlock=some g→w.heap.size≤g) (fun _ i _=>L.length -(intOf i).toNat)
 case atStart=>exact⟨0,AB _,rfl,JK.none _,Af _ _,fun g e=>by simp[Value.ownBlock] at e⟩
 case round=>
  obtain⟨k,hk,rfl,hg,hb,hn⟩:=hrel;have HB:=Hi hb;have HN:=Hi hn;by_cases hlt:k < L.length
  ·obtain⟨g,rfl,hc⟩:=aor k hlt;have Q8:k < cs.length:=(by rw[H2.out];exact hlt);have Ah:=H4 k hlt Q8;have hc:=hc cs[k] (Cn Q8);have Ni:wr.cell? ⟨g,k,none⟩=some cs[k]:=(hb.cell (BS hc)).trans hc;have SG:J5 wr cs[k] L[k]:=Ah.upd (ub hb) (fun _ _ f=>f);obtain⟨ar,cr,er,Gj⟩:=SG.texts;rw[er] at Ni;have Ym:=Hi Gj;obtain⟨cs',g1,g2,g3,g4⟩:=hg;have Ra:(L.take k).length=k:=(by rw[AL];omega);rw[Ra] at g1;have G1:=Hi g1;have G2:=Hi g2;have G3:=Hi g3;have G4:=Hi g4;obtain⟨qo,co,rfl⟩:=Bg g1;have Ik:L[k].length≤1000000000:=Fy _ (Ci hlt);have BN:=Hi Ra;have TD:Hid (L.take (k+1)=L.take k++[L[k]]):=Hi (Cw hlt);generalize L[k]=l at*;obtain⟨i0,Ba,AQ,AU,AV⟩:=Du acN;clear hb hn hc Ah SG Gj g1 g2 g3 g4 Ra er;go_wp2_with fail;refine(an1 wr ar cr l Ym Ik).mono ?_;rintro e w1⟨lv,rfl,Kj,Ad,DI⟩;have HB1:=Hi (HB.trans (Ad.mono HB.size));have Ew:=Hi (J5.CG Kj);obtain⟨ql,cl,rfl⟩:=Bg Kj;have u1:=ub Ad;have G1':=Hi (Bh G1 u1 (fun _ _ f=>f));have G4':=Hi (fun i (h:i < (L.take k).length) (h':i < cs'.length)=>(G4 i h h').upd u1 (fun _ _ f=>f));clear Kj Ad DI u1
   go_wp2_with (
    at_builtin
    refine wpList_append_own_at _ rfl _ _ _ rfl 0 27 i0 _ 1 24 underlying128 Ba AQ AU AV rfl (by omega) (.slice qo k co) k cs' rfl (G1'.alloc _) ⟨w1.heap.size,0,none⟩ 1 1 [.slice ql l.length cl] rfl rfl (World.news_of_block (cs:=#[.slice ql l.length cl]) (t:=27) (fr:=(0,0)) (AJ w1 _)) (fun u hu=>by rw[EX] at hu;subst hu;exact Ew.one) (by unfold maxLen;omega) (by omega) (AB _) ?_;intro v' w2 hown Az _ hat;have CS:=Hi (JK.pushed BN.symm G1' Ew G2 G3 G4' ((Af w1.heap.size w1).alloc (Ac _) _) Az hown);have Ag:=Hi ((HB1.alloc HB1.size _).grown Az (Ap HB1.size (by rw[Aq];omega)) HN)
    have MW:=Hi (show ∀ g,v'.ownBlock=some g→w.heap.size≤g from fun g hg=>by
     rcases hat with hat|hat
     ·rw[hat] at hg;exact HN g hg
     ·rw[hat] at hg;have:=G7 hg;rw[Aq] at this;have:=HB1.size;omega)
    clear hown Az hat)
   go_roundw
   case rel=>exact⟨k+1,by omega,by go_num,by rw[TD.out];exact CS.out,Ag,MW⟩
   case measure=>simp[intOf];omega
  ·obtain rfl:k=L.length:=(by omega);have HG:=Hi hg;clear hg hb hn;go_wp2_with fail;go_ret;exact⟨_,rfl,by have:=HG.out;rwa[Gn (Ac _)] at this,HB,HN⟩
section
variable {w:World}{x b:Nat}{gv:Value}{L:Bn}
theorem anP(h:BZ w x b gv L):Calls prog 54 #[.pointer (some ⟨x,0,none⟩)] w fun e w'=>e=.returned (.int .u64 (L.gen:Int))∧w=w':=by
 obtain⟨c0,c1,c2,c3,c4,c5,c6,cf⟩:=h.cells;clear h;go_enter func54,ntmps54;go_wp2_with fail;go_ret;exact⟨rfl,rfl⟩
theorem eQ(h:BZ w x b gv L):Calls prog 131 #[.pointer (some ⟨x,0,none⟩)] w fun e w'=>e=.returned (.int .i64 L.fault)∧w=w':=by
 obtain⟨c0,c1,c2,c3,c4,c5,c6,cf⟩:=h.cells;clear h;go_enter func131,ntmps131;go_wp2_with fail;go_ret;exact⟨rfl,rfl⟩
theorem aAo(h:BZ w x b gv L):Calls prog 99 #[.pointer (some ⟨x,0,none⟩)] w fun e w'=>e=.returned (.int .i64 ((L.n -1 -L.used:Nat):Int))∧Bw w w':=by
 obtain⟨c0,c1,c2,c3,c4,c5,c6,cf⟩:=h.cells;have g1:=h.used;have g2:=h.n;have hv:((L.n -1 -L.used:Nat):Int)=(L.n:Int) -1 -(L.used:Int):=by omega
 have HV:=Hi hv;have e1:IntKind.i64.wrap ((L.n:Int) -1)=(L.n:Int) -1:=Ei _ (by omega);have e2:IntKind.i64.wrap ((L.n:Int) -1 -(L.used:Int))=(L.n:Int) -1 -(L.used:Int):=Ei _ (by omega);clear h hv;go_enter func99,ntmps99;go_wp2_with fail
 go_quiet (fail)
 go_wp2_with fail;go_ret;rw[HV.out];exact⟨rfl,F6 _ _⟩
theorem aAj(h:BZ w x b gv L)(hlen:L.groups.length≤1000000)(AY:∀ l∈L.groups,l.length≤1000000000):Calls prog 55 #[.pointer (some ⟨x,0,none⟩)] w fun e w'=>adC w L.groups e w':=by
 obtain⟨c0,c1,c2,c3,c4,c5,c6,cf⟩:=h.cells;have HG:=Hi h.groups;clear h;go_enter func55,ntmps55;go_wp2_with fail;refine(aqJ w gv L.groups HG hlen AY).mono ?_;rintro e w1⟨v',rfl,g1,g2,g3⟩;have G:=Hi (Cc g1 (Cc g2 g3));clear g1 g2 g3;go_wp2_with fail;go_ret;exact⟨v',rfl,G.1,G.2.1,G.2.2⟩
end
theorem zJ(l:List (List UInt8)):(J8 l).1.length≤rowLen l+68:=by
 unfold J8;cases h:GQ l with
 |none=>simp
 |some s=>
  obtain⟨a,ha,rfl⟩:=pG h;have h1:=tV ha;have h2:=Rh (Crc.le 4 a.length++a);rw[Au,Crc.BK] at h2
  show(pad _).length≤_
  omega
theorem aAk(l:List (List UInt8))(a:Option Addr)(cap:Nat)(w:World)(hl:Cg w a l)(hlen:l.length≤maxLen)(CB:rowLen l≤10000000):
  Calls prog 98 #[.slice a l.length cap] w fun e w'=>e=.returned (.tuple #[.int .i64 (((J8 l).1.length / 64:Nat):Int),.int .i64 (J8 l).2])∧Bw w w':=by
 have HL:=Hi hl;have EY:=Hi hlen;clear hl hlen;go_enter func98,ntmps98;go_wp2_with fail;obtain⟨r1,r2,hr⟩:∃ r1 r2,J8 l=(r1,r2):=⟨_,_,rfl⟩;have aBR:r1.length≤10000068:=by have:=zJ l;rw[hr] at this;have h2:r1.length≤rowLen l+68:=this;omega
 have HR:=Hi hr;clear hr;refine(bu l a cap w HL EY CB).mono ?_;rw[HR.out];rintro e w1⟨rfl,hb⟩;have HB:=Hi hb;clear hb;have hv:((r1.length / 64:Nat):Int)=(r1.length:Int) / 64:=by omega
 have HV:=Hi hv;clear hv;go_wp2_with fail;go_ret2;rw[HR.out];refine⟨?_,HB⟩
 show _=Ending.returned (.tuple #[.int .i64 ((r1.length / 64:Nat):Int),.int .i64 r2])
 rw[HV.out];rfl
end
end Go.Proofs.YtmbbhdebddbhoaaGreat
