/- WalOpen2 FilNames2 -/
import Derived.Shelf.SlIter.Nil
import Derived.Shelf.SortM.Plain
import Derived.Shelf.SortM.SortNone
import Derived.Ground.GgzProg
import Derived.Ground.SlgmProg
import Derived.Test.YtkmninbcgipliaaGreatDoorQ3
import Derived.Maps.OwnIn
set_option maxHeartbeats 4000000
set_option maxRecDepth 100000
set_option linter.all false
namespace Go.Proofs.YtkmninbcgipliaaGreatDoor
open Tryz
open Go.RowKit
open Go.Maps
section
open Aq
def A8.TF(D:A8)(a n:Int):Option Bz×Int:=
 if n < 2∨a < 0∨(D.n:Int) < a∨(D.n:Int) -a < n then(none,2)
 else if D.down then(none,40)
 else match Jt (A8.text D.now a.toNat n.toNat) n.toNat with
  |none=>(none,50)
  |some (g,u,l)=>(some ⟨a.toNat,n.toNat,g,u,l,0⟩,0)
def Vo(w:World)(b:Nat)(D:A8)(a n:Int)(e:Ending)(w':World):Prop:=
 match D.TF a n with
 |(none,k)=>e=.returned (.tuple #[.pointer none,.int .i64 k])∧Bw w w'
 |(some L,k)=>∃ x gv,e=.returned (.tuple #[.pointer (some ⟨x,0,none⟩),.int .i64 k])∧Cj w' x b gv L∧Bw w w'∧∀ q,BP x gv q→w.heap.size≤q
theorem Y0{w w':World}{b:Nat}{D:A8}{a n k:Int}{e:Ending}(h:D.TF a n=(none,k))(he:e=.returned (.tuple #[.pointer none,.int .i64 k]))(hb:Bw w w'):Vo w b D a n e w':=by
 unfold Vo;rw[h];exact⟨he,hb⟩
theorem al3{w w':World}{b:Nat}{D:A8}{a n k:Int}{L:Bz}{e:Ending}{x:Nat}{gv:Value}(h:D.TF a n=(some L,k))(he:e=.returned (.tuple #[.pointer (some ⟨x,0,none⟩),.int .i64 k]))(hw:Cj w' x b gv L)(hb:Bw w w')(hn:∀ q,BP x gv q→w.heap.size≤q):Vo w b D a n e w':=by
 unfold Vo;rw[h];exact⟨x,gv,he,hw,hb,hn⟩
theorem acD:(prog.info? 61).map (fun i=>(i.zero,i.size,i.bytes))=some (some (.slice none 0 0),1,24):=by kernel_rfl
theorem aBb{w:World}{b:Nat}{D:A8}{fp:Nat→Prop}(h:BI w b D fp)(a n:Int)(ha: -9223372036854775808≤a∧a≤9223372036854775807)(hn: -9223372036854775808≤n∧n≤9223372036854775807)
  (NJ:n < 2∨a < 0∨(D.n:Int) < a∨(D.n:Int) -a < n):
  Calls prog 79 #[.pointer (some ⟨b,0,none⟩),.int .i64 a,.int .i64 n] w fun e w'=>Vo w b D a n e w':=by
 have hO:Hid (D.TF a n=(none,2)):=Hi (by unfold A8.TF;rw[Ac NJ]);have hN:=h.fine.n2;have H:=Hi h;clear h;generalize SQ:(D.n:Int)=N at*;have HN:=Hi SQ;have hN2:0≤N∧N≤16384:=by omega
 clear SQ hN;by_cases h1:n < 2
 ·go_in
  go_wp2;go_ret2;exact Y0 hO.out rfl (Ah _ _)
 by_cases h2:a < 0
 ·go_in
  go_wp2;go_ret2;exact Y0 hO.out rfl (Ah _ _)
 by_cases h3:N < a
 ·go_in
  go_wp2_with fail;refine(Y6 H).mono ?_;rw[HN.out];rintro e w1⟨rfl,rfl⟩;go_wp2;go_ret2;exact Y0 hO.out rfl (Ah _ _)
 ·have h4:N -a < n:=by omega
  go_in
  go_wp2_with fail;refine(Y6 H).mono ?_;rw[HN.out];rintro e w1⟨rfl,rfl⟩;go_wp2_with fail;refine(Y6 H).mono ?_;rw[HN.out];rintro e w1⟨rfl,rfl⟩;go_wp2;go_ret2;exact Y0 hO.out rfl (Ah _ _)
theorem aBd{w:World}{b:Nat}{D:A8}{fp:Nat→Prop}(h:BI w b D fp)(a n:Int)(ha: -9223372036854775808≤a∧a≤9223372036854775807)(hn: -9223372036854775808≤n∧n≤9223372036854775807)
  (hok:¬ (n < 2∨a < 0∨(D.n:Int) < a∨(D.n:Int) -a < n))(hd:D.down=true):
  Calls prog 79 #[.pointer (some ⟨b,0,none⟩),.int .i64 a,.int .i64 n] w fun e w'=>Vo w b D a n e w':=by
 have hO:Hid (D.TF a n=(none,40)):=Hi (by unfold A8.TF;rw[Aa hok,Ac hd]);have hN:=h.fine.n2;have H:=Hi h;obtain⟨m,lv,hI,_⟩:=h;have HI:=Hi hI;have HD:=Hi hd;clear hI hd;generalize SQ:(D.n:Int)=N at*;have HN:=Hi SQ;have hN2:0≤N∧N≤16384:=by omega
 clear SQ hN;have h1:2≤n:=by omega
 have h2:0≤a:=by omega
 have h3:a≤N:=by omega
 have h4:n≤N -a:=by omega
 clear hok
 go_in
 go_wp2_with fail;refine(Y6 H).mono ?_;rw[HN.out];rintro e w1⟨rfl,rfl⟩;go_wp2_with fail;refine(Y6 H).mono ?_;rw[HN.out];rintro e w1⟨rfl,rfl⟩;go_wp2_with fail;refine(ayA HI a n HD).mono ?_;rintro e w1⟨rfl,rfl⟩;go_wp2;go_ret2;exact Y0 hO.out rfl (Ah _ _)
theorem aBe{w:World}{b:Nat}{D:A8}{fp:Nat→Prop}(h:BI w b D fp)(a n:Nat)(h2:2≤n)(han:a+n≤D.n)(hd:D.down=false):
  Calls prog 79 #[.pointer (some ⟨b,0,none⟩),.int .i64 (a:Int),.int .i64 (n:Int)] w fun e w'=>Vo w b D a n e w':=by
 have hO:D.TF a n=match Jt (A8.text D.now a n) n with|none=>(none,50)|some (g,u,l)=>(some ⟨a,n,g,u,l,0⟩,0):=by
  unfold A8.TF;rw[Aa (by omega),Aa (by simp[hd])];simp
 have hN:=h.fine.n2;have hlen:(A8.text D.now a n).length=64*n:=A8.XV (fun i h1 h2=>h.fine.now i (by omega));have H:=Hi h;obtain⟨m,lv,hI,_⟩:=h;have KU:=uh hI a n hd (by simp[A8.inside];omega);have Ic:=Hi KU;clear hI hd KU;generalize SQ:D.n=N at*;have HN:=Hi SQ;generalize A8.text D.now a n=s at*;clear SQ;have aCy:∀ W,(Instr.slice 9 (.string (bs s)) none (some (.int .i64 64)) none).run prog W=.ok (.string (bs (s.take 64))) W:=fun W=>O1 prog W 9 underlying9 s 64 (by omega)
 have aCz:∀ W,(Instr.slice 9 (.string (bs s)) (some (.int .i64 64)) none none).run prog W=.ok (.string (bs (s.drop 64))) W:=fun W=>Mk prog W 9 underlying9 s 64 (by omega)
 have ai9:(s.take 64).length=64:=by rw[Be];omega
 have aor:=Hi ai9;have HO:=Hi hO;have Gx:=Hi hlen;clear ai9 hO hlen
 go_in
 go_wp2_with fail;refine(Y6 H).mono ?_;rw[HN.out];rintro e w1⟨rfl,rfl⟩;go_wp2_with fail;refine(Y6 H).mono ?_;rw[HN.out];rintro e w1⟨rfl,rfl⟩;go_wp2_with fail;refine Ic.mono ?_;rintro e w1⟨rfl,hb⟩;have HB:=Hi hb;clear hb;go_wp2
 go_quiet (fail)
 go_wp2_with fail;refine(ado [0] _ (by simp)).mono ?_;rintro e w2⟨rfl,Ad⟩;have Ea:w1.heap.size < w2.heap.size:=I9 (by show w1.heap.size < (w1.alloc _).heap.size;rw[Ar];omega) Ad.size;have Xb:Bw w w2:=(HB.trans ((((Ah w1.heap.size w1).alloc (Ae _) _).trans ((FM _ _).mono (by rw[Ar];omega))).mono HB.size)).trans (Ad.mono (by have:=HB.size;show w.heap.size≤(w1.alloc _).heap.size;rw[Ar];omega));have Kh:Cj w2 w1.heap.size b (.slice none 0 0) ⟨a,n,0,0,[],0⟩:=⟨(Ad.block w1.heap.size (by show w1.heap.size < (w1.alloc _).heap.size;rw[Ar];omega)).trans (AP w1 _),Kv.none _,by show 0 < 18446744073709551616;decide,by show 0+1≤n;omega,by show a+n≤16384;omega⟩;have HX:=Hi (show w.heap.size≤w1.heap.size from HB.size);have Ak:=Hi Xb;have Rj:=Hi Kh;clear Ad Xb Kh Ea;have Qt:Jt s n=if s.take 64=pad [0] then some (0,0,[]) else
  if s.take 64=Aq.mark (A9.val (((s.take 64).take 12).drop 4)) (A9.val (((s.take 64).take 16).drop 12))∧A9.val (((s.take 64).take 16).drop 12)≤n -1 then
   (J8 (A9.val (((s.take 64).take 16).drop 12)) ((s.drop 64).take (64*A9.val (((s.take 64).take 16).drop 12)))).map fun l=>(A9.val (((s.take 64).take 12).drop 4),A9.val (((s.take 64).take 16).drop 12),l)
  else none:=rfl
 have MP:(s.drop 64).length=64*(n -1):=by rw[Cs,Gx.out];omega
 have V6:=Hi MP;generalize s.take 64=f at*;generalize s.drop 64=r at*;clear MP;by_cases hz:f=pad [0]
 ·rw[Ac hz] at Qt;have JG:(f == pad [0])=true:=by simp[hz]
  have Qg:=Hi Qt;clear Qt hz;go_wp2;go_ret2;refine al3 (L:=⟨a,n,0,0,[],0⟩) (k:=0) (by rw[HO.out,Qg.out]) rfl Rj Ak (fun q hq=>?_);rcases hq with rfl|hq
  ·exact HX.out
  ·simp[Value.ownBlock] at hq
 ·rw[Aa hz] at Qt;have JG:(f == pad [0])=false:=by simp[hz]
  have IE:=aor.out;have aCC:∀ W,(Instr.slice 9 (.string (bs f)) (some (.int .i64 4)) (some (.int .i64 12)) none).run prog W=.ok (.string (bs ((f.take 12).drop 4))) W:=fun W=>Y4 prog W 9 underlying9 f 4 12 (by omega) (by omega)
  have aCD:∀ W,(Instr.slice 9 (.string (bs f)) (some (.int .i64 12)) (some (.int .i64 16)) none).run prog W=.ok (.string (bs ((f.take 16).drop 12))) W:=fun W=>Y4 prog W 9 underlying9 f 12 16 (by omega) (by omega)
  have l1:((f.take 12).drop 4).length=8:=by rw[Cs,Be];omega
  have l2:((f.take 16).drop 12).length=4:=by rw[Cs,Be];omega
  have g1:=fun(W:World)=>X9 ((f.take 12).drop 4) W (by omega) (by omega)
  have g2:=fun(W:World)=>X9 ((f.take 16).drop 12) W (by omega) (by omega)
  have v1:=A9.Jb ((f.take 12).drop 4);have v2:=A9.Jb ((f.take 16).drop 12);rw[l1] at v1;rw[l2] at v2;generalize A9.val ((f.take 12).drop 4)=gen at*;generalize A9.val ((f.take 16).drop 12)=used at*;have v1':gen < 18446744073709551616:=v1;have v2':used < 4294967296:=v2;have Iw:=Hi g1;have Du:=Hi g2;have SC:=Hi v1';have hwn:IntKind.u64.wrap ((n:Int) -1)=(n:Int) -1:=IntWalk.u64_in _ (by omega);clear hz IE l1 l2 g1 g2 v1 v2 v1';by_cases NS:f=Aq.mark gen used
  ·have VJ:(f == Aq.mark gen used)=true:=(by rw[NS];simp);by_cases Tq:used≤n -1
   ·rw[Ac ⟨NS,Tq⟩] at Qt;have hui:(used:Int)≤(n:Int) -1:=(by omega);have Qg:=Hi Qt;have U0:=Hi NS;obtain⟨d0,d1,d2,d3,d4,d5,d6,df⟩:=Rj.cells;clear Qt NS;go_wp2_with fail;refine(Iw _).mono ?_;rintro e w3⟨rfl,rfl⟩;go_wp2_with fail;refine(Du _).mono ?_;rintro e w3⟨rfl,rfl⟩;go_wp2_with fail;refine(kS gen used _ SC v2').mono ?_;rintro e w3⟨rfl,Aw⟩;have WR:=Hi (Rj.below Aw);have AA:=bH Ak Aw;clear Aw d0 d1 d2 d3 d4 d5 d6 df;obtain⟨d0,d1,d2,d3,d4,d5,d6,df⟩:=WR.cells;have df0:=df 0;have oI:=df 1;have hwu:(64:Int)*(used:Int)≤640000000:=(by omega);have Mg:=V6.out;have Uq:∀ W,(Instr.slice 9 (.string (bs r)) none (some (.int .i64 (64*(used:Int)))) none).run prog W=.ok (.string (bs (r.take (64*used)))) W:=fun W=>by
     have:=O1 prog W 9 underlying9 r (64*used) (by omega);rw[Int.natCast_mul] at this;exact this
    have Io:Cj ((w3.setCell ⟨w1.heap.size,0,none⟩ (.int .u64 (gen:Int))).setCell ⟨w1.heap.size,1,none⟩ (.int .i64 (used:Int))) w1.heap.size b (.slice none 0 0) ⟨a,n,gen,used,[],0⟩:=by
     have e1:=Cf w3 w1.heap.size 0 _ _ (.int .u64 (gen:Int)) WR.struct;have e2:=Cf _ w1.heap.size 1 _ _ (.int .i64 (used:Int)) e1;exact⟨e2,Kv.none _,SC,by show used+1≤n;omega,WR.n⟩
    have SE:=Hi Io;have AU:=Hi ((AA.setCell (p:=⟨w1.heap.size,0,none⟩) HX (.int .u64 (gen:Int))).setCell (p:=⟨w1.heap.size,1,none⟩) HX (.int .i64 (used:Int)));have NU:(r.take (64*used)).length=64*used:=(by rw[Be];omega);have Oe:=Hi NU;clear df Io NU;go_wp2
    go_loopw [12] (fun rv wr=>∃ (k:Nat) (S:List UInt8) (l:List (List (List UInt8))) (gv:Value),rv=.string (bs S)∧S.length % 64=0∧S.length≤64*k∧S.length≤10000000∧Cj wr w1.heap.size b gv ⟨a,n,gen,used,l,0⟩∧Bw w wr∧(∀ q,BP w1.heap.size gv q→w.heap.size≤q)∧J8 used (r.take (64*used))=(J8 k S).map (l++ ·)∧l.length+k=used) (fun rv _=>match rv with| .string s=>s.size|_=>0)
    case atStart=>
     refine⟨used,r.take (64*used),[],.slice none 0 0,rfl,by rw[Oe.out];omega,by rw[Oe.out];omega,by rw[Oe.out];omega,SE,AU,fun q hq=>?_,by simp,by simp⟩;rcases hq with rfl|hq
     ·exact HX.out
     ·simp[Value.ownBlock] at hq
    case round=>
     obtain⟨k,S,l,gv,rfl,atA,hSk,hSb,hwi,hb,OB,Mh,Jn⟩:=hrel;have HLK:=Hi Jn;clear Jn;have HWI:=Hi hwi;have R8:=Hi hb;have wV:=Hi OB;have Ej:=Hi Mh;clear hwi hb OB Mh Rj WR SE Ak AA AU d0 d1 d2 d3 d4 d5 d6 df0 oI;by_cases hS:S=[]
     ·subst hS;go_wp2;go_ret2;refine al3 (L:=⟨a,n,gen,used,l,0⟩) (k:=0) ?_ rfl HWI R8 wV.out;rw[HO.out,Qg.out,Ej.out,alQ];simp
     ·have hne:S.isEmpty=false:=by
       cases S with
       |nil=>exact absurd rfl hS
       |cons=>rfl
      have KE:=Hi hS;clear hS;go_wp2_with fail;refine(axv S _ hSb atA).mono ?_;intro e w5 hp;unfold aX at hp;have dx:0 < S.length:=List.length_pos_iff.2 KE.out;obtain⟨k',rfl⟩:∃ k',k=k'+1:=⟨k -1,by omega⟩;cases Gn:KY S with
      |none=>
       rw[Gn] at hp;obtain⟨rfl,Bo⟩:=hp;have Cy:=bH R8 Bo;have Cv:Hid (J8 used (r.take (64*used))=none):=Hi (ayo KE Ej Gn);clear Bo Gn;go_wp2;go_ret2;exact Y0 (by rw[HO.out,Qg.out,Cv.out];rfl) rfl Cy.out
      |some pr=>
       obtain⟨t,m⟩:=pr;rw[Gn] at hp;obtain⟨lv,rfl,Ag,Bo,_⟩:=hp;obtain⟨hm1,Kb,Uv⟩:=axs Gn;have Cy:=bH R8 Bo;have KH:=Hi (HWI.below Bo);obtain⟨qa,ca,rfl,_⟩:=uM Ag;have HRK:=Hi (JA.D9 Ag);have Bi:=Hi (ayp KE Ej Gn);have hux:=R8.size;obtain⟨cs,Gi,Gz,KO,Md⟩:=KH.groups;obtain⟨qg,cg,rfl⟩:=Bp Gi;have ay:=Hi Gi;have Q9:=Hi Gz;have Ww:=Hi KO;have vR:=Hi Md;obtain⟨i0,Bg,AX,AY,Ba⟩:=DI acD;obtain⟨d0,d1,d2,d3,d4,d5,d6,df⟩:=KH.cells;have SG:=df 5;have FN:l.length≤16384:=(by have:=HLK.out;omega);have k5:=fun(ob:Obj)=>Cr ((((Ah w5.heap.size w5).alloc (Ae _) ob).cell (p:=⟨w1.heap.size,5,none⟩) (KH.lt _ (.inl rfl))).trans d5) ((((Ah w5.heap.size w5).alloc (Ae _) ob).frozen (p:=⟨w1.heap.size,5,none⟩) (KH.lt _ (.inl rfl))).trans SG)
       have aua:∀ W,(Instr.slice 9 (.string (bs S)) (some (.int .i64 (m:Int))) none none).run prog W=.ok (.string (bs (S.drop m))) W:=fun W=>Mk prog W 9 underlying9 S m Uv
       have CZ:=KH.ne;clear Gi Gz KO Md Ag Bo Gn d0 d1 d2 d3 d4 d6 df
       go_wp2_with (
        at_builtin
        refine wpList_append_own_at _ rfl _ _ _ rfl 0 61 i0 _ 1 24 underlying155 Bg AX AY Ba rfl (by omega) (.slice qg l.length cg) l.length cs rfl (ay.alloc _) ⟨w5.heap.size,0,none⟩ 1 1 [.slice qa t.length ca] rfl rfl (World.news_of_block (cs:=#[.slice qa t.length ca]) (t:=61) (fr:=(0,0)) (AP w5 _)) (fun u hu=>by rw[FC] at hu;subst hu;exact HRK.one) (by unfold maxLen;omega) (by omega) (AZ _) ?_;intro v' w6 hown AJ _ hat;have x9:=Hi (KH.pushed HRK Q9 Ww vR ((Ah w5.heap.size w5).alloc (Ae _) _) AJ hown hat);obtain⟨qv,cv,rfl⟩:=Bp hown;have c6:=(AJ.cell_far ⟨w1.heap.size,5,none⟩ (by have:=KH.lt _ (.inl rfl);show w1.heap.size < (w5.alloc _).heap.size;rw[Ar];omega) (Ne.symm CZ)).trans (k5 _).1;have f6:=(AJ.frozen_far ⟨w1.heap.size,5,none⟩ (by have:=KH.lt _ (.inl rfl);show w1.heap.size < (w5.alloc _).heap.size;rw[Ar];omega) (Ne.symm CZ)).trans (k5 _).2;clear hown AJ hat k5 d5 SG)
       refine⟨⟨k',S.drop m,l++[t],_,rfl,by rw[Cs];omega,by rw[Cs];omega,by rw[Cs];omega,x9.1,Cq Cy x9.2.1 wV Cy.size,fun q hq=>?_,Bi,by have:=HLK.out;rw[Az,Kn];omega⟩,?_⟩
       ·rcases x9.2.2 q hq with h1|h1
        ·exact wV q h1
        ·exact Ay Cy.size h1
       ·show(S.drop m).length < S.length
        rw[Cs];omega
   ·rw[Aa (fun h=>Tq h.2)] at Qt;have hui:(n:Int) -1 < (used:Int):=(by omega);have Qg:=Hi Qt;clear Qt NS;go_wp2_with fail;refine(Iw _).mono ?_;rintro e w3⟨rfl,rfl⟩;go_wp2_with fail;refine(Du _).mono ?_;rintro e w3⟨rfl,rfl⟩;go_wp2_with fail;refine(kS gen used _ SC v2').mono ?_;rintro e w3⟨rfl,Aw⟩;have AA:=bH Ak Aw;clear Aw;go_wp2;go_ret2;exact Y0 (by rw[HO.out,Qg.out]) rfl AA.out
  ·rw[Aa (fun h=>NS h.1)] at Qt;have VJ:(f == Aq.mark gen used)=false:=(by simp[NS]);have Qg:=Hi Qt;clear Qt NS;go_wp2_with fail;refine(Iw _).mono ?_;rintro e w3⟨rfl,rfl⟩;go_wp2_with fail;refine(Du _).mono ?_;rintro e w3⟨rfl,rfl⟩;go_wp2_with fail;refine(kS gen used _ SC v2').mono ?_;rintro e w3⟨rfl,Aw⟩;have AA:=bH Ak Aw;clear Aw;go_wp2;go_ret2;exact Y0 (by rw[HO.out,Qg.out]) rfl AA.out
theorem aBa{w:World}{b:Nat}{D:A8}{fp:Nat→Prop}(h:BI w b D fp)(a n:Int)(ha: -9223372036854775808≤a∧a≤9223372036854775807)(hn: -9223372036854775808≤n∧n≤9223372036854775807):
  Calls prog 79 #[.pointer (some ⟨b,0,none⟩),.int .i64 a,.int .i64 n] w fun e w'=>Vo w b D a n e w':=by
 by_cases NJ:n < 2∨a < 0∨(D.n:Int) < a∨(D.n:Int) -a < n
 ·exact aBb h a n ha hn NJ
 ·cases hd:D.down with
  |true=>exact aBd h a n ha hn NJ hd
  |false=>
   obtain⟨a,rfl⟩:∃ k:Nat,a=(k:Int):=⟨a.toNat,by omega⟩;obtain⟨n,rfl⟩:∃ k:Nat,n=(k:Int):=⟨n.toNat,by omega⟩;exact aBe h a n (by omega) (by omega) hd
end
section
open Aq
theorem iQ(w:World)(p:Option Addr)(n c:Nat):(binOp .eql 61 (.slice p n c) (.slice none 0 0)).run prog w=.ok (.bool p.isNone) w:=by
 have h:∀ d,(Op.equalIn (d+1) 61 (.slice p n c) (.slice none 0 0)).run prog w=.ok p.isNone w:=fun d=>by
  cases p<;>simp[Op.equalIn,GK underlying61]
 simp only[binOp];simp[show Op.equal 61 (.slice p n c) (.slice none 0 0)=Op.equalIn (9999+1) 61 (.slice p n c) (.slice none 0 0) from rfl,h 9999]
theorem zg(w:World):(w.alloc (.cells #[] 9)).ownsRow 0 9 1 (.slice (some ⟨w.heap.size,0,none⟩) 0 0) 0 []:=
 ⟨rfl,.inr ⟨w.heap.size,0,#[],rfl,AZ _,AP w _,Ae _,AZ _,rfl,rfl⟩⟩
theorem RX:(prog.info? 9).map (fun i=>(i.zero,i.size,i.bytes))=some (some (.string ByteArray.empty),1,16):=by kernel_rfl
theorem lK:strCells []=[]:=by unfold strCells;rfl
def ao3(w:World)(l:List (List UInt8))(e:Ending)(w':World):Prop:=
 ∃ v',e=.returned v'∧w'.ownsRow 0 9 1 v' l.length (strCells l)∧Bw w w'∧∀ g,v'.ownBlock=some g→w.heap.size≤g
theorem an2(w:World)(a:Option Addr)(cap:Nat)(l:List (List UInt8))(h:Dv w a l)(hlen:l.length≤1000000000):
  Calls prog 149 #[.slice a l.length cap] w fun e w'=>ao3 w l e w':=by
 have hq:=fun w=>iQ w a l.length cap
 cases a with
 |none=>
  have e:l=[]:=by
   cases l with
   |nil=>rfl
   |cons x l=>obtain⟨p,hp,_⟩:=h 0 (by simp);cases hp
  subst e;have hq0:=fun w=>iQ w none 0 cap
  clear h hq
  go_in
  go_wp2;go_ret;refine⟨_,rfl,?_,Ah _ _,fun g e=>by simp[Value.ownBlock] at e⟩;rw[lK];exact E5 _ _ _ _
 |some p=>
  have hc:∀ j u,(strCells l)[j]?=some u→w.cell? (p.add j)=some u:=fun j u hj=>by
   have K8:j < l.length:=by
    have:=(TK.1 hj).1;rwa[strCells_length] at this
   obtain⟨p',MU,FW⟩:=h j K8;cases MU;rw[Y8 l j K8] at hj;rw[FW,←hj]
  have HC:=Hi hc;have FN:=strCells_length l;have Nt:=Hi FN;obtain⟨i0,Bg,AX,AY,Ba⟩:=DI RX;have BL:=Ar w (.cells #[] 9);clear h hc FN
  go_in
  go_wp2_with (at_builtin;refine wpList_append_own_at _ rfl _ _ _ rfl 0 9 i0 _ 1 16 underlying61 Bg AX AY Ba rfl (by omega) _ 0 [] rfl (zg w) p l.length cap (strCells l) rfl (by rw[Nt.out];omega) (fun j u hj=>(((Ah w.heap.size w).alloc (Ae _) _).cell (D7 (HC j u hj))).trans (HC j u hj)) (acQ l) (by unfold maxLen;omega) (by omega) (AZ _) ?_;intro v' w1 hown AJ _ hat);go_ret;refine⟨v',rfl,by rw[GJ,Ev] at hown;exact hown,((Ah w.heap.size w).alloc (Ae _) _).grown AJ (by omega) (fun k e=>by have e':some w.heap.size=some k:=e;have:=Gu e';omega),fun k hk=>?_⟩;rcases hat with hat|hat
  ·rw[hat] at hk;have e':some w.heap.size=some k:=hk;have:=Gu e';omega
  ·rw[hat] at hk;have:=Gu hk;omega
theorem Kv.pushed{w w1 w2:World}{gv lv v':Value}{L:List (List (List UInt8))}{l:List (List UInt8)}{cs:List Value}{n:Nat}(hn:n=L.length)(h:w.ownsRow 0 61 1 gv n cs)(hl:JA w lv l)
  (BJ:cs.length=L.length)(Gi:∀ u∈cs,u.oneCell'=true)(Uq:∀ i (h:i < L.length) (h':i < cs.length),JA w cs[i] L[i])
  (hb:Bw w w1)(AJ:w1.grownBy w2 gv.ownBlock)(hown:w2.ownsRow 0 61 1 v' (n+1) (cs++[lv])):
  Kv w2 v' (L++[l]):=by
 subst hn;have u1:A7 (fun k=>gv.ownBlock=some k) w w2:=(A7.of_below hb).trans (A7.of_grownBy (F:=fun k=>gv.ownBlock=some k) AJ (fun k e=>e)) (fun k hk=>.inl hk);have NM:∀ k,Bf w k 9→¬ gv.ownBlock=some k:=fun k hk e=>Bf.ne hk (CB h e) (by decide) rfl
 refine⟨cs++[lv],by rw[Az];exact hown,by simp[BJ],fun u hu=>?_,fun i hi qO=>?_⟩
 ·rcases EG.1 hu with hu|hu
  ·exact Gi u hu
  ·rw[FC] at hu;subst hu;exact hl.one
 ·by_cases hlt:i < L.length
  ·rw[List.getElem_append_left (by omega),List.getElem_append_left hlt];exact(Uq i hlt (by omega)).upd u1 NM
  ·have Oz:=hi;rw[Az,Kn] at Oz;have e:i=L.length:=(by omega);rw[List.getElem_append_right (by omega),List.getElem_append_right (by omega)];simp only[List.getElem_singleton];exact hl.upd u1 NM
def ady(w:World)(L:List (List (List UInt8)))(e:Ending)(w':World):Prop:=
 ∃ v',e=.returned v'∧Kv w' v' L∧Bw w w'∧∀ g,v'.ownBlock=some g→w.heap.size≤g
theorem aqC(w:World)(gv:Value)(L:List (List (List UInt8)))(h:Kv w gv L)(hlen:L.length≤1000000)(hall:∀ l∈L,l.length≤1000000000):
  Calls prog 165 #[gv] w fun e w'=>ady w L e w':=by
 obtain⟨cs,h1,h2,h3,h4⟩:=h;obtain⟨qg,cg,rfl⟩:=Bp h1;have FW:∀ k,(hk:k < L.length)→∃ g,qg=some ⟨g,0,none⟩∧∀ v,cs[k]?=some v→w.cell? ⟨g,k,none⟩=some v:=fun k hk=>by
  rcases h1.2 with⟨e1,e2⟩|⟨g,cap,cur,e1,_⟩
  ·omega
  ·injection e1 with e1 e2 e3
   subst e1;refine⟨g,rfl,fun v hv=>?_⟩;have:=h1.cells (g:=g) rfl k v hv;rwa[add_plain] at this
 have aoo:=Hi FW;have H1:=Hi h1;have H2:=Hi h2;have H3:=Hi h3;have H4:=Hi h4;have Gv:=Hi hall;clear FW h1 h2 h3 h4 hall
 go_in
 go_wp2
 go_loopw [2,7] (fun ov i wr=>∃ (k:Nat),k≤L.length∧i=.int .i64 k∧Kv wr ov (L.take k)∧Bw w wr∧∀ g,ov.ownBlock=some g→w.heap.size≤g) (fun _ i _=>L.length -(intOf i).toNat)
 case atStart=>exact⟨0,AZ _,rfl,Kv.none _,Ah _ _,fun g e=>by simp[Value.ownBlock] at e⟩
 case round=>
  obtain⟨k,hk,rfl,hg,hb,hn⟩:=hrel;have HB:=Hi hb;have HN:=Hi hn;by_cases hlt:k < L.length
  ·obtain⟨g,rfl,hc⟩:=aoo k hlt;have Qu:k < cs.length:=(by rw[H2.out];exact hlt);have Ag:=H4 k hlt Qu;have hc:=hc cs[k] (Ei Qu);have Oq:wr.cell? ⟨g,k,none⟩=some cs[k]:=(hb.cell (D7 hc)).trans hc;have Tm:JA wr cs[k] L[k]:=Ag.upd (ub hb) (fun _ _ f=>f);obtain⟨ar,cr,er,GD⟩:=Tm.texts;rw[er] at Oq;have YK:=Hi GD;obtain⟨cs',g1,g2,g3,g4⟩:=hg;have VT:(L.take k).length=k:=(by rw[Be];omega);rw[VT] at g1;have G1:=Hi g1;have G2:=Hi g2;have G3:=Hi g3;have G4:=Hi g4;obtain⟨qo,co,rfl⟩:=Bp g1;have Jn:L[k].length≤1000000000:=Gv _ (Dc hlt);have CX:=Hi VT;have U3:Hid (L.take (k+1)=L.take k++[L[k]]):=Hi (CQ hlt);generalize L[k]=l at*;obtain⟨i0,Bg,AX,AY,Ba⟩:=DI acD;clear hb hn hc Ag Tm GD g1 g2 g3 g4 VT er;go_wp2_with fail;refine(an2 wr ar cr l YK Jn).mono ?_;rintro e w1⟨lv,rfl,KT,Ai,Et⟩;have HB1:=bH HB Ai;have FD:=Hi (JA.D9 KT);obtain⟨ql,cl,rfl⟩:=Bp KT;have u1:=ub Ai;have G1':=Hi (BH G1 u1 (fun _ _ f=>f));have G4':=Hi (fun i (h:i < (L.take k).length) (h':i < cs'.length)=>(G4 i h h').upd u1 (fun _ _ f=>f));clear KT Ai Et u1
   go_wp2_with (
    at_builtin
    refine wpList_append_own_at _ rfl _ _ _ rfl 0 61 i0 _ 1 24 underlying155 Bg AX AY Ba rfl (by omega) (.slice qo k co) k cs' rfl (G1'.alloc _) ⟨w1.heap.size,0,none⟩ 1 1 [.slice ql l.length cl] rfl rfl (World.news_of_block (cs:=#[.slice ql l.length cl]) (t:=61) (fr:=(0,0)) (AP w1 _)) (fun u hu=>by rw[FC] at hu;subst hu;exact FD.one) (by unfold maxLen;omega) (by omega) (AZ _) ?_;intro v' w2 hown AJ _ hat;have Du:=Hi (Kv.pushed CX.symm G1' FD G2 G3 G4' ((Ah w1.heap.size w1).alloc (Ae _) _) AJ hown);have Ak:=Hi ((HB1.alloc HB1.size _).grown AJ (Ay HB1.size (by rw[Ar];omega)) HN)
    have LZ:=Hi (show ∀ g,v'.ownBlock=some g→w.heap.size≤g from fun g hg=>by
     rcases hat with hat|hat
     ·rw[hat] at hg;exact HN g hg
     ·rw[hat] at hg;have:=Gu hg;rw[Ar] at this;have:=HB1.size;omega)
    clear hown AJ hat)
   go_roundw
   case rel=>exact⟨k+1,by omega,by go_num,by rw[U3.out];exact Du.out,Ak,LZ⟩
   case measure=>simp[intOf];omega
  ·obtain rfl:k=L.length:=(by omega);have HG:=Hi hg;clear hg hb hn;go_wp2;go_ret;exact⟨_,rfl,by have:=HG.out;rwa[I7 (Ae _)] at this,HB,HN⟩
section
variable {w:World}{x b:Nat}{gv:Value}{L:Bz}
theorem anH(h:Cj w x b gv L):Calls prog 80 #[.pointer (some ⟨x,0,none⟩)] w fun e w'=>e=.returned (.int .u64 (L.gen:Int))∧w=w':=by
 obtain⟨c0,c1,c2,c3,c4,c5,c6,cf⟩:=h.cells;clear h
 go_in
 go_wp2;go_ret;exact⟨rfl,rfl⟩
theorem fI(h:Cj w x b gv L):Calls prog 144 #[.pointer (some ⟨x,0,none⟩)] w fun e w'=>e=.returned (.int .i64 L.fault)∧w=w':=by
 obtain⟨c0,c1,c2,c3,c4,c5,c6,cf⟩:=h.cells;clear h
 go_in
 go_wp2;go_ret;exact⟨rfl,rfl⟩
theorem aBf(h:Cj w x b gv L):Calls prog 61 #[.pointer (some ⟨x,0,none⟩)] w fun e w'=>e=.returned (.int .i64 ((L.n -1 -L.used:Nat):Int))∧Bw w w':=by
 obtain⟨c0,c1,c2,c3,c4,c5,c6,cf⟩:=h.cells;have g1:=h.used;have g2:=h.n;have hv:((L.n -1 -L.used:Nat):Int)=(L.n:Int) -1 -(L.used:Int):=by omega
 have HV:=Hi hv;have e1:IntKind.i64.wrap ((L.n:Int) -1)=(L.n:Int) -1:=Eh _ (by omega);have e2:IntKind.i64.wrap ((L.n:Int) -1 -(L.used:Int))=(L.n:Int) -1 -(L.used:Int):=Eh _ (by omega);clear h hv
 go_in
 go_wp2
 go_quiet (fail)
 go_wp2;go_ret;rw[HV.out];exact⟨rfl,FM _ _⟩
theorem aB8(h:Cj w x b gv L)(hlen:L.groups.length≤1000000)(hall:∀ l∈L.groups,l.length≤1000000000):Calls prog 81 #[.pointer (some ⟨x,0,none⟩)] w fun e w'=>ady w L.groups e w':=by
 obtain⟨c0,c1,c2,c3,c4,c5,c6,cf⟩:=h.cells;have HG:=Hi h.groups;clear h
 go_in
 go_wp2_with fail;refine(aqC w gv L.groups HG hlen hall).mono ?_;rintro e w1⟨v',rfl,g1,g2,g3⟩;have G:=Hi (Cr g1 (Cr g2 g3));clear g1 g2 g3;go_wp2;go_ret;exact⟨v',rfl,G.1,G.2.1,G.2.2⟩
end
theorem zN(l:List (List UInt8)):(JE l).1.length≤rowLen l+68:=by
 unfold JE;cases h:Hu l with
 |none=>simp
 |some s=>
  obtain⟨a,ha,rfl⟩:=pR h;have h1:=uo ha;have h2:=RN (A9.le 4 a.length++a);rw[Az,A9.BV] at h2
  show(pad _).length≤_
  omega
theorem aB9(l:List (List UInt8))(a:Option Addr)(cap:Nat)(w:World)(hl:Dv w a l)(hlen:l.length≤maxLen)(DC:rowLen l≤10000000):
  Calls prog 60 #[.slice a l.length cap] w fun e w'=>e=.returned (.tuple #[.int .i64 (((JE l).1.length / 64:Nat):Int),.int .i64 (JE l).2])∧Bw w w':=by
 have HL:=Hi hl;have Gx:=Hi hlen;clear hl hlen
 go_in
 go_wp2_with fail;obtain⟨r1,r2,hr⟩:∃ r1 r2,JE l=(r1,r2):=⟨_,_,rfl⟩;have aCM:r1.length≤10000068:=by have:=zN l;rw[hr] at this;have h2:r1.length≤rowLen l+68:=this;omega
 have HR:=Hi hr;clear hr;refine(bK l a cap w HL Gx DC).mono ?_;rw[HR.out];rintro e w1⟨rfl,hb⟩;have HB:=Hi hb;clear hb;have hv:((r1.length / 64:Nat):Int)=(r1.length:Int) / 64:=by omega
 have HV:=Hi hv;clear hv;go_wp2;go_ret2;rw[HR.out];refine⟨?_,HB⟩
 show _=Ending.returned (.tuple #[.int .i64 ((r1.length / 64:Nat):Int),.int .i64 r2])
 rw[HV.out];rfl
end
section
open Go.Sort Go.Shelf
def agi:Go.Shelf.Ren:=⟨fun|7=>169|10=>231|n=>n,fun|23=>113|26=>9|3=>109|28=>256|0=>0|27=>255|33=>231|4=>4|n=>n,fun|n=>n⟩
theorem agh:Go.Proofs.SlLaysZ.n7 prog agi:={
 mixed:=by kernel_rfl
 f7:=⟨Tryz.f169.name,by decide,func169.trans (congrArg some (by kernel_rfl))⟩
 f10:=⟨Tryz.f231.name,by decide,func231.trans (congrArg some (by kernel_rfl))⟩
 t0:=underlying0
 a0:=Tryz.isAgg0
 z0:=Tryz.sizeOf0
 v0:=Tryz.zeroValue0
 t4:=underlying4
 a4:=Tryz.isAgg4
 z4:=Tryz.sizeOf4
 v4:=Tryz.zeroValue4
 t23:=underlying113
 a23:=Tryz.isAgg113
 z23:=Tryz.sizeOf113
 v23:=Tryz.zeroValue113
 t26:=underlying9
 a26:=Tryz.isAgg9
 z26:=Tryz.sizeOf9
 v26:=Tryz.zeroValue9
 t27:=underlying255
 a27:=Tryz.isAgg255
 z27:=Tryz.sizeOf255
 v27:=Tryz.zeroValue255
 t28:=underlying256
 a28:=Tryz.isAgg256
 z28:=Tryz.sizeOf256
 v28:=Tryz.zeroValue256
 t33:=underlying231
 a33:=Tryz.isAgg231
 z33:=Tryz.sizeOf231
 v33:=Tryz.zeroValue231 }
def agt:Go.Shelf.Ren:=⟨fun|6=>168|8=>230|9=>70|11=>267|13=>155|12=>154|23=>226|24=>227|14=>217|15=>218|16=>219|17=>220|18=>221|19=>222|20=>223|21=>224|22=>225|25=>261|26=>262|27=>263|28=>264|29=>265|30=>266|31=>278|n=>n,fun|26=>9|28=>256|24=>61|0=>0|3=>3|37=>214|48=>281|50=>149|4=>4|40=>298|39=>297|45=>302|5=>5|9=>9|51=>331|55=>334|57=>340|58=>341|33=>231|n=>n,fun|n=>n⟩
theorem zz:Go.Proofs.SlLaysZ.n6 prog agt:={
 mixed:=by kernel_rfl
 f6:=⟨Tryz.f168.name,by decide,func168.trans (congrArg some (by kernel_rfl))⟩
 f8:=⟨Tryz.f230.name,by decide,func230.trans (congrArg some (by kernel_rfl))⟩
 f11:=⟨Tryz.f267.name,by decide,func267.trans (congrArg some (by kernel_rfl))⟩
 t0:=underlying0
 a0:=Tryz.isAgg0
 z0:=Tryz.sizeOf0
 v0:=Tryz.zeroValue0
 t24:=underlying61
 a24:=Tryz.isAgg61
 z24:=Tryz.sizeOf61
 v24:=Tryz.zeroValue61
 t26:=underlying9
 a26:=Tryz.isAgg9
 z26:=Tryz.sizeOf9
 v26:=Tryz.zeroValue9
 t28:=underlying256
 a28:=Tryz.isAgg256
 z28:=Tryz.sizeOf256
 v28:=Tryz.zeroValue256
 i26:=by kernel_rfl }
def ash:Go.Shelf.Ren:=⟨fun|6=>70|8=>155|9=>154|19=>226|20=>227|21=>217|22=>218|23=>219|24=>220|25=>221|26=>222|27=>223|28=>224|29=>225|36=>261|31=>262|32=>263|37=>264|38=>265|39=>266|41=>278|n=>n,fun|27=>61|29=>9|3=>3|32=>214|26=>61|0=>0|44=>281|46=>149|4=>4|36=>298|35=>297|41=>302|5=>5|9=>9|53=>331|57=>334|63=>340|64=>341|n=>n,fun|n=>n⟩
theorem X7:Go.Proofs.SlLaysM.n6 prog ash:={
 mixed:=by kernel_rfl
 f6:=⟨Tryz.f70.name,by decide,func70.trans (congrArg some (by kernel_rfl))⟩
 f8:=func155.trans (congrArg some (by kernel_rfl))
 f9:=⟨Tryz.f154.name,by decide,func154.trans (congrArg some (by kernel_rfl))⟩
 f19:=func226.trans (congrArg some (by kernel_rfl))
 f20:=func227.trans (congrArg some (by kernel_rfl))
 f21:=⟨Tryz.f217.name,by decide,func217.trans (congrArg some (by kernel_rfl))⟩
 f22:=⟨Tryz.f218.name,by decide,func218.trans (congrArg some (by kernel_rfl))⟩
 f23:=⟨Tryz.f219.name,by decide,func219.trans (congrArg some (by kernel_rfl))⟩
 f24:=⟨Tryz.f220.name,by decide,func220.trans (congrArg some (by kernel_rfl))⟩
 f25:=⟨Tryz.f221.name,by decide,func221.trans (congrArg some (by kernel_rfl))⟩
 f26:=⟨Tryz.f222.name,by decide,func222.trans (congrArg some (by kernel_rfl))⟩
 f27:=⟨Tryz.f223.name,by decide,func223.trans (congrArg some (by kernel_rfl))⟩
 f28:=⟨Tryz.f224.name,by decide,func224.trans (congrArg some (by kernel_rfl))⟩
 f29:=⟨Tryz.f225.name,by decide,func225.trans (congrArg some (by kernel_rfl))⟩
 f31:=func262.trans (congrArg some (by kernel_rfl))
 f32:=func263.trans (congrArg some (by kernel_rfl))
 f36:=⟨Tryz.f261.name,by decide,func261.trans (congrArg some (by kernel_rfl))⟩
 f37:=⟨Tryz.f264.name,by decide,func264.trans (congrArg some (by kernel_rfl))⟩
 f38:=⟨Tryz.f265.name,by decide,func265.trans (congrArg some (by kernel_rfl))⟩
 f39:=⟨Tryz.f266.name,by decide,func266.trans (congrArg some (by kernel_rfl))⟩
 f41:=⟨Tryz.f278.name,by decide,func278.trans (congrArg some (by kernel_rfl))⟩
 t0:=underlying0
 a0:=Tryz.isAgg0
 z0:=Tryz.sizeOf0
 v0:=Tryz.zeroValue0
 t3:=underlying3
 a3:=Tryz.isAgg3
 z3:=Tryz.sizeOf3
 v3:=Tryz.zeroValue3
 t4:=underlying4
 a4:=Tryz.isAgg4
 z4:=Tryz.sizeOf4
 v4:=Tryz.zeroValue4
 t5:=underlying5
 a5:=Tryz.isAgg5
 z5:=Tryz.sizeOf5
 v5:=Tryz.zeroValue5
 t9:=underlying9
 a9:=Tryz.isAgg9
 z9:=Tryz.sizeOf9
 v9:=Tryz.zeroValue9
 t26:=underlying61
 a26:=Tryz.isAgg61
 z26:=Tryz.sizeOf61
 v26:=Tryz.zeroValue61
 t27:=underlying61
 a27:=Tryz.isAgg61
 z27:=Tryz.sizeOf61
 v27:=Tryz.zeroValue61
 t29:=underlying9
 a29:=Tryz.isAgg9
 z29:=Tryz.sizeOf9
 v29:=Tryz.zeroValue9
 t32:=underlying214
 a32:=Tryz.isAgg214
 z32:=Tryz.sizeOf214
 v32:=Tryz.zeroValue214
 t35:=underlying297
 a35:=Tryz.isAgg297
 z35:=Tryz.sizeOf297
 v35:=Tryz.zeroValue297
 t36:=underlying298
 a36:=Tryz.isAgg298
 z36:=Tryz.sizeOf298
 v36:=Tryz.zeroValue298
 t41:=underlying302
 a41:=Tryz.isAgg302
 z41:=Tryz.sizeOf302
 v41:=Tryz.zeroValue302
 t44:=underlying281
 a44:=Tryz.isAgg281
 z44:=Tryz.sizeOf281
 v44:=Tryz.zeroValue281
 t46:=underlying149
 a46:=Tryz.isAgg149
 z46:=Tryz.sizeOf149
 v46:=Tryz.zeroValue149
 t53:=underlying331
 a53:=Tryz.isAgg331
 z53:=Tryz.sizeOf331
 v53:=Tryz.zeroValue331
 t57:=underlying334
 a57:=Tryz.isAgg334
 z57:=Tryz.sizeOf334
 v57:=Tryz.zeroValue334
 t63:=underlying340
 a63:=Tryz.isAgg340
 z63:=Tryz.sizeOf340
 v63:=Tryz.zeroValue340
 t64:=underlying341
 a64:=Tryz.isAgg341
 z64:=Tryz.sizeOf341
 v64:=Tryz.zeroValue341 }
end
section
open Go.Sort Go.Shelf
open Af
attribute [local go_sem] O4
theorem zA(m:Nat):AnyZ.SortsIn prog agt Fence.wide m:=
 ⟨fun blk off cap ss W hH bX BL=>Dr.2 (AnyM.slices_Sort_string X7 blk off cap ss W hH bX BL),
  fun p cap W=>Dr.2 (AnyM.slices_Sort_string_none X7 p cap W)⟩
theorem arX(mb:Option Nat)(W:World):Calls prog 169 #[.map mb] W fun e w'=>e=.returned (.func (.func 231) #[] #[.pointer (some ⟨W.heap.size,0,none⟩)])∧w'=W.alloc (.cells #[.map mb] 113):=
 Dr.1 (AnyZ.keys_in agh Fence.wide 5 trivial rfl mb W)
theorem axj{F:M}(h:Up F){ss:List T}(hp:ss.Perm (F.map (·.1))):ss.mergeSort (fun x y=>decide (x≤y))=F.map (·.1):=by
 have e:ss.mergeSort leB=(F.map (·.1)).mergeSort leB:=mergeSort_of_perm hp;have e2:(F.map (·.1)).mergeSort leB=F.map (·.1):=by
  refine List.mergeSort_of_pairwise ?_;refine List.pairwise_map.2 (h.imp fun {a b} hab=>?_)
  show decide (a.1≤b.1)=true
  simpa using List.not_lt.1 (QQ hab)
 exact e.trans e2
theorem asi{w:World}{m:Nat}{F:M}(h:CG w m F)(hlen:F.length≤1000000):
  Calls prog 168 #[.func (.func 231) #[] #[.pointer (some ⟨w.heap.size,0,none⟩)]] (w.alloc (.cells #[.map (some m)] 113)) fun e w'=>
   ∃ v,e=.returned v∧w'.ownsRow (w.heap.size+1) 9 1 v F.length ((F.map (·.1)).map encStr)∧Bw w w':=by
 obtain⟨hu,kv,Zr,Uw⟩:=h;obtain⟨D,hown,BL,dx⟩:=Uw.keyed;have DX:kv.length=F.length:=by rw[Zr.length_eq];unfold Pq;rw[Ca]
 have Zi:(kv.map (·.1)).Perm (F.map (·.1)):=by rw[←aga];exact Zr.map _
 have Ct:=hown.lt;have Lv:SeqGives Fence.wide 2 prog 231 #[.pointer (some ⟨w.heap.size,0,none⟩)] encStr (fun ss=>ss.Perm (strKeys D)) (Maps.size D) (w.alloc (.cells #[.map (some m)] 113)):=
  AnyZ.keys_gives (ρ:=agi) { agh with } Fence.wide _ trivial rfl (by omega) w.heap.size m kv.length D _ (by simp) (by simp) (by
   obtain⟨es,clock,hb,Ft,hs,hD⟩:=hown;exact⟨es,clock,(Below.heap_alloc _ _ m Ct).trans hb,Ft,hs,hD⟩)
 have cS:=AnyZ.sorted_in zz Fence.wide 5 trivial trivial trivial trivial rfl (by omega) (zA _) (enters_of func70 (by kernel_rfl) rfl) 231 #[.pointer (some ⟨w.heap.size,0,none⟩)] trivial (enters_of func231 (by kernel_rfl) rfl) _ _ (by unfold maxLen;omega) (by omega) _ Lv;refine(Dr.1 cS).mono ?_;rintro e w'⟨v,ss,rfl,hS,Ag,_,hb⟩;have Mi:ss.Perm (F.map (·.1)):=(hS.trans dx.symm).trans Zi;have e1:ss.length=F.length:=by have:=Mi.length_eq;simpa using this
 rw[e1,axj hu Mi] at Ag;exact⟨v,rfl,by rw[Ar] at Ag;exact Ag,((Ah _ w).alloc (Ae _) _).trans (hb.mono (by rw[Ar];omega))⟩
theorem az7(W:World)(s:List UInt8):(Instr.field 109 (.agg #[.string (bs s)]) 0).run prog W=.ok (.string (bs s)) W:=by
 simp[Instr.field,GK underlying109,go_sem,asAgg,Result.andThen]
def nX(W:World)(k:Nat):Prop:=∃ o,W.heap[k]?=some o∧o.isCells=false
def May(Q:World→Nat→Prop)(n₀:Nat)(W:World)(k:Nat):Prop:=Q W k∨(n₀≤k∧nX W k)
structure Po(Q:World→Nat→Prop)(n₀:Nat)(W W':World):Prop where
 upd:A7 (May Q n₀ W) W W'
 stay:∀ k,Q W' k→May Q n₀ W k∨W.heap.size≤k
theorem May.back{Q:World→Nat→Prop}{n₀:Nat}{A B:World}(h:Po Q n₀ A B){k:Nat}(hk:May Q n₀ B k):May Q n₀ A k∨A.heap.size≤k:=by
 rcases hk with hk|⟨h1,o,h2,h3⟩
 ·exact h.stay k hk
 ·by_cases hlt:k < A.heap.size
  ·by_cases hm:May Q n₀ A k
   ·exact .inl hm
   ·exact .inl (.inr ⟨h1,o,(h.upd.block k hlt hm).symm.trans h2,h3⟩)
  ·exact .inr (by omega)
theorem Po.trans{Q:World→Nat→Prop}{n₀:Nat}{A B C:World}(h:Po Q n₀ A B)(k:Po Q n₀ B C):Po Q n₀ A C:=
 ⟨h.upd.trans k.upd (fun _ hi=>May.back h hi),fun i hi=>by
  rcases k.stay i hi with hi|hi
  ·exact May.back h hi
  ·exact .inr (Ay h.upd.size hi)⟩
theorem Po.putObj{Q:World→Nat→Prop}{n₀:Nat}{W:World}{l:Nat}{o o':Obj}(hl:n₀≤l)(ho:W.heap[l]?=some o)(hc:o.isCells=false)(hQ:∀ k,Q (W.putObj l o') k→May Q n₀ W k∨W.heap.size≤k):Po Q n₀ W (W.putObj l o'):=
 ⟨A7.of_grownBy (grownBy_putObj' W l o') (fun k e=>by cases e;exact .inr ⟨hl,o,ho,hc⟩),hQ⟩
theorem Po.axx{Q:World→Nat→Prop}{n₀:Nat}{W W':World}(h:A7 (May Q n₀ W) W W')(hQ:∀ k,k < W.heap.size→W'.heap[k]?=W.heap[k]?→Q W' k→Q W k):Po Q n₀ W W':=
 ⟨h,fun k hk=>by
  by_cases hlt:k < W.heap.size
  ·by_cases hm:May Q n₀ W k
   ·exact .inl hm
   ·exact .inl (.inl (hQ k hlt (h.block k hlt hm) hk))
  ·exact .inr (by omega)⟩
abbrev fM:={ p:T×T // Fq p.1 p.2=true }
def oO(x:fM):Array Value:=#[.string (bs x.1.1),.string (bs x.1.2)]
theorem zl:∀ (F:M),Af.Good F→∃ L:List fM,L.map (·.1)=F
 |[],_=>⟨[],rfl⟩
 |p :: F,h=>by
  obtain⟨L,hL⟩:=zl F (fun q hq=>h q (GI _ hq));exact⟨⟨p,h p Hg⟩ :: L,by rw[Ce,hL]⟩
theorem agu(mb:Option Nat)(w:World):
  Calls prog 84 #[.map mb] w fun e w'=>e=.returned (.func (.func 167) #[] #[.pointer (some ⟨w.heap.size,0,none⟩)])∧w'=w.alloc (.cells #[.map mb] 113):=by
 go_in
 go_wp2;go_ret;exact⟨rfl,rfl⟩
theorem agv(n:Nat)(hn:1≤n)(Q:World→Nat→Prop)(n₀ Bx m:Nat)(F:M)(L:List fM)(hL:L.map (·.1)=F)(w:World)(hc:w.cell? ⟨Bx,0,none⟩=some (.map (some m)))(hM:CG w m F)(hlen:F.length≤1000000)(av2:w.heap.size≤n₀)(hQ1:∀ W k,Q W k→k≠m∧k≠Bx)
  (hQ2:∀ W W' g,Bw w W→Bw W W'→W.heap.size≤g→Bf W' g 9→¬ Q W' g):
  SeqStopsK Fence.wide n prog 167 #[.pointer (some ⟨Bx,0,none⟩)] oO (Po Q n₀) (fun ys=>ys=L) (fun _=>True) L.length w:=fun l J Jx W hW hJ _ hY h0=>by
 have Ik:=D7 hc;have dE:=hM.lt;have Oq:=(hW.cell (p:=⟨Bx,0,none⟩) Ik).trans hc;have hM':=hM.below hW;have BL:=hW.size;have FN:L.length=F.length:=by rw[←hL,Ca]
 have Ai:Bw W (W.alloc (.cells #[.map (some m)] 113)):=(Ah _ _).alloc (Ae _) _;have HS:=Hi (asi hM' hlen);have HM:=Hi hM';have HL:=Hi hL;have Nt:=Hi FN;have Gx:=Hi hlen;have HC:=Hi Oq;have nE:=Hi hQ1;have xe:=Hi (fun W' g=>hQ2 W W' g hW);clear hc hM hM' hW hlen hQ1 hQ2 FN hL;refine callsIn_of_wp func167 rfl trivial ?_ rfl;simp only[ntmps167,Kr,BN,Iu,Nat.reduceAdd,Nat.reduceSub,Mm,Mq,Mv,Ms,Ev,Hf];have hfK:Fence.wide.fn 169:=trivial;have hfS:Fence.wide.fn 168:=trivial
 gi_wp2_with (first
  |(gi_at_call 169;refine(Dr.2 (arX _ _)).mono ?_;rintro e w' ⟨rfl,rfl⟩)
  |(gi_at_call 168;refine(Dr.2 HS).mono ?_;rintro e W1 ⟨v,rfl,Ag,Ll⟩;obtain⟨q,cap,rfl⟩:=Bp Ag))
 have hJ1:J [] W1:=hJ _ _ _ none h0 ⟨Ll.os,Ll.tape,Ll.output,Ll.size,fun k hk _=>Ll.block k hk⟩ (fun r e=>by cases e);have Co:=Hi Ag;have CL:=Hi Ll;clear Ag Ll h0
 gi_loopw [9] (fun i wr=>∃ k:Nat,k≤F.length∧i=.int .i64 k∧J (L.take k) wr∧Po Q n₀ W1 wr)
  (fun i _=>F.length -(intOf i).toNat)
 case atStart=>exact⟨0,AZ _,rfl,by rw[I8];exact hJ1,⟨A7.refl _ _,fun k hk=>.inl (.inl hk)⟩⟩
 case round=>
  obtain⟨k,hk,rfl,Rs,Gn⟩:=hrel;by_cases hlt:k < F.length
  ·have hkL:k < L.length:=(by rw[Nt.out];exact hlt);obtain⟨g,rfl⟩:∃ g,q=some ⟨g,0,none⟩:=by
    rcases Co.2 with⟨e1,e2⟩|⟨g,cap,_,e1,_⟩
    ·omega
    ·exact⟨g,by injection e1⟩
   have Ut:=CB Co (g:=g) rfl;have hgW:W.heap.size+1≤g:=by
    rcases Co.2 with⟨e1,_⟩|⟨g',cap',_,e1,hb,_⟩
    ·injection e1 with e1;cases e1
    ·injection e1 with e1;cases e1;exact hb
   have hnq:¬ Q W1 g:=xe W1 g CL (by omega) Ut;have Jo:¬ May Q n₀ W1 g:=by
    rintro(h|⟨_,o,h1,h2⟩)
    ·exact hnq h
    ·obtain⟨cs,fr,h3⟩:=Ut;rw[h1] at h3;cases h3;cases h2
   have aiO:∀ i,i < F.length→wr.cell? ⟨g,i,none⟩=W1.cell? ⟨g,i,none⟩:=fun i hi=>World.cell?_of_block (Gn.upd.block g Ut.lt Jo)
   have PS:=CL.size;have hxF:F[k]=L[k].1:=by
    have e:(L.map (·.1))[k]?=F[k]? :=(by rw[HL.out]);rw[O3,Ei hkL,Ei hlt] at e;simpa using e.symm
   have qX:wr.cell? ⟨g,k,none⟩=some (.string (bs L[k].1.1)):=by
    rw[aiO k hlt];have:=Co.cells (g:=g) rfl k (encStr F[k].1) (by rw[O3,O3,Ei hlt];rfl);rw[add_plain,hxF] at this;exact this
   have Z5:wr.cell? ⟨Bx,0,none⟩=some (.map (some m)):=by
    refine(World.cell?_of_block (Gn.upd.block Bx (by omega) ?_)).trans ((CL.cell (p:=⟨Bx,0,none⟩) (by show Bx < W.heap.size;omega)).trans HC);rintro(h|⟨h1,_⟩)
    ·exact(nE _ _ h).2 rfl
    ·omega
   have hmr:CG wr m F:=by
    refine(HM.below CL).upd Gn.upd ?_;rintro(h|⟨h1,_⟩)
    ·exact(nE _ _ h).1 rfl
    ·omega
   have hxm:(L[k].1.1,L[k].1.2)∈F:=by
    rw[←hxF];exact Dc hlt
   have hgx:=get_mem hmr.1 hxm;have kI:=L[k].2;have hxb:L[k].1.1.length≤32∧L[k].1.2.length≤65535:=(by unfold Fq at kI;simp at kI;exact⟨kI.2.1,kI.2.2⟩);have Jn:=hmr.lookup L[k].1.1 (by unfold maxLen;omega);rw[hgx,Option.getD_some] at Jn;have Jm:=IM prog 61 9 underlying61 1 (by kernel_rfl) ⟨g,0,none⟩ F.length cap k hlt;rw[add_plain,Nat.mul_one] at Jm;have CX:=Hi (show L.take (k+1)=L.take k++[L[k]] by rw[List.take_add_one,Ei hkL];rfl);obtain⟨fn,tmps,assign,body,hy,hR⟩:=hY _ L[k] wr Rs (by rw[Be];omega);unfold oO at hy;have Dh:=Hi Gn;clear Ut hgW hnq Jo aiO hxF hmr hxm hgx kI hxb Gn Rs PS;generalize L[k]=x at*;clear hkL;obtain⟨⟨xn,xd⟩,hxx⟩:=x;simp only at qX Jn hy;have Xt:=fun W=>az7 W xd
   have hFL:=Gx.out
   gi_wp2
   refine hR.mono ?_;rintro e W3 (⟨rfl,hJ3,Xy⟩|⟨rfl,aa2⟩)
   ·gi_wp2
    go_roundw
    case rel=>exact⟨k+1,by omega,by simp,by rw[CX.out];exact hJ3,Dh.trans Xy⟩
    case measure=>simp[intOf];omega
   ·gi_wp2
    refine EI (results_none rfl _ _ _) rfl ?_;exact⟨⟨_,rfl⟩,.inr ⟨_,trivial,aa2⟩⟩
  ·obtain rfl:k=F.length:=by omega
   gi_wp2
   go_end0
   exact⟨⟨_,rfl⟩,.inl ⟨_,rfl,by rw[←Nt.out,Dq] at Rs;exact Rs⟩⟩
end
section
open Go.Sort Go.Shelf
open Af
attribute [local go_sem] O4
theorem aA1{fn:Func}{q:Tmp}(h:fn.results=#[.cell q 61])(tmps:Array Value)(w:World)(g:Nat)(p:Option Addr)(n c:Nat)(hq:tmps.getD q undef=.pointer (some ⟨g,0,none⟩))(hc:w.cell? ⟨g,0,none⟩=some (.slice p n c)):
  (results fn tmps).run prog w=.ok (.slice p n c) w:=by
 have hq':tmps[q]?.getD undef=.pointer (some ⟨g,0,none⟩):=by simpa using hq
 simp only[results,h];simp[hq',asAddr];go_simp
def xV(B m:Nat)(W:World)(k:Nat):Prop:=k=B∨(k≠m∧k≠B+1∧∃ v,W.cell? ⟨B,0,none⟩=some v∧v.ownBlock=some k)
theorem akV{B m:Nat}(hm:m < B)(W:World)(k:Nat)(h:xV B m W k):k≠m∧k≠B+1:=by
 rcases h with rfl|⟨h1,h2,_⟩
 ·omega
 ·exact⟨h1,h2⟩
theorem Bf.TD{W:World}{k:Nat}{t:TypeId}(h:Bf W k t):¬ nX W k:=by
 obtain⟨cs,fr,h⟩:=h;rintro⟨o,h1,h2⟩;rw[h] at h1;cases h1;cases h2
theorem anv{A B:World}{row:Option Nat}{n:Nat}(hg:A.grownBy B row)(hr:∀ r,row=some r→n≤r∧∃ o:Obj,A.heap[r]?=some o∧o.isCells=false):A7 (fun k=>n≤k∧nX A k) A B:=
 A7.of_grownBy hg (fun k e=>hr k e)
theorem WW{W:World}{B:Nat}{t:TypeId}{v:Value}(h:Boxed W B t v):Bf W B t:=⟨_,_,h⟩
theorem bn{F:Nat→Prop}{W W':World}{B:Nat}{t:TypeId}{v:Value}(h:Boxed W B t v)(hu:A7 F W W')(hF:¬ F B):Boxed W' B t v:=(hu.block B h.lt hF).trans h
theorem arZ{w:World}{y b m x:Nat}{gv:Value}{F:St}(h:Dg w y b m x gv F)(hg:Af.Good F.m)(hlen:F.m.length≤1000000):
  Calls prog 28 #[.pointer (some ⟨y,0,none⟩)] w fun e w'=>∃ v,e=.returned v∧w'.ownsRow 0 9 1 v F.m.length (strCells (F.m.map (·.1)))∧Bw w w'∧∀ k,v.ownBlock=some k→w.heap.size≤k:=by
 have hy:y < w.heap.size:=Ao h.struct;have dE:=h.map.lt;obtain⟨_,_,_,_,c4,_⟩:=h.cells;have HM:=Hi h.map;have HG:=Hi hg;have Gx:=Hi hlen;clear h hg hlen;refine(Dr (n:=6)).1 ?_;refine callsIn_of_wp_marks func28 rfl trivial ?_ rfl;simp only[ntmps28,Kr,BN,Iu,Nat.reduceAdd,Nat.reduceSub,Mm,Mq,Mv,Ms,Ev,Hf];have hfK:Fence.wide.fn 84:=trivial
 gi_wp2_with (gi_at_call 84;refine(Dr.2 (agu _ _)).mono ?_;rintro e w1 ⟨rfl,rfl⟩)
 have Pv:Boxed ((w.alloc (.cells #[.slice none 0 0] 61)).alloc (.cells #[.map (some m)] 113)) w.heap.size 61 (.slice none 0 0):=(Boxed.new w 61 (.slice none 0 0)).alloc _;have jo:Boxed ((w.alloc (.cells #[.slice none 0 0] 61)).alloc (.cells #[.map (some m)] 113)) (w.heap.size+1) 113 (.map (some m)):=by
  have:=Boxed.new (w.alloc (.cells #[.slice none 0 0] 61)) 113 (.map (some m));rwa[Ar] at this
 have Bb:Bw w ((w.alloc (.cells #[.slice none 0 0] 61)).alloc (.cells #[.map (some m)] 113)):=((Ah _ _).alloc (Ae _) _).alloc (by simp) _;have MX:((w.alloc (.cells #[.slice none 0 0] 61)).alloc (.cells #[.map (some m)] 113)).heap.size=w.heap.size+2:=by rw[Ar,Ar]
 have Xf:=HM.below Bb;obtain⟨L,hL⟩:=zl F.m HG.out;have qh:L.length=F.m.length:=by rw[←hL,Ca]
 generalize (w.alloc (.cells #[.slice none 0 0] 61)).alloc (.cells #[.map (some m)] 113)=W0 at*;have Lv:=agv 5 (by omega) (xV w.heap.size m) (w.heap.size+2) (w.heap.size+1) m F.m L hL W0 jo.cell Xf Gx (by omega) (fun W k hk=>akV dE W k hk)
  (fun W W' g hW jl hg Ct hq=>by
   have h1:=hW.size;rcases hq with rfl|⟨_,_,v,hv,hvb⟩
   ·omega
   ·rw[jl.cell (p:=⟨w.heap.size,0,none⟩) (by show w.heap.size < _;omega),hW.cell (p:=⟨w.heap.size,0,none⟩) (by show w.heap.size < _;omega),Pv.cell] at hv;cases hv;simp[Value.ownBlock] at hvb)
 obtain⟨i0,Bg,AX,AY,Ba⟩:=DI RX;have xy:=Hi Lv;clear Lv;refine wpIn_rangeFunc_ownH (n:=6) rfl (by omega) (gf:=167) (lb:=#[.pointer (some ⟨w.heap.size+1,0,none⟩)]) rfl trivial (enters_of func167 (by kernel_rfl) rfl) xy (fun h k=>h.trans k)
  (fun W l o o' hl ho hc _=>Po.putObj (by omega) ho hc (fun k hk=>?aaZ)) (Ah _ _) (fun _=>rfl)
  (fun pre W=>(Boxed W (w.heap.size+1) 113 (.map (some m))∧∃ v,Boxed W w.heap.size 61 v∧W.ownsRow w.heap.size 9 1 v pre.length (strCells (pre.map (·.1.1))))∧Bw w W)
  (fun _ _ _=>False)
  (fun s A B row hs hg hr=>?hown)
  (fun _ _ _ _ _ hs _ _=>hs)
  ⟨⟨jo,_,Pv,by rw[Kq,lK];exact E5 _ _ _ _⟩,Bb⟩
  (fun x a' _=>a'={ tmps:=#[.pointer (some ⟨y,0,none⟩),undef,.pointer (some ⟨w.heap.size,0,none⟩),.string (bs x.1.1),.pointer (some ⟨y,0,none⟩),.bool false,.pointer (some ⟨y,0,none⟩),.pointer (some ⟨y,0,none⟩),.pointer (some ⟨y,4,none⟩),.map (some m),.func (.func 167) #[] #[.pointer (some ⟨w.heap.size+1,0,none⟩)],.string (bs x.1.1),.string (bs x.1.2),undef,undef,undef,undef,undef],defers:=[] })
  (fun x a' _ X Y row hs hg hr=>hs)
  ?assign ?body ?done ?stop
 case aaZ=>
  have hlt:l < W.heap.size:=Ao ho;rcases hk with rfl|⟨h1,h2,v,h3,h4⟩
  ·exact .inl (.inl (.inl rfl))
  ·refine .inl (.inl (.inr ⟨h1,h2,v,?_,h4⟩));rw[←h3];exact((A7.of_grownBy (F:=fun k=>k=l) (grownBy_putObj' W l o') (fun k e=>by cases e;rfl)).cell (p:=⟨w.heap.size,0,none⟩) (by show w.heap.size < _;omega) (by show ¬ w.heap.size=l;omega)).symm
 case hown=>
  have hu:=anv hg hr;obtain⟨⟨g1,v,g2,g3⟩,g4⟩:=hs;exact⟨⟨bn g1 hu (fun h=>(WW g1).TD h.2),v,bn g2 hu (fun h=>(WW g2).TD h.2),BH g3 hu (fun g hg h=>(CB g3 hg).TD h.2)⟩,Cq g4 hu (fun i hi=>by omega) g4.size⟩
 case assign=>
  rintro l pre x W K hI hK;unfold oO
  gi_wp2
  exact hK _ _ ((KeepsOthers.refl _).from _) ⟨A7.refl _ _,fun k hk=>.inl (.inl hk)⟩ hI rfl
 case body=>
  rintro l pre x a' W hl⟨r,hr⟩ ⟨⟨g1,v,g2,g3⟩,g4⟩ rfl hlt;have hv:=g2.cell;have hf:=g2.frozen;have aCk:=g2.lt;have aCV:(pre.map (·.1.1)).length=pre.length:=Ca _;have Gp:pre.length≤1000000:=by have:=Gx.out;omega
  have aDc:=g4.size;have Iw:=Hi g1;have Du:=Hi g2;have GL:=Hi g3;have Iz:=Hi g4;have atj:1≤6 -1 -1:=by omega
  clear g1 g2 g3 g4
  gi_wp2_with (gi_at_builtin;refine wpListIn_append_own_at _ rfl _ _ 61 rfl w.heap.size 9 i0 _ 1 16 underlying61 Bg AX AY Ba rfl (by decide) _ _ _ rfl (GL.alloc _) ⟨W.heap.size,0,none⟩ 1 1 [.string (bs x.1.1)] rfl rfl (cell_one_new _ _ _) (by simp[Value.oneCell']) (by unfold maxLen;omega) (by omega) (by simp;omega) ?_;intro v' w1 Ck AJ _ hat;obtain⟨g',cap',rfl⟩:=ownsRow_succ Ck;obtain⟨J4,Gr,DN,K9,Ad⟩:=Du.appended (by decide) GL Iz.size (Ae _) Ck AJ;have Gi:=J4.cell;have Xr:=J4.frozen)
  have Eu:A7 (May (xV w.heap.size m) (w.heap.size+2) W) W (w1.setCell ⟨w.heap.size,0,none⟩ (.slice (some ⟨g',0,none⟩) (pre.length+1) cap')):=by
   refine(((A7.refl _ W).alloc _).trans (G:=fun k=>v.ownBlock=some k) (A7.of_grownBy AJ (fun k e=>e)) (fun k hk=>.inl (.inl (.inr ⟨?_,?_,v,Du.cell,hk⟩)))).setCell (p:=⟨w.heap.size,0,none⟩) (.inl (.inl (.inl rfl))) _
   ·intro e;subst e;rcases GL.2 with⟨e1,_⟩|⟨g,cap,cur,e1,Mc,_⟩
    ·subst e1;simp[Value.ownBlock] at hk
    ·subst e1;simp[Value.ownBlock] at hk;omega
   ·intro e;subst e;exact Bf.ne (CB GL hk) (WW Iw) (by decide) rfl
  have Ea:Boxed (w1.setCell ⟨w.heap.size,0,none⟩ (.slice (some ⟨g',0,none⟩) (pre.length+1) cap')) (w.heap.size+1) 113 (.map (some m)):=by
   refine bn Iw Eu ?_;rintro(h|⟨_,h⟩)
   ·exact(akV dE _ _ h).2 rfl
   ·exact(WW Iw).TD h
  refine⟨K9.from _,⟨Eu,fun k hk=>?_⟩,⟨Ea,_,Gr,?_⟩,Iz.trans Ad⟩
  ·rcases hk with rfl|⟨h1,h2,u,h3,h4⟩
   ·exact .inl (.inl (.inl rfl))
   ·rw[Gr.cell] at h3;cases h3;rcases hat with hat|hat
    ·rw[hat] at h4;exact .inl (.inl (.inr ⟨h1,h2,v,Du.cell,h4⟩))
    ·rw[hat] at h4;cases h4;exact .inr (by rw[Ar];omega)
  ·rw[Az,D6]
   show World.ownsRow _ _ _ _ _ (pre.length+1) (strCells (pre.map (·.1.1)++[x.1.1]))
   rw[RV];exact DN
 case done=>
  rintro DD ys W hDD rfl⟨⟨g1,v,g2,g3⟩,g4⟩ hK;have hv:=g2.cell;have hf:=g2.frozen;have Du:=Hi g2;have GL:=Hi g3;have Iz:=Hi g4;obtain⟨q,cap,rfl⟩:=Bp g3;clear g1 g2 g3 g4
  gi_wp2
  have Df:(W.setCell ⟨w.heap.size,0,none⟩ (.slice q F.m.length cap)).heap[DD]?=some (.deferred (some [])):=(KeepsOthers.setCell _ _ _).same DD _ hK rfl;refine⟨by simp,.inl ⟨_,_,rfl,run_takeDeferred Df,?_⟩⟩;have hu:A7 (fun k=>k=w.heap.size∨k=DD) W ((W.setCell ⟨w.heap.size,0,none⟩ (.slice q F.m.length cap)).putObj DD (.deferred none)):=
   ((A7.refl (fun k=>k=w.heap.size∨k=DD) W).setCell (p:=⟨w.heap.size,0,none⟩) (.inl (.inl rfl)) _).trans (G:=fun k=>k=DD) (A7.of_grownBy (grownBy_putObj' _ DD (.deferred none)) (fun k e=>by cases e;rfl)) (fun k e=>.inl (.inr e))
  have Eu:A7 (fun k=>k=DD) (W.setCell ⟨w.heap.size,0,none⟩ (.slice q F.m.length cap)) ((W.setCell ⟨w.heap.size,0,none⟩ (.slice q F.m.length cap)).putObj DD (.deferred none)):=A7.of_grownBy (grownBy_putObj' _ DD (.deferred none)) (fun k e=>by cases e;rfl);have Jj:Boxed (W.setCell ⟨w.heap.size,0,none⟩ (.slice q F.m.length cap)) w.heap.size 61 (.slice q F.m.length cap):=Du.set _;have Aw:Boxed ((W.setCell ⟨w.heap.size,0,none⟩ (.slice q F.m.length cap)).putObj DD (.deferred none)) w.heap.size 61 (.slice q F.m.length cap):=bn Jj Eu (by show ¬ w.heap.size=DD;omega);refine⟨_,aA1 rfl _ _ w.heap.size q _ cap rfl Aw.cell,_,rfl,?_,Cq Iz hu (fun i hi=>by rcases hi with rfl|rfl<;>omega) Iz.size,fun k hk=>?_⟩
  ·have e1:ys.map (·.1.1)=F.m.map (·.1):=by rw[←hL,Ko];rfl
   have this:=BH GL hu (fun g hg h=>by
    have Oo:=CB GL hg;rcases h with rfl|rfl
    ·exact Bf.ne Oo (WW Du) (by decide) rfl
    ·exact Oo.TD ⟨_,hK,rfl⟩)
   have anj:World.ownsRow _ 0 _ _ _ _ _:=⟨this.1,by
    rcases this.2 with h|⟨g,c,cur,h1,_,h3⟩
    ·exact .inl h
    ·exact .inr ⟨g,c,cur,h1,AZ _,h3⟩⟩
   rw[e1,qh] at anj;exact anj
  ·rcases GL.2 with⟨e1,_⟩|⟨g,c,cur,e1,Mc,_⟩
   ·rw[←qh,e1] at hk;simp[Value.ownBlock] at hk
   ·rw[←qh,e1] at hk;simp[Value.ownBlock] at hk;omega
 case stop=>
  rintro DD c pre W _ _ h _;exact h.elim
end
section
open Go.Sort Go.Shelf
open Af
attribute [local go_sem] O4
def ve(B m Bx:Nat)(W:World)(k:Nat):Prop:=k=B∨(k≠m∧k≠Bx∧Bf W k 5)
theorem Ep.kind{w:World}{b:Nat}{l:List UInt8}{fp:Nat→Prop}(h:Ep w b l fp){k:Nat}(hk:fp k):k=b∨Bf w k 5:=by
 obtain⟨p,v,_,_,h3,_,_,rfl⟩:=h;rcases hk with hk|hk
 ·exact .inl hk
 ·exact .inr (CB h3 hk)
theorem Ep.blk{w:World}{b:Nat}{l:List UInt8}{fp:Nat→Prop}(h:Ep w b l fp):Bf w b 210:=by
 obtain⟨p,v,h1,_⟩:=h;exact⟨_,_,h1⟩
theorem avW{F:Nat→Prop}{W W':World}(n:Nat)(hu:A7 F W W')(hF:∀ k,F k→¬ nX W k):KeepsFrom n W W':=
 ⟨hu.size,fun k o _ ho hc=>(hu.block k (Ao ho) (fun h=>hF k h ⟨o,ho,hc⟩)).trans ho⟩
theorem afY(x:fM):x.1.1.length≤32∧x.1.2.length≤65535:=by
 have h:=x.2;unfold Fq at h;simp at h;exact⟨h.2.1,h.2.2⟩
theorem art(pre:List fM):((pre.map (·.1)).flatMap SH).length≤65575*pre.length:=by
 rw[p8]
 induction pre with
 |nil=>simp
 |cons x pre ih=>
  have:=afY x;have hc:cost x.1=8+x.1.1.length+x.1.2.length:=rfl;rw[Ce,Ce,Eo,BN];omega
theorem arx{w:World}{m:Nat}{F:M}(h:CG w m F)(hg:Af.Good F)(hc:used F≤1000000):
  Calls prog 135 #[.map (some m)] w fun e w'=>e=.returned (.string (bs (Af.bytes F)))∧Bw w w':=by
 have dE:=h.lt;have Hz:=QV F;have auM:F.length≤1000000:=by omega
 have Ry:=h.below ((Ah w.heap.size w).alloc (Ae _) (.cells #[.pointer none,.slice none 0 0] 210));have jR:=fun ty=>Ry.len ty
 have HM:=Hi Ry;have HG:=Hi hg;have HC:=Hi hc;have Pj:=Hi Hz;have AR:=Hi ((Ah w.heap.size w).alloc (Ae _) (.cells #[.pointer none,.slice none 0 0] 210));have De:=Hi (Ep.made w);clear h hg hc Hz Ry;refine(Dr (n:=6)).1 ?_;refine callsIn_of_wp_marks func135 rfl trivial ?_ rfl;simp only[ntmps135,Kr,BN,Iu,Nat.reduceAdd,Nat.reduceSub,Mm,Mq,Mv,Ms,Ev,Hf]
 gi_wp2
 refine⟨trivial,(Dr.2 (pz F.length _ (by omega))).mono ?_⟩;rintro e w1⟨rfl,hb⟩;have Q8:=Hi (De.upd (ub hb) (fun _ _ f=>f));have HB1:=bH AR hb;have aJ:=Hi (HM.below hb);clear hb
 gi_wp2
 refine⟨trivial,(Dr.2 (WY Q8 (A9.le 4 F.length) (by simp[A9.BV]))).mono ?_⟩;rintro e w2⟨rfl,fp2,Xl,Eu,Lu⟩;have qL:∀ k,fp2 k→w.heap.size≤k:=fun k hk=>by
  rcases Lu k hk with h|h
  ·rcases h with rfl|h
   ·exact Ae _
   ·simp[Value.ownBlock] at h
  ·exact Ay HB1.size h
 have zV:∀ k,(k=w.heap.size∨(Value.slice none 0 0).ownBlock=some k)→k=w.heap.size:=fun k hk=>by
  rcases hk with h|h
  ·exact h
  ·simp[Value.ownBlock] at h
 have Ak:=Hi (Cq HB1 Eu (fun k hk=>by rw[zV k hk];exact Ae _) HB1.size);have aK:=Hi (aJ.upd Eu (fun hk=>by have:=zV m hk;omega));have OW:=Hi Xl;have gK:=Hi qL;clear Q8 HB1 aJ Xl Eu Lu qL zV De AR HM jR
 gi_wp2
 refine⟨trivial,(Dr.2 (agu _ _)).mono ?_⟩;rintro e w3⟨rfl,rfl⟩;have jo:Boxed (w2.alloc (.cells #[.map (some m)] 113)) w2.heap.size 113 (.map (some m)):=Boxed.new w2 _ _;have Jj:Bw w2 (w2.alloc (.cells #[.map (some m)] 113)):=(Ah _ _).alloc (Ae _) _;have Xf:=aK.below Jj;have ahJ:=OW.upd (ub Jj) (fun _ _ f=>f);have Bb:=Ak.trans (Jj.mono Ak.size);have VS:(w2.alloc (.cells #[.map (some m)] 113)).heap.size=w2.heap.size+1:=by rw[Ar]
 have hbB:w.heap.size < w2.heap.size:=OW.lt _ OW.own;obtain⟨L,hL⟩:=zl F HG.out;have qh:L.length=F.length:=by rw[←hL,Ca]
 generalize w2.alloc (.cells #[.map (some m)] 113)=W0 at*;generalize w2.heap.size=Bx at*
 have Lv:=agv 5 (by omega) (ve w.heap.size m Bx) (Bx+1) Bx m F L hL W0 jo.cell Xf auM (by omega) (fun W k hk=>by
   rcases hk with rfl|⟨h1,h2,_⟩
   ·omega
   ·exact⟨h1,h2⟩)
  (fun W W' g hW jl hg Ct hq=>by
   have h1:=hW.size;rcases hq with rfl|⟨_,_,h3⟩
   ·omega
   ·exact Bf.ne Ct h3 (by decide) rfl)
 have xy:=Hi Lv;have mZ:=Hi Xf;have aoi:=Hi ahJ;have AR:=Hi Bb;clear Lv Xf ahJ Bb Jj aK OW Ak
 gi_wp2
 refine wpIn_rangeFunc_ownH (n:=6) rfl (by omega) (gf:=167) (lb:=#[.pointer (some ⟨Bx,0,none⟩)]) rfl trivial (enters_of func167 (by kernel_rfl) rfl) xy (fun h k=>h.trans k)
  (fun W l o o' hl ho hc _=>Po.putObj (by omega) ho hc (fun k hk=>?aaZ)) (Ah _ _) (fun _=>rfl)
  (fun pre W=>(CG W m F∧Boxed W Bx 113 (.map (some m))∧∃ fp,Ep W w.heap.size (A9.le 4 F.length++(pre.map (·.1)).flatMap SH) fp∧∀ k,fp k→w.heap.size≤k)∧Bw w W)
  (fun _ _ _=>False)
  (fun s A B row hs hg hr=>?hown)
  (fun _ _ _ _ _ hs _ _=>hs)
  ⟨⟨mZ,jo,fp2,by rw[Kq,List.flatMap_nil,En];exact aoi.out,gK⟩,AR⟩
  (fun x a' _=>a'={ tmps:=#[.map (some m),undef,.string { data:=#[] },.pointer (some ⟨w.heap.size,0,none⟩),.string (bs x.1.1),.string (bs x.1.2),.map (some m),.int .i64 (F.length:Int),.string (bs (A9.le 4 F.length)),.tuple #[.int .i64 4,.nilIface],.map (some m),.func (.func 167) #[] #[.pointer (some ⟨Bx,0,none⟩)],.string (bs x.1.1),.string (bs x.1.2),undef,undef,undef,undef,undef,undef,undef,undef,undef,undef,undef,undef,undef],defers:=[] })
  (fun x a' _ X Y row hs hg hr=>hs)
  ?assign ?body ?done ?stop
 case aaZ=>
  have hlt:l < W.heap.size:=Ao ho;by_cases e:k=l
  ·exact .inl (.inr ⟨by omega,o,by rw[e];exact ho,hc⟩)
  ·refine .inl (.inl ?_);have hu:=A7.of_grownBy (F:=fun k=>k=l) (grownBy_putObj' W l o') (fun k e=>by cases e;rfl);rcases hk with hk|⟨h1,h2,h3⟩
   ·exact .inl hk
   ·refine .inr ⟨h1,h2,?_⟩;obtain⟨cs,fr,h4⟩:=h3;by_cases K9:k < W.heap.size
    ·exact⟨cs,fr,(hu.block k K9 e).symm.trans h4⟩
    ·exact absurd (Ao h4) (by rw[show(W.putObj l o').heap.size=W.heap.size by simp[World.putObj]];exact K9)
 case hown=>
  have hu:=anv hg hr;obtain⟨⟨g1,g2,fp,g3,g4⟩,g5⟩:=hs;refine⟨⟨g1.upd hu (fun h=>by have:=g1.lt;omega),bn g2 hu (fun h=>(WW g2).TD h.2),fp,g3.upd hu (fun k hk h=>?_),g4⟩,Cq g5 hu (fun i hi=>by omega) g5.size⟩;rcases g3.kind hk with rfl|hk
  ·exact g3.blk.TD h.2
  ·exact hk.TD h.2
 case assign=>
  rintro l pre x W K hI hK;unfold oO
  gi_wp2
  exact hK _ _ ((KeepsOthers.refl _).from _) ⟨A7.refl _ _,fun k hk=>.inl (.inl hk)⟩ hI rfl
 case body=>
  rintro l pre x a' W hl⟨r,hr⟩ ⟨⟨g1,g2,fp,g3,g4⟩,g5⟩ rfl hlt;have Iw:=Hi g1;have Du:=Hi g2;have GL:=Hi g3;have Iz:=Hi g4;have Je:=Hi g5;have atj:1≤6 -1 -1:=by omega
  obtain⟨Ee,Ea⟩:=afY x;have Gp:=art pre;have aD1:pre.length≤1000000:=by omega
  clear g1 g2 g3 g4 g5 hr
  gi_wp2
  refine⟨trivial,(CallsIn.inRound l (Dr.2 (pz x.1.1.length _ (by omega)))).mono ?_⟩;rintro e w4⟨rfl,AB⟩
  gi_wp2
  refine⟨trivial,(CallsIn.inRound l (Dr.2 (pz x.1.2.length _ (by omega)))).mono ?_⟩;rintro e w5⟨rfl,Bo⟩;have vG:=bH AB Bo;clear AB Bo;have aoj:=Hi (GL.upd (ub vG) (fun _ _ f=>f))
  gi_wp2
  refine⟨trivial,(CallsIn.inRound l (Dr.2 (WY aoj (A9.le 4 x.1.1.length++(x.1.1++(A9.le 4 x.1.2.length++x.1.2))) (by simp only[Az,A9.BV];omega)))).mono ?_⟩;rintro e w6⟨rfl,fp6,ahK,Kg,hs6⟩;have KG:=Hi ((A7.of_below (F:=fp) vG).trans Kg (fun k hk=>.inl hk));have aok:=Hi ahK;have ig:=Hi hs6;clear ahK Kg hs6
  gi_wp2
  have dm:∀ k,fp k→k=w.heap.size∨Bf W k 5:=fun k hk=>GL.kind hk
  have aus:∀ k,fp k→ve w.heap.size m Bx W k:=fun k hk=>by
   rcases dm k hk with h|h
   ·exact .inl h
   ·refine .inr ⟨fun e=>?_,fun e=>?_,h⟩
    ·subst e;exact Iw.Dp h
    ·subst e;exact Bf.ne h (WW Du) (by decide) rfl
  have hu:A7 (May (ve w.heap.size m Bx) (Bx+1) W) W w6:=KG.mono (fun k hk=>.inl (aus k hk));refine⟨avW _ KG (fun k hk h=>?_),Po.axx hu (fun k hk he hq=>?_),⟨Iw.upd KG (fun hk=>?_),bn Du KG (fun hk=>?_),fp6,?_,fun k hk=>?_⟩,Cq Je KG (fun k hk=>Iz k hk) Je.size⟩
  ·rcases dm k hk with rfl|h2
   ·exact GL.blk.TD h
   ·exact h2.TD h
  ·rcases hq with rfl|⟨h1,h2,cs,fr,h3⟩
   ·exact .inl rfl
   ·exact .inr ⟨h1,h2,cs,fr,he.symm.trans h3⟩
  ·have:=Iz m hk;omega
  ·rcases dm _ hk with h2|h2
   ·omega
   ·exact Bf.ne h2 (WW Du) (by decide) rfl
  ·rw[D6,Nk,Ce,Kq,Q0,List.flatMap_nil,En,←Dy];exact aok.out
  ·rcases ig k hk with h|h
   ·exact Iz k h
   ·exact Ay Je.size (Ay vG.size h)
 case done=>
  rintro DD ys W hDD rfl⟨⟨g1,g2,fp,g3,g4⟩,g5⟩ hK;have GL:=Hi g3;have Iz:=Hi g4;have Je:=Hi g5;clear g1 g2 g3 g4 g5
  gi_wp2
  refine⟨trivial,(Dr.2 (WX GL)).mono ?_⟩;rintro e w6⟨rfl,Kg⟩
  gi_wp2
  have Df:w6.heap[DD]?=some (.deferred (some [])):=(Kg.block DD (Ao hK) (fun h=>by
   rcases GL.kind h with e|e
   ·omega
   ·exact e.TD ⟨_,hK,rfl⟩)).trans hK
  refine⟨by simp,.inl ⟨_,_,rfl,run_takeDeferred Df,?_⟩⟩;have hu:A7 (fun k=>k=DD) w6 (w6.putObj DD (.deferred none)):=A7.of_grownBy (grownBy_putObj' w6 DD (.deferred none)) (fun k e=>by cases e;rfl);have Cb:=Cq Je Kg (fun k hk=>Iz k hk) Je.size;exact⟨_,(by simp[results,results135,go_sem];rfl),rfl,Cq Cb hu (fun k hk=>by subst hk;omega) Cb.size⟩
 case stop=>
  rintro DD c pre W _ _ h _;exact h.elim
