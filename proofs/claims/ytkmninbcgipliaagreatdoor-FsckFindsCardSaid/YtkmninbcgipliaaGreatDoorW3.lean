/- WalOpen2 FilNames2 FilMade2 -/
import Derived.Test.YtkmninbcgipliaaGreatDoorW2
import Derived.Shelf.SlIter.Nil
import Derived.Shelf.SortM.Plain
import Derived.Shelf.SortM.SortNone
import Derived.Ground.GgzProg
import Derived.Ground.SlgmProg
import Derived.Maps.OwnIn
set_option maxHeartbeats 4000000
set_option maxRecDepth 100000
set_option linter.all false
namespace Go.Proofs.YtkmninbcgipliaaGreatDoor
open Tryz
open Go.RowKit
open Go.Maps
section
open Aw
def A8.Ut(D:A8)(a n:Int):Option BI×Int:=
 if n < 2∨a < 0∨(D.n:Int) < a∨(D.n:Int) -a < n then(none,2)
 else if D.down then(none,40)
 else match JQ (A8.text D.now a.toNat n.toNat) n.toNat with
  |none=>(none,50)
  |some (g,u,l)=>(some ⟨a.toNat,n.toNat,g,u,l,0⟩,0)
def Wp(w:World)(b:Nat)(D:A8)(a n:Int)(e:Ending)(w':World):Prop:=
 match D.Ut a n with
 |(none,k)=>e=.returned (.tuple #[.pointer none,.int .i64 k])∧Bw w w'
 |(some L,k)=>∃ x gv,e=.returned (.tuple #[.pointer (some ⟨x,0,none⟩),.int .i64 k])∧Cw w' x b gv L∧Bw w w'∧∀ q,BZ x gv q→w.heap.size≤q
theorem Z5{w w':World}{b:Nat}{D:A8}{a n k:Int}{e:Ending}(h:D.Ut a n=(none,k))(he:e=.returned (.tuple #[.pointer none,.int .i64 k]))(hb:Bw w w'):Wp w b D a n e w':=by
 unfold Wp;rw[h];exact⟨he,hb⟩
theorem anq{w w':World}{b:Nat}{D:A8}{a n k:Int}{L:BI}{e:Ending}{x:Nat}{gv:Value}(h:D.Ut a n=(some L,k))(he:e=.returned (.tuple #[x,.int .i64 k]))(hw:Cw w' x b gv L)(hb:Bw w w')(hn:∀ q,BZ x gv q→w.heap.size≤q):Wp w b D a n e w':=by
 unfold Wp;rw[h];exact⟨x,gv,he,hw,hb,hn⟩
theorem ael:(prog.info? 61).map (fun i=>(i.zero,i.size,i.bytes))=some (some ↑(),1,24):=by kernel_rfl
theorem aE5{w:World}{b:Nat}{D:A8}{fp:Nat→Prop}(h:BP w b D fp)(a n:Int)(ha: -9223372036854775808≤a∧a≤9223372036854775807)(hn: -9223372036854775808≤n∧n≤9223372036854775807)
  (KL:n < 2∨a < 0∨(D.n:Int) < a∨(D.n:Int) -a < n):
  Calls prog 79 #[b,.int .i64 a,.int .i64 n] w fun e w'=>Wp w b D a n e w':=by
 have hO:Hid (D.Ut a n=(none,2)):=Hi (by unfold A8.Ut;rw[Ae KL]);have hN:=h.fine.n2;have H:=Hi h;clear h;generalize TU:(D.n:Int)=N at*;have HN:=Hi TU;have hN2:0≤N∧N≤16384:=by omega
 clear TU hN;by_cases h1:n < 2
 ·go_in
  go_wp2;go_ret2;exact Z5 hO.out rfl (Ai _ _)
 by_cases h2:a < 0
 ·go_in
  go_wp2;go_ret2;exact Z5 hO.out rfl (Ai _ _)
 by_cases h3:N < a
 ·go_in
  go_wp2_with fail;refine(Z9 H).mono ?_;rw[HN.out];rintro e w1⟨rfl,rfl⟩;go_wp2;go_ret2;exact Z5 hO.out rfl (Ai _ _)
 ·have h4:N -a < n:=by omega
  go_in
  go_wp2_with fail;refine(Z9 H).mono ?_;rw[HN.out];rintro e w1⟨rfl,rfl⟩;go_wp2_with fail;refine(Z9 H).mono ?_;rw[HN.out];rintro e w1⟨rfl,rfl⟩;go_wp2;go_ret2;exact Z5 hO.out rfl (Ai _ _)
theorem aE6{w:World}{b:Nat}{D:A8}{fp:Nat→Prop}(h:BP w b D fp)(a n:Int)(ha: -9223372036854775808≤a∧a≤9223372036854775807)(hn: -9223372036854775808≤n∧n≤9223372036854775807)
  (hok:¬ (n < 2∨a < 0∨(D.n:Int) < a∨(D.n:Int) -a < n))(hd:D.down=true):
  Calls prog 79 #[b,.int .i64 a,.int .i64 n] w fun e w'=>Wp w b D a n e w':=by
 have hO:Hid (D.Ut a n=(none,40)):=Hi (by unfold A8.Ut;rw[A9 hok,Ae hd]);have hN:=h.fine.n2;have H:=Hi h;obtain⟨m,lv,hI,_⟩:=h;have HI:=Hi hI;have HD:=Hi hd;clear hI hd;generalize TU:(D.n:Int)=N at*;have HN:=Hi TU;have hN2:0≤N∧N≤16384:=by omega
 clear TU hN;have h1:2≤n:=by omega
 have h2:0≤a:=by omega
 have h3:a≤N:=by omega
 have h4:n≤N -a:=by omega
 clear hok
 go_in
 go_wp2_with fail;refine(Z9 H).mono ?_;rw[HN.out];rintro e w1⟨rfl,rfl⟩;go_wp2_with fail;refine(Z9 H).mono ?_;rw[HN.out];rintro e w1⟨rfl,rfl⟩;go_wp2_with fail;refine(aBf HI a n HD).mono ?_;rintro e w1⟨rfl,rfl⟩;go_wp2;go_ret2;exact Z5 hO.out rfl (Ai _ _)
theorem aE7{w:World}{b:Nat}{D:A8}{fp:Nat→Prop}(h:BP w b D fp)(a n:Nat)(h2:2≤n)(han:a+n≤D.n)(hd:D.down=false):
  Calls prog 79 #[b,(a:Int),(n:Int)] w fun e w'=>Wp w b D a n e w':=by
 have hO:D.Ut a n=match JQ (A8.text D.now a n) n with|none=>(none,50)|some (g,u,l)=>(some ⟨a,n,g,u,l,0⟩,0):=by
  unfold A8.Ut;rw[A9 (by omega),A9 (by simp[hd])];simp
 have hN:=h.fine.n2;have hlen:(A8.text D.now a n).length=64*n:=A8.YW (fun i h1 h2=>h.fine.now i (by omega));have H:=Hi h;obtain⟨m,lv,hI,_⟩:=h;have Kh:=wU hI a n hd (by simp[A8.inside];omega);have GX:=Hi Kh;clear hI hd Kh;generalize TU:D.n=N at*;have HN:=Hi TU;generalize A8.text D.now a n=s at*;clear TU;have aFD:∀ W,(Instr.slice 9 ↑s none (some (.int .i64 64)) none).run prog W=.ok ↑(s.take 64) W:=fun W=>OD prog W 9 underlying9 s 64 (by omega)
 have aFE:∀ W,(Instr.slice 9 ↑s (some (.int .i64 64)) none none).run prog W=.ok ↑(s.drop 64) W:=fun W=>Nh prog W 9 underlying9 s 64 (by omega)
 have akm:(s.take 64).length=64:=by rw[Bc];omega
 have aqU:=Hi akm;have HO:=Hi hO;have FO:=Hi hlen;clear akm hO hlen
 go_in
 go_wp2_with fail;refine(Z9 H).mono ?_;rw[HN.out];rintro e w1⟨rfl,rfl⟩;go_wp2_with fail;refine(Z9 H).mono ?_;rw[HN.out];rintro e w1⟨rfl,rfl⟩;go_wp2_with fail;refine GX.mono ?_;rintro e w1⟨rfl,hb⟩;have HB:=Hi hb;clear hb;go_wp2
 go_quiet (fail)
 go_wp2_with fail;refine(af7 [0] _ (by simp)).mono ?_;rintro e w2⟨rfl,Ac⟩;have Ee:w1.heap.size < w2.heap.size:=Ip (by show w1.heap.size < (w1.alloc _).heap.size;rw[Az];omega) Ac.size;have Y9:Bw w w2:=(HB.trans ((((Ai w1.heap.size w1).alloc (Ag _) _).trans ((FP _ _).mono (by rw[Az];omega))).mono HB.size)).trans (Ac.mono (by have:=HB.size;show w.heap.size≤(w1.alloc _).heap.size;rw[Az];omega));have Mq:Cw w2 w1.heap.size b ↑() ⟨a,n,0,0,[],0⟩:=⟨(Ac.block w1.heap.size (by show w1.heap.size < (w1.alloc _).heap.size;rw[Az];omega)).trans (AU w1 _),Le.none _,by show 0 < 18446744073709551616;decide,by show 0+1≤n;omega,by show a+n≤16384;omega⟩;have HX:=Hi (show w.heap.size≤w1.heap.size from HB.size);have Aj:=Hi Y9;have Sw:=Hi Mq;clear Ac Y9 Mq Ee;have Re:JQ s n=if s.take 64=pad [0] then some (0,0,[]) else
  if s.take 64=Aw.mark (Ab.val (((s.take 64).take 12).drop 4)) (Ab.val (((s.take 64).take 16).drop 12))∧Ab.val (((s.take 64).take 16).drop 12)≤n -1 then
   (Ju (Ab.val (((s.take 64).take 16).drop 12)) ((s.drop 64).take (64*Ab.val (((s.take 64).take 16).drop 12)))).map fun l=>(Ab.val (((s.take 64).take 12).drop 4),Ab.val (((s.take 64).take 16).drop 12),l)
  else none:=rfl
 have NK:(s.drop 64).length=64*(n -1):=by rw[CF,FO.out];omega
 have VN:=Hi NK;generalize s.take 64=f at*;generalize s.drop 64=r at*;clear NK;by_cases hz:f=pad [0]
 ·rw[Ae hz] at Re;have FT:(f == pad [0])=true:=by simp[hz]
  have QV:=Hi Re;clear Re hz;go_wp2;go_ret2;refine anq (L:=⟨a,n,0,0,[],0⟩) (k:=0) (by rw[HO.out,QV.out]) rfl Sw Aj (fun q hq=>?_);rcases hq with rfl|hq
  ·exact HX.out
  ·simp[Value.ownBlock] at hq
 ·rw[A9 hz] at Re;have FT:(f == pad [0])=false:=by simp[hz]
  have J5:=aqU.out;have aFH:∀ W,(Instr.slice 9 ↑f (some (.int .i64 4)) (some (.int .i64 12)) none).run prog W=.ok ↑((f.take 12).drop 4) W:=fun W=>Z7 prog W 9 underlying9 f 4 12 (by omega) (by omega)
  have aFI:∀ W,(Instr.slice 9 ↑f (some (.int .i64 12)) (some (.int .i64 16)) none).run prog W=.ok ↑((f.take 16).drop 12) W:=fun W=>Z7 prog W 9 underlying9 f 12 16 (by omega) (by omega)
  have l1:((f.take 12).drop 4).length=8:=by rw[CF,Bc];omega
  have l2:((f.take 16).drop 12).length=4:=by rw[CF,Bc];omega
  have g1:=fun(W:World)=>Y7 ((f.take 12).drop 4) W (by omega) (by omega)
  have g2:=fun(W:World)=>Y7 ((f.take 16).drop 12) W (by omega) (by omega)
  have v1:=Ab.Jw ((f.take 12).drop 4);have v2:=Ab.Jw ((f.take 16).drop 12);rw[l1] at v1;rw[l2] at v2;generalize Ab.val ((f.take 12).drop 4)=gen at*;generalize Ab.val ((f.take 16).drop 12)=used at*;have v1':gen < 18446744073709551616:=v1;have oO:used < 4294967296:=v2;have IX:=Hi g1;have D7:=Hi g2;have TJ:=Hi v1';have hwn:IntKind.u64.wrap ((n:Int) -1)=(n:Int) -1:=IntWalk.u64_in _ (by omega);clear hz J5 l1 l2 g1 g2 v1 v2 v1';by_cases Ot:f=Aw.mark gen used
  ·have WO:(f == Aw.mark gen used)=true:=(by rw[Ot];simp);by_cases Ug:used≤n -1
   ·rw[Ae ⟨Ot,Ug⟩] at Re;have hui:(used:Int)≤(n:Int) -1:=(by omega);have QV:=Hi Re;have QU:=Hi Ot;obtain⟨d0,d1,d2,d3,d4,d5,d6,df⟩:=Sw.cells;clear Re Ot;go_wp2_with fail;refine(IX _).mono ?_;rintro e w3⟨rfl,rfl⟩;go_wp2_with fail;refine(D7 _).mono ?_;rintro e w3⟨rfl,rfl⟩;go_wp2_with fail;refine(nM gen used _ TJ oO).mono ?_;rintro e w3⟨rfl,Av⟩;have Wl:=Hi (Sw.below Av);have Au:=bH Aj Av;clear Av d0 d1 d2 d3 d4 d5 d6 df;obtain⟨d0,d1,d2,d3,d4,d5,d6,df⟩:=Wl.cells;have df0:=df 0;have rV:=df 1;have hwu:(64:Int)*(used:Int)≤640000000:=(by omega);have Mk:=VN.out;have Vg:∀ W,(Instr.slice 9 ↑r none (some (.int .i64 (64*(used:Int)))) none).run prog W=.ok ↑(r.take (64*used)) W:=fun W=>by
     have:=OD prog W 9 underlying9 r (64*used) (by omega);rw[Int.natCast_mul] at this;exact this
    have IK:Cw ((w3.setCell w1.heap.size (.int .u64 (gen:Int))).setCell ⟨w1.heap.size,1,none⟩ ↑(used:Int)) w1.heap.size b ↑() ⟨a,n,gen,used,[],0⟩:=by
     have e1:=Cs w3 w1.heap.size 0 _ _ (.int .u64 (gen:Int)) Wl.struct;have e2:=Cs _ w1.heap.size 1 _ _ ↑(used:Int) e1;exact⟨e2,Le.none _,TJ,by show used+1≤n;omega,Wl.n⟩
    have TK:=Hi IK;have AX:=Hi ((Au.setCell (p:=⟨w1.heap.size,0,none⟩) HX (.int .u64 (gen:Int))).setCell (p:=⟨w1.heap.size,1,none⟩) HX ↑(used:Int));have Ow:(r.take (64*used)).length=64*used:=(by rw[Bc];omega);have P5:=Hi Ow;clear df IK Ow;go_wp2
    go_loopw [12] (fun rv wr=>∃ (k:Nat) (S:List UInt8) (l:List (List (List UInt8))) (gv:Value),rv= ↑S∧S.length % 64=0∧S.length≤64*k∧S.length≤10000000∧Cw wr w1.heap.size b gv ⟨a,n,gen,used,l,0⟩∧Bw w wr∧(∀ q,BZ w1.heap.size gv q→w.heap.size≤q)∧Ju used (r.take (64*used))=(Ju k S).map (l++ ·)∧l.length+k=used) (fun rv _=>match rv with| .string s=>s.size|_=>0)
    case atStart=>
     refine⟨used,r.take (64*used),[],↑(),rfl,by rw[P5.out];omega,by rw[P5.out];omega,by rw[P5.out];omega,TK,AX,fun q hq=>?_,by simp,by simp⟩;rcases hq with rfl|hq
     ·exact HX.out
     ·simp[Value.ownBlock] at hq
    case round=>
     obtain⟨k,S,l,gv,rfl,awi,hSk,hSb,hwi,hb,Pw,Na,JK⟩:=hrel;have HLK:=Hi JK;clear JK;have HWI:=Hi hwi;have KG:=Hi hb;have zk:=Hi Pw;have Fh:=Hi Na;clear hwi hb Pw Na Sw Wl TK Aj Au AX d0 d1 d2 d3 d4 d5 d6 df0 rV;by_cases hS:S=[]
     ·subst hS;go_wp2;go_ret2;refine anq (L:=⟨a,n,gen,used,l,0⟩) (k:=0) ?_ rfl HWI KG zk.out;rw[HO.out,QV.out,Fh.out,aoc];simp
     ·have hne:S.isEmpty=false:=by
       cases S with
       |nil=>exact absurd rfl hS
       |cons=>rfl
      have Lr:=Hi hS;clear hS;go_wp2_with fail;refine(aA5 S _ hSb awi).mono ?_;intro e w5 hp;unfold dW at hp;have fU:0 < S.length:=List.length_pos_iff.2 Lr.out;obtain⟨k',rfl⟩:∃ k',k=k'+1:=⟨k -1,by omega⟩;cases GK:LQ S with
      |none=>
       rw[GK] at hp;obtain⟨rfl,Bl⟩:=hp;have Cj:=bH KG Bl;have CP:Hid (Ju used (r.take (64*used))=none):=Hi (aB2 Lr Fh GK);clear Bl GK;go_wp2;go_ret2;exact Z5 (by rw[HO.out,QV.out,CP.out];rfl) rfl Cj.out
      |some pr=>
       obtain⟨t,m⟩:=pr;rw[GK] at hp;obtain⟨lv,rfl,Af,Bl,_⟩:=hp;obtain⟨hm1,KT,Vl⟩:=aA2 GK;have Cj:=bH KG Bl;have Lt:=Hi (HWI.below Bl);obtain⟨qa,ca,rfl,_⟩:=xJ Af;have HRK:=Hi (K9.CR Af);have Ba:=Hi (aB3 Lr Fh GK);have hux:=KG.size;obtain⟨cs,GG,GY,KN,N7⟩:=Lt.groups;obtain⟨qg,cg,rfl⟩:=Bp GG;have di:=Hi GG;have QL:=Hi GY;have Xy:=Hi KN;have yB:=Hi N7;obtain⟨i0,Bh,AY,AZ,Bb⟩:=Dy ael;obtain⟨d0,d1,d2,d3,d4,d5,d6,df⟩:=Lt.cells;have TN:=df 5;have EA:l.length≤16384:=(by have:=HLK.out;omega);have k5:=fun(ob:Obj)=>CB ((((Ai w5.heap.size w5).alloc (Ag _) ob).cell (p:=⟨w1.heap.size,5,none⟩) (Lt.lt _ (.inl rfl))).trans d5) ((((Ai w5.heap.size w5).alloc (Ag _) ob).frozen (p:=⟨w1.heap.size,5,none⟩) (Lt.lt _ (.inl rfl))).trans TN)
       have awS:∀ W,(Instr.slice 9 ↑S (some ↑(m:Int)) none none).run prog W=.ok ↑(S.drop m) W:=fun W=>Nh prog W 9 underlying9 S m Vl
       have CS:=Lt.ne;clear GG GY KN N7 Af Bl GK d0 d1 d2 d3 d4 d6 df
       go_wp2_with (
        at_builtin
        refine wpList_append_own_at _ rfl _ _ _ rfl 0 61 i0 _ 1 24 underlying155 Bh AY AZ Bb rfl (by omega) (.slice qg l.length cg) l.length cs rfl (di.alloc _) ⟨w5.heap.size,0,none⟩ 1 1 [.slice qa t.length ca] rfl rfl (World.news_of_block (cs:=#[.slice qa t.length ca]) (t:=61) (fr:=(0,0)) (AU w5 _)) (fun u hu=>by rw[Fu] at hu;subst hu;exact HRK.one) (by unfold maxLen;omega) (by omega) (AV _) ?_;intro v' w6 hown AJ _ hat;have zt:=Hi (Lt.pushed HRK QL Xy yB ((Ai w5.heap.size w5).alloc (Ag _) _) AJ hown hat);obtain⟨qv,cv,rfl⟩:=Bp hown;have c6:=(AJ.cell_far ⟨w1.heap.size,5,none⟩ (by have:=Lt.lt _ (.inl rfl);show w1.heap.size < (w5.alloc _).heap.size;rw[Az];omega) (Ne.symm CS)).trans (k5 _).1;have f6:=(AJ.frozen_far ⟨w1.heap.size,5,none⟩ (by have:=Lt.lt _ (.inl rfl);show w1.heap.size < (w5.alloc _).heap.size;rw[Az];omega) (Ne.symm CS)).trans (k5 _).2;clear hown AJ hat k5 d5 TN)
       refine⟨⟨k',S.drop m,l++[t],_,rfl,by rw[CF];omega,by rw[CF];omega,by rw[CF];omega,zt.1,Cz Cj zt.2.1 zk Cj.size,fun q hq=>?_,Ba,by have:=HLK.out;rw[AA,La];omega⟩,?_⟩
       ·rcases zt.2.2 q hq with h1|h1
        ·exact zk q h1
        ·exact Ay Cj.size h1
       ·show(S.drop m).length < S.length
        rw[CF];omega
   ·rw[A9 (fun h=>Ug h.2)] at Re;have hui:(n:Int) -1 < (used:Int):=(by omega);have QV:=Hi Re;clear Re Ot;go_wp2_with fail;refine(IX _).mono ?_;rintro e w3⟨rfl,rfl⟩;go_wp2_with fail;refine(D7 _).mono ?_;rintro e w3⟨rfl,rfl⟩;go_wp2_with fail;refine(nM gen used _ TJ oO).mono ?_;rintro e w3⟨rfl,Av⟩;have Au:=bH Aj Av;clear Av;go_wp2;go_ret2;exact Z5 (by rw[HO.out,QV.out]) rfl Au.out
  ·rw[A9 (fun h=>Ot h.1)] at Re;have WO:(f == Aw.mark gen used)=false:=(by simp[Ot]);have QV:=Hi Re;clear Re Ot;go_wp2_with fail;refine(IX _).mono ?_;rintro e w3⟨rfl,rfl⟩;go_wp2_with fail;refine(D7 _).mono ?_;rintro e w3⟨rfl,rfl⟩;go_wp2_with fail;refine(nM gen used _ TJ oO).mono ?_;rintro e w3⟨rfl,Av⟩;have Au:=bH Aj Av;clear Av;go_wp2;go_ret2;exact Z5 (by rw[HO.out,QV.out]) rfl Au.out
theorem aE4{w:World}{b:Nat}{D:A8}{fp:Nat→Prop}(h:BP w b D fp)(a n:Int)(ha: -9223372036854775808≤a∧a≤9223372036854775807)(hn: -9223372036854775808≤n∧n≤9223372036854775807):
  Calls prog 79 #[b,.int .i64 a,.int .i64 n] w fun e w'=>Wp w b D a n e w':=by
 by_cases KL:n < 2∨a < 0∨(D.n:Int) < a∨(D.n:Int) -a < n
 ·exact aE5 h a n ha hn KL
 ·cases hd:D.down with
  |true=>exact aE6 h a n ha hn KL hd
  |false=>
   obtain⟨a,rfl⟩:∃ k:Nat,a=(k:Int):=⟨a.toNat,by omega⟩;obtain⟨n,rfl⟩:∃ k:Nat,n=(k:Int):=⟨n.toNat,by omega⟩;exact aE7 h a n (by omega) (by omega) hd
end
section
open Aw
theorem kK(w:World)(p:Option Addr)(n c:Nat):(binOp .eql 61 (.slice p n c) ↑()).run prog w=.ok ↑p.isNone w:=by
 have h:∀ d,(Op.equalIn (d+1) 61 (.slice p n c) ↑()).run prog w=.ok p.isNone w:=fun d=>by
  cases p<;>simp[Op.equalIn,He underlying61]
 simp only[binOp];simp[show Op.equal 61 (.slice p n c) ↑()=Op.equalIn (9999+1) 61 (.slice p n c) ↑() from rfl,h 9999]
theorem aaS(w:World):(w.alloc (.cells #[] 9)).ownsRow 0 9 1 (.slice w.heap.size 0 0) 0 []:=
 ⟨rfl,.inr ⟨w.heap.size,0,#[],rfl,AV _,AU w _,Ag _,AV _,rfl,rfl⟩⟩
theorem Tk:(prog.info? 9).map (fun i=>(i.zero,i.size,i.bytes))=some (some (.string ByteArray.empty),1,16):=by kernel_rfl
theorem oD:strCells []=[]:=by unfold strCells;rfl
def aqu(w:World)(l:List (List UInt8))(e:Ending)(w':World):Prop:=
 ∃ v',e=.returned v'∧w'.ownsRow 0 9 1 v' l.length (strCells l)∧Bw w w'∧∀ g,v'.ownBlock=some g→w.heap.size≤g
theorem apq(w:World)(a:Option Addr)(cap:Nat)(l:List (List UInt8))(h:Dz w a l)(hlen:l.length≤1000000000):
  Calls prog 149 #[.slice a l.length cap] w fun e w'=>aqu w l e w':=by
 have hq:=fun w=>kK w a l.length cap
 cases a with
 |none=>
  have e:l=[]:=by
   cases l with
   |nil=>rfl
   |cons x l=>obtain⟨p,hp,_⟩:=h 0 (by simp);cases hp
  subst e;have hq0:=fun w=>kK w none 0 cap
  clear h hq
  go_in
  go_wp2;go_ret;refine⟨_,rfl,?_,Ai _ _,fun g e=>by simp[Value.ownBlock] at e⟩;rw[oD];exact DZ _ _ _ _
 |some p=>
  have hc:∀ j u,(strCells l)[j]?=some u→w.cell? (p.add j)=some u:=fun j u hj=>by
   have J7:j < l.length:=by
    have:=(Uy.1 hj).1;rwa[strCells_length] at this
   obtain⟨p',NP,Gh⟩:=h j J7;cases NP;rw[Zb l j J7] at hj;rw[Gh,←hj]
  have HC:=Hi hc;have EA:=strCells_length l;have O7:=Hi EA;obtain⟨i0,Bh,AY,AZ,Bb⟩:=Dy Tk;have BS:=Az w (.cells #[] 9);clear h hc EA
  go_in
  go_wp2_with (at_builtin;refine wpList_append_own_at _ rfl _ _ _ rfl 0 9 i0 _ 1 16 underlying61 Bh AY AZ Bb rfl (by omega) _ 0 [] rfl (aaS w) p l.length cap (strCells l) rfl (by rw[O7.out];omega) (fun j u hj=>(((Ai w.heap.size w).alloc (Ag _) _).cell (Cv (HC j u hj))).trans (HC j u hj)) (aeA l) (by unfold maxLen;omega) (by omega) (AV _) ?_;intro v' w1 hown AJ _ hat);go_ret;refine⟨v',rfl,by rw[GQ,EE] at hown;exact hown,((Ai w.heap.size w).alloc (Ag _) _).grown AJ (by omega) (fun k e=>by have e':some w.heap.size=some k:=e;have:=GR e';omega),fun k hk=>?_⟩;rcases hat with hat|hat
  ·rw[hat] at hk;have e':some w.heap.size=some k:=hk;have:=GR e';omega
  ·rw[hat] at hk;have:=GR hk;omega
theorem Le.pushed{w w1 w2:World}{gv lv v':Value}{L:List (List (List UInt8))}{l:List (List UInt8)}{cs:List Value}{n:Nat}(hn:n=L.length)(h:w.ownsRow 0 61 1 gv n cs)(hl:K9 w lv l)
  (BQ:cs.length=L.length)(GG:∀ u∈cs,u.oneCell'=true)(Vg:∀ i (h:i < L.length) (h':i < cs.length),K9 w cs[i] L[i])
  (hb:Bw w w1)(AJ:w1.grownBy w2 gv.ownBlock)(hown:w2.ownsRow 0 61 1 v' (n+1) (cs++[lv])):
  Le w2 v' (L++[l]):=by
 subst hn;have u1:A7 (fun k=>gv.ownBlock=some k) w w2:=(A7.of_below hb).trans (A7.of_grownBy (F:=fun k=>gv.ownBlock=some k) AJ (fun k e=>e)) (fun k hk=>.inl hk);have Om:∀ k,Bf w k 9→¬ gv.ownBlock=some k:=fun k hk e=>Bf.ne hk (Cx h e) (by decide) rfl
 refine⟨cs++[lv],by rw[AA];exact hown,by simp[BQ],fun u hu=>?_,fun i hi uE=>?_⟩
 ·rcases Es.1 hu with hu|hu
  ·exact GG u hu
  ·rw[Fu] at hu;subst hu;exact hl.one
 ·by_cases hlt:i < L.length
  ·rw[Uz (by omega),Uz hlt];exact(Vg i hlt (by omega)).upd u1 Om
  ·have Jn:=hi;rw[AA,La] at Jn;have e:i=L.length:=(by omega);rw[Xv (by omega),Xv (by omega)];simp only[List.getElem_singleton];exact hl.upd u1 Om
def afg(w:World)(L:List (List (List UInt8)))(e:Ending)(w':World):Prop:=
 ∃ v',e=.returned v'∧Le w' v' L∧Bw w w'∧∀ g,v'.ownBlock=some g→w.heap.size≤g
theorem atl(w:World)(gv:Value)(L:List (List (List UInt8)))(h:Le w gv L)(hlen:L.length≤1000000)(hall:∀ l∈L,l.length≤1000000000):
  Calls prog 165 #[gv] w fun e w'=>afg w L e w':=by
 obtain⟨cs,h1,h2,h3,h4⟩:=h;obtain⟨qg,cg,rfl⟩:=Bp h1;have Gh:∀ k,(hk:k < L.length)→∃ g,qg=some ⟨g,0,none⟩∧∀ v,cs[k]?=some v→w.cell? ⟨g,k,none⟩=some v:=fun k hk=>by
  rcases h1.2 with⟨e1,e2⟩|⟨g,cap,cur,e1,_⟩
  ·omega
  ·injection e1 with e1 e2 e3
   subst e1;refine⟨g,rfl,fun v hv=>?_⟩;have:=h1.cells (g:=g) rfl k v hv;rwa[add_plain] at this
 have aqR:=Hi Gh;have H1:=Hi h1;have H2:=Hi h2;have H3:=Hi h3;have H4:=Hi h4;have Ga:=Hi hall;clear Gh h1 h2 h3 h4 hall
 go_in
 go_wp2
 go_loopw [2,7] (fun ov i wr=>∃ (k:Nat),k≤L.length∧i=.int .i64 k∧Le wr ov (L.take k)∧Bw w wr∧∀ g,ov.ownBlock=some g→w.heap.size≤g) (fun _ i _=>L.length -(intOf i).toNat)
 case atStart=>exact⟨0,AV _,rfl,Le.none _,Ai _ _,fun g e=>by simp[Value.ownBlock] at e⟩
 case round=>
  obtain⟨k,hk,rfl,hg,hb,hn⟩:=hrel;have HB:=Hi hb;have HN:=Hi hn;by_cases hlt:k < L.length
  ·obtain⟨g,rfl,hc⟩:=aqR k hlt;have Rh:k < cs.length:=(by rw[H2.out];exact hlt);have Af:=H4 k hlt Rh;have hc:=hc cs[k] (CZ Rh);have Pm:wr.cell? ⟨g,k,none⟩=some cs[k]:=(hb.cell (Cv hc)).trans hc;have Ud:K9 wr cs[k] L[k]:=Af.upd (ub hb) (fun _ _ f=>f);obtain⟨ar,cr,er,H9⟩:=Ud.texts;rw[er] at Pm;have ZL:=Hi H9;obtain⟨cs',g1,g2,g3,g4⟩:=hg;have X4:(L.take k).length=k:=(by rw[Bc];omega);rw[X4] at g1;have G1:=Hi g1;have G2:=Hi g2;have G3:=Hi g3;have G4:=Hi g4;obtain⟨qo,co,rfl⟩:=Bp g1;have JK:L[k].length≤1000000000:=Ga _ (CK hlt);have CL:=Hi X4;have UO:Hid (L.take (k+1)=L.take k++[L[k]]):=Hi (Cr hlt);generalize L[k]=l at*;obtain⟨i0,Bh,AY,AZ,Bb⟩:=Dy ael;clear hb hn hc Af Ud H9 g1 g2 g3 g4 X4 er;go_wp2_with fail;refine(apq wr ar cr l ZL JK).mono ?_;rintro e w1⟨lv,rfl,LK,Ak,EB⟩;have HB1:=bH HB Ak;have Fy:=Hi (K9.CR LK);obtain⟨ql,cl,rfl⟩:=Bp LK;have u1:=ub Ak;have G1':=Hi (BD G1 u1 (fun _ _ f=>f));have G4':=Hi (fun i (h:i < (L.take k).length) (h':i < cs'.length)=>(G4 i h h').upd u1 (fun _ _ f=>f));clear LK Ak EB u1
   go_wp2_with (
    at_builtin
    refine wpList_append_own_at _ rfl _ _ _ rfl 0 61 i0 _ 1 24 underlying155 Bh AY AZ Bb rfl (by omega) (.slice qo k co) k cs' rfl (G1'.alloc _) ⟨w1.heap.size,0,none⟩ 1 1 [.slice ql l.length cl] rfl rfl (World.news_of_block (cs:=#[.slice ql l.length cl]) (t:=61) (fr:=(0,0)) (AU w1 _)) (fun u hu=>by rw[Fu] at hu;subst hu;exact Fy.one) (by unfold maxLen;omega) (by omega) (AV _) ?_;intro v' w2 hown AJ _ hat;have D7:=Hi (Le.pushed CL.symm G1' Fy G2 G3 G4' ((Ai w1.heap.size w1).alloc (Ag _) _) AJ hown);have Aj:=Hi ((HB1.alloc HB1.size _).grown AJ (Ay HB1.size (by rw[Az];omega)) HN)
    have JY:=Hi (show ∀ g,v'.ownBlock=some g→w.heap.size≤g from fun g hg=>by
     rcases hat with hat|hat
     ·rw[hat] at hg;exact HN g hg
     ·rw[hat] at hg;have:=GR hg;rw[Az] at this;have:=HB1.size;omega)
    clear hown AJ hat)
   go_roundw
   case rel=>exact⟨k+1,by omega,by go_num,by rw[UO.out];exact D7.out,Aj,JY⟩
   case measure=>simp[intOf];omega
  ·obtain rfl:k=L.length:=(by omega);have HG:=Hi hg;clear hg hb hn;go_wp2;go_ret;exact⟨_,rfl,by have:=HG.out;rwa[Gx (Ag _)] at this,HB,HN⟩
section
variable {w:World}{x b:Nat}{gv:Value}{L:BI}
theorem aq5(h:Cw w x b gv L):Calls prog 80 #[x] w fun e w'=>e=.returned (.int .u64 (L.gen:Int))∧w=w':=by
 obtain⟨c0,c1,c2,c3,c4,c5,c6,cf⟩:=h.cells;clear h
 go_in
 go_wp2;go_ret;exact⟨rfl,rfl⟩
theorem j4(h:Cw w x b gv L):Calls prog 144 #[x] w fun e w'=>e=.returned (.int .i64 L.fault)∧w=w':=by
 obtain⟨c0,c1,c2,c3,c4,c5,c6,cf⟩:=h.cells;clear h
 go_in
 go_wp2;go_ret;exact⟨rfl,rfl⟩
theorem aE8(h:Cw w x b gv L):Calls prog 61 #[x] w (Rt w ↑((L.n -1 -L.used:Nat):Int)):=by
 obtain⟨c0,c1,c2,c3,c4,c5,c6,cf⟩:=h.cells;have g1:=h.used;have g2:=h.n;have hv:((L.n -1 -L.used:Nat):Int)=(L.n:Int) -1 -(L.used:Int):=by omega
 have HV:=Hi hv;have e1:IntKind.i64.wrap ((L.n:Int) -1)=(L.n:Int) -1:=EN _ (by omega);have e2:IntKind.i64.wrap ((L.n:Int) -1 -(L.used:Int))=(L.n:Int) -1 -(L.used:Int):=EN _ (by omega);clear h hv
 go_in
 go_wp2
 go_quiet (fail)
 go_wp2;go_ret;rw[HV.out];exact⟨rfl,FP _ _⟩
theorem aE2(h:Cw w x b gv L)(hlen:L.groups.length≤1000000)(hall:∀ l∈L.groups,l.length≤1000000000):Calls prog 81 #[x] w fun e w'=>afg w L.groups e w':=by
 obtain⟨c0,c1,c2,c3,c4,c5,c6,cf⟩:=h.cells;have HG:=Hi h.groups;clear h
 go_in
 go_wp2_with fail;refine(atl w gv L.groups HG hlen hall).mono ?_;rintro e w1⟨v',rfl,g1,g2,g3⟩;have G:=Hi (CB g1 (CB g2 g3));clear g1 g2 g3;go_wp2;go_ret;exact⟨v',rfl,G.1,G.2.1,G.2.2⟩
end
theorem abm(l:List (List UInt8)):(Kc l).1.length≤rowLen l+68:=by
 unfold Kc;cases h:Ie l with
 |none=>simp
 |some s=>
  obtain⟨a,ha,rfl⟩:=tq h;have h1:=wY ha;have h2:=Te (Ab.le 4 a.length++a);rw[AA,Ab.Cb] at h2
  show(pad _).length≤_
  omega
theorem aE3(l:List (List UInt8))(a:Option Addr)(cap:Nat)(w:World)(hl:Dz w a l)(hlen:l.length≤maxLen)(Df:rowLen l≤10000000):
  Calls prog 60 #[.slice a l.length cap] w (Rt w (.tuple #[(((Kc l).1.length / 64:Nat):Int),.int .i64 (Kc l).2])):=by
 have HL:=Hi hl;have FO:=Hi hlen;clear hl hlen
 go_in
 go_wp2_with fail;obtain⟨r1,r2,hr⟩:∃ r1 r2,Kc l=(r1,r2):=⟨_,_,rfl⟩;have aFR:r1.length≤10000068:=by have:=abm l;rw[hr] at this;have h2:r1.length≤rowLen l+68:=this;omega
 have HR:=Hi hr;clear hr;refine(eY l a cap w HL FO Df).mono ?_;rw[HR.out];rintro e w1⟨rfl,hb⟩;have HB:=Hi hb;clear hb;have hv:((r1.length / 64:Nat):Int)=(r1.length:Int) / 64:=by omega
 have HV:=Hi hv;clear hv;go_wp2;go_ret2;rw[HR.out];refine⟨?_,HB⟩
 show _=Ending.returned (.tuple #[((r1.length / 64:Nat):Int),.int .i64 r2])
 rw[HV.out];rfl
end
section
open Go.Sort Go.Shelf
def aik:Go.Shelf.Ren:=⟨fun|7=>169|10=>231|n=>n,fun|23=>113|26=>9|3=>109|28=>256|0=>0|27=>255|33=>231|4=>4|n=>n,fun|n=>n⟩
theorem aij:Go.Proofs.SlLaysZ.n7 prog aik:={
 mixed:=by kernel_rfl
 f7:=⟨Tryz.f169.name,by decide,func169.trans (congrArg some (by kernel_rfl))⟩
 f10:=⟨Tryz.f231.name,by decide,func231.trans (congrArg some (by kernel_rfl))⟩
 t0:=underlying0
 a0:=Tryz.isAgg0
 z0:=Tryz.sizeOf0
 v0:=Tryz.zeroValue0
 t4:=underlying4
 a4:=Tryz.isAgg4
 z4:=Tryz.sizeOf4
 v4:=Tryz.zeroValue4
 t23:=underlying113
 a23:=Tryz.isAgg113
 z23:=Tryz.sizeOf113
 v23:=Tryz.zeroValue113
 t26:=underlying9
 a26:=Tryz.isAgg9
 z26:=Tryz.sizeOf9
 v26:=Tryz.zeroValue9
 t27:=underlying255
 a27:=Tryz.isAgg255
 z27:=Tryz.sizeOf255
 v27:=Tryz.zeroValue255
 t28:=underlying256
 a28:=Tryz.isAgg256
 z28:=Tryz.sizeOf256
 v28:=Tryz.zeroValue256
 t33:=underlying231
 a33:=Tryz.isAgg231
 z33:=Tryz.sizeOf231
 v33:=Tryz.zeroValue231 }
def aiv:Go.Shelf.Ren:=⟨fun|6=>168|8=>230|9=>70|11=>267|13=>155|12=>154|23=>226|24=>227|14=>217|15=>218|16=>219|17=>220|18=>221|19=>222|20=>223|21=>224|22=>225|25=>261|26=>262|27=>263|28=>264|29=>265|30=>266|31=>278|n=>n,fun|26=>9|28=>256|24=>61|0=>0|3=>3|37=>214|48=>281|50=>149|4=>4|40=>298|39=>297|45=>302|5=>5|9=>9|51=>331|55=>334|57=>340|58=>341|33=>231|n=>n,fun|n=>n⟩
theorem ab5:Go.Proofs.SlLaysZ.n6 prog aiv:={
 mixed:=by kernel_rfl
 f6:=⟨Tryz.f168.name,by decide,func168.trans (congrArg some (by kernel_rfl))⟩
 f8:=⟨Tryz.f230.name,by decide,func230.trans (congrArg some (by kernel_rfl))⟩
 f11:=⟨Tryz.f267.name,by decide,func267.trans (congrArg some (by kernel_rfl))⟩
 t0:=underlying0
 a0:=Tryz.isAgg0
 z0:=Tryz.sizeOf0
 v0:=Tryz.zeroValue0
 t24:=underlying61
 a24:=Tryz.isAgg61
 z24:=Tryz.sizeOf61
 v24:=Tryz.zeroValue61
 t26:=underlying9
 a26:=Tryz.isAgg9
 z26:=Tryz.sizeOf9
 v26:=Tryz.zeroValue9
 t28:=underlying256
 a28:=Tryz.isAgg256
 z28:=Tryz.sizeOf256
 v28:=Tryz.zeroValue256
 i26:=by kernel_rfl }
def av3:Go.Shelf.Ren:=⟨fun|6=>70|8=>155|9=>154|19=>226|20=>227|21=>217|22=>218|23=>219|24=>220|25=>221|26=>222|27=>223|28=>224|29=>225|36=>261|31=>262|32=>263|37=>264|38=>265|39=>266|41=>278|n=>n,fun|27=>61|29=>9|3=>3|32=>214|26=>61|0=>0|44=>281|46=>149|4=>4|36=>298|35=>297|41=>302|5=>5|9=>9|53=>331|57=>334|63=>340|64=>341|n=>n,fun|n=>n⟩
theorem Y4:Go.Proofs.SlLaysM.n6 prog av3:={
 mixed:=by kernel_rfl
 f6:=⟨Tryz.f70.name,by decide,func70.trans (congrArg some (by kernel_rfl))⟩
 f8:=func155.trans (congrArg some (by kernel_rfl))
 f9:=⟨Tryz.f154.name,by decide,func154.trans (congrArg some (by kernel_rfl))⟩
 f19:=func226.trans (congrArg some (by kernel_rfl))
 f20:=func227.trans (congrArg some (by kernel_rfl))
 f21:=⟨Tryz.f217.name,by decide,func217.trans (congrArg some (by kernel_rfl))⟩
 f22:=⟨Tryz.f218.name,by decide,func218.trans (congrArg some (by kernel_rfl))⟩
 f23:=⟨Tryz.f219.name,by decide,func219.trans (congrArg some (by kernel_rfl))⟩
 f24:=⟨Tryz.f220.name,by decide,func220.trans (congrArg some (by kernel_rfl))⟩
 f25:=⟨Tryz.f221.name,by decide,func221.trans (congrArg some (by kernel_rfl))⟩
 f26:=⟨Tryz.f222.name,by decide,func222.trans (congrArg some (by kernel_rfl))⟩
 f27:=⟨Tryz.f223.name,by decide,func223.trans (congrArg some (by kernel_rfl))⟩
 f28:=⟨Tryz.f224.name,by decide,func224.trans (congrArg some (by kernel_rfl))⟩
 f29:=⟨Tryz.f225.name,by decide,func225.trans (congrArg some (by kernel_rfl))⟩
 f31:=func262.trans (congrArg some (by kernel_rfl))
 f32:=func263.trans (congrArg some (by kernel_rfl))
 f36:=⟨Tryz.f261.name,by decide,func261.trans (congrArg some (by kernel_rfl))⟩
 f37:=⟨Tryz.f264.name,by decide,func264.trans (congrArg some (by kernel_rfl))⟩
 f38:=⟨Tryz.f265.name,by decide,func265.trans (congrArg some (by kernel_rfl))⟩
 f39:=⟨Tryz.f266.name,by decide,func266.trans (congrArg some (by kernel_rfl))⟩
 f41:=⟨Tryz.f278.name,by decide,func278.trans (congrArg some (by kernel_rfl))⟩
 t0:=underlying0
 a0:=Tryz.isAgg0
 z0:=Tryz.sizeOf0
 v0:=Tryz.zeroValue0
 t3:=underlying3
 a3:=Tryz.isAgg3
 z3:=Tryz.sizeOf3
 v3:=Tryz.zeroValue3
 t4:=underlying4
 a4:=Tryz.isAgg4
 z4:=Tryz.sizeOf4
 v4:=Tryz.zeroValue4
 t5:=underlying5
 a5:=Tryz.isAgg5
 z5:=Tryz.sizeOf5
 v5:=Tryz.zeroValue5
 t9:=underlying9
 a9:=Tryz.isAgg9
 z9:=Tryz.sizeOf9
 v9:=Tryz.zeroValue9
 t26:=underlying61
 a26:=Tryz.isAgg61
 z26:=Tryz.sizeOf61
 v26:=Tryz.zeroValue61
 t27:=underlying61
 a27:=Tryz.isAgg61
 z27:=Tryz.sizeOf61
 v27:=Tryz.zeroValue61
 t29:=underlying9
 a29:=Tryz.isAgg9
 z29:=Tryz.sizeOf9
 v29:=Tryz.zeroValue9
 t32:=underlying214
 a32:=Tryz.isAgg214
 z32:=Tryz.sizeOf214
 v32:=Tryz.zeroValue214
 t35:=underlying297
 a35:=Tryz.isAgg297
 z35:=Tryz.sizeOf297
 v35:=Tryz.zeroValue297
 t36:=underlying298
 a36:=Tryz.isAgg298
 z36:=Tryz.sizeOf298
 v36:=Tryz.zeroValue298
 t41:=underlying302
 a41:=Tryz.isAgg302
 z41:=Tryz.sizeOf302
 v41:=Tryz.zeroValue302
 t44:=underlying281
 a44:=Tryz.isAgg281
 z44:=Tryz.sizeOf281
 v44:=Tryz.zeroValue281
 t46:=underlying149
 a46:=Tryz.isAgg149
 z46:=Tryz.sizeOf149
 v46:=Tryz.zeroValue149
 t53:=underlying331
 a53:=Tryz.isAgg331
 z53:=Tryz.sizeOf331
 v53:=Tryz.zeroValue331
 t57:=underlying334
 a57:=Tryz.isAgg334
 z57:=Tryz.sizeOf334
 v57:=Tryz.zeroValue334
 t63:=underlying340
 a63:=Tryz.isAgg340
 z63:=Tryz.sizeOf340
 v63:=Tryz.zeroValue340
 t64:=underlying341
 a64:=Tryz.isAgg341
 z64:=Tryz.sizeOf341
 v64:=Tryz.zeroValue341 }
end
section
open Go.Sort Go.Shelf
open Ah
attribute [local go_sem] OJ
theorem ab6(m:Nat):AnyZ.SortsIn prog aiv Fence.wide m:=
 ⟨fun blk off cap ss W hH fF BS=>DK.2 (AnyM.slices_Sort_string Y4 blk off cap ss W hH fF BS),
  fun p cap W=>DK.2 (AnyM.slices_Sort_string_none Y4 p cap W)⟩
theorem auK(mb:Option Nat)(W:World):Calls prog 169 #[.map mb] W fun e w'=>e=.returned (.func (.func 231) #[] #[.pointer W.heap.size])∧w'=W.alloc (.cells #[.map mb] 113):=
 DK.1 (AnyZ.keys_in aij Fence.wide 5 trivial rfl mb W)
theorem azT{F:M}(h:Up F){ss:List T}(hp:ss.Perm (F.map (·.1))):ss.mergeSort (fun x y=>decide (x≤y))=F.map (·.1):=by
 have e:ss.mergeSort leB=(F.map (·.1)).mergeSort leB:=mergeSort_of_perm hp;have e2:(F.map (·.1)).mergeSort leB=F.map (·.1):=by
  refine List.mergeSort_of_pairwise ?_;refine List.pairwise_map.2 (h.imp fun {a b} hab=>?_)
  show decide (a.1≤b.1)=true
  simpa using List.not_lt.1 (RJ hab)
 exact e.trans e2
theorem av4{w:World}{m:Nat}{F:M}(h:CV w m F)(hlen:F.length≤1000000):
  Calls prog 168 #[.func (.func 231) #[] #[.pointer w.heap.size]] (w.alloc (.cells #[.map (some m)] 113)) fun e w'=>
   ∃ v,e=.returned v∧w'.ownsRow (w.heap.size+1) 9 1 v F.length ((F.map (·.1)).map encStr)∧Bw w w':=by
 obtain⟨hu,kv,aS,Vm⟩:=h;obtain⟨D,hown,BS,fU⟩:=Vm.keyed;have E9:kv.length=F.length:=by rw[aS.length_eq];unfold Qg;rw[Ca]
 have aK:(kv.map (·.1)).Perm (F.map (·.1)):=by rw[←aic];exact aS.map _
 have Ct:=hown.lt;have Ml:SeqGives Fence.wide 2 prog 231 #[.pointer w.heap.size] encStr (fun ss=>ss.Perm (strKeys D)) (Maps.size D) (w.alloc (.cells #[.map (some m)] 113)):=
  AnyZ.keys_gives (ρ:=aik) { aij with } Fence.wide _ trivial rfl (by omega) w.heap.size m kv.length D _ (by simp) (by simp) (by
   obtain⟨es,clock,hb,Ft,hs,hD⟩:=hown;exact⟨es,clock,(Below.heap_alloc _ _ m Ct).trans hb,Ft,hs,hD⟩)
 have cS:=AnyZ.sorted_in ab5 Fence.wide 5 trivial trivial trivial trivial rfl (by omega) (ab6 _) (enters_of func70 (by kernel_rfl) rfl) 231 #[.pointer w.heap.size] trivial (enters_of func231 (by kernel_rfl) rfl) _ _ (by unfold maxLen;omega) (by omega) _ Ml;refine(DK.1 cS).mono ?_;rintro e w'⟨v,ss,rfl,hS,Af,_,hb⟩;have Nb:ss.Perm (F.map (·.1)):=(hS.trans fU.symm).trans aK;have e1:ss.length=F.length:=by have:=Nb.length_eq;simpa using this
 rw[e1,azT hu Nb] at Af;exact⟨v,rfl,by rw[Az] at Af;exact Af,((Ai _ w).alloc (Ag _) _).trans (hb.mono (by rw[Az];omega))⟩
theorem aBM(W:World)(s:List UInt8):(Instr.field 109 (.agg #[s]) 0).run prog W=.ok ↑s W:=by
 simp[Instr.field,He underlying109,go_sem,asAgg,Result.andThen]
def qZ(W:World)(k:Nat):Prop:=∃ o,W.heap[k]?=some o∧o.isCells=false
def May(Q:World→Nat→Prop)(n₀:Nat)(W:World)(k:Nat):Prop:=Q W k∨(n₀≤k∧qZ W k)
structure Qe(Q:World→Nat→Prop)(n₀:Nat)(W W':World):Prop where
 upd:A7 (May Q n₀ W) W W'
 stay:∀ k,Q W' k→May Q n₀ W k∨W.heap.size≤k
theorem May.back{Q:World→Nat→Prop}{n₀:Nat}{A B:World}(h:Qe Q n₀ A B){k:Nat}(hk:May Q n₀ B k):May Q n₀ A k∨A.heap.size≤k:=by
 rcases hk with hk|⟨h1,o,h2,h3⟩
 ·exact h.stay k hk
 ·by_cases hlt:k < A.heap.size
  ·by_cases hm:May Q n₀ A k
   ·exact .inl hm
   ·exact .inl (.inr ⟨h1,o,(h.upd.block k hlt hm).symm.trans h2,h3⟩)
  ·exact .inr (by omega)
theorem Qe.trans{Q:World→Nat→Prop}{n₀:Nat}{A B C:World}(h:Qe Q n₀ A B)(k:Qe Q n₀ B C):Qe Q n₀ A C:=
 ⟨h.upd.trans k.upd (fun _ hi=>May.back h hi),fun i hi=>by
  rcases k.stay i hi with hi|hi
  ·exact May.back h hi
  ·exact .inr (Ay h.upd.size hi)⟩
theorem Qe.putObj{Q:World→Nat→Prop}{n₀:Nat}{W:World}{l:Nat}{o o':Obj}(hl:n₀≤l)(ho:W.heap[l]?=some o)(hc:o.isCells=false)(hQ:∀ k,Q (W.putObj l o') k→May Q n₀ W k∨W.heap.size≤k):Qe Q n₀ W (W.putObj l o'):=
 ⟨A7.of_grownBy (grownBy_putObj' W l o') (fun k e=>by cases e;exact .inr ⟨hl,o,ho,hc⟩),hQ⟩
theorem Qe.aA7{Q:World→Nat→Prop}{n₀:Nat}{W W':World}(h:A7 (May Q n₀ W) W W')(hQ:∀ k,k < W.heap.size→W'.heap[k]?=W.heap[k]?→Q W' k→Q W k):Qe Q n₀ W W':=
 ⟨h,fun k hk=>by
  by_cases hlt:k < W.heap.size
  ·by_cases hm:May Q n₀ W k
   ·exact .inl hm
   ·exact .inl (.inl (hQ k hlt (h.block k hlt hm) hk))
  ·exact .inr (by omega)⟩
abbrev ja:={ p:T×T // EX p.1 p.2=true }
def sj(x:ja):Array Value:=#[.string (bs x.1.1),.string (bs x.1.2)]
theorem aaW:∀ (F:M),Ah.Good F→∃ L:List ja,L.map (·.1)=F
 |[],_=>⟨[],rfl⟩
 |p :: F,h=>by
  obtain⟨L,hL⟩:=aaW F (fun q hq=>h q (Fs _ hq));exact⟨⟨p,h p Gl⟩ :: L,by rw[Ce,hL]⟩
theorem aiw(mb:Option Nat)(w:World):
  Calls prog 84 #[.map mb] w fun e w'=>e=.returned (.func (.func 167) #[] #[.pointer w.heap.size])∧w'=w.alloc (.cells #[.map mb] 113):=by
 go_in
 go_wp2;go_ret;exact⟨rfl,rfl⟩
theorem aix(n:Nat)(hn:1≤n)(Q:World→Nat→Prop)(n₀ Bx m:Nat)(F:M)(L:List ja)(hL:L.map (·.1)=F)(w:World)(hc:w.cell? Bx=some (.map (some m)))(hM:CV w m F)(hlen:F.length≤1000000)(axN:w.heap.size≤n₀)(hQ1:∀ W k,Q W k→k≠m∧k≠Bx)
  (hQ2:∀ W W' g,Bw w W→Bw W W'→W.heap.size≤g→Bf W' g 9→¬ Q W' g):
  SeqStopsK Fence.wide n prog 167 #[.pointer Bx] sj (Qe Q n₀) (fun ys=>ys=L) (fun _=>True) L.length w:=fun l J Jx W hW hJ _ hY h0=>by
 have IE:=Cv hc;have gy:=hM.lt;have Pm:=(hW.cell (p:=⟨Bx,0,none⟩) IE).trans hc;have hM':=hM.below hW;have BS:=hW.size;have EA:L.length=F.length:=by rw[←hL,Ca]
 have Ak:Bw W (W.alloc (.cells #[.map (some m)] 113)):=(Ai _ _).alloc (Ag _) _;have HS:=Hi (av4 hM' hlen);have HM:=Hi hM';have HL:=Hi hL;have O7:=Hi EA;have FO:=Hi hlen;have HC:=Hi Pm;have qD:=Hi hQ1;have zu:=Hi (fun W' g=>hQ2 W W' g hW);clear hc hM hM' hW hlen hQ1 hQ2 EA hL;refine callsIn_of_wp func167 rfl trivial ?_ rfl;simp only[ntmps167,Kz,BM,IV,Nat.reduceAdd,Nat.reduceSub,Nj,Nk,Nq,Nn,EE,I5];have hfK:Fence.wide.fn 169:=trivial;have hfS:Fence.wide.fn 168:=trivial
 gi_wp2_with (first
  |(gi_at_call 169;refine(DK.2 (auK _ _)).mono ?_;rintro e w' ⟨rfl,rfl⟩)
  |(gi_at_call 168;refine(DK.2 HS).mono ?_;rintro e W1 ⟨v,rfl,Af,Me⟩;obtain⟨q,cap,rfl⟩:=Bp Af))
 have hJ1:J [] W1:=hJ _ _ _ none h0 ⟨Me.os,Me.tape,Me.output,Me.size,fun k hk _=>Me.block k hk⟩ (fun r e=>by cases e);have BF:=Hi Af;have D6:=Hi Me;clear Af Me h0
 gi_loopw [9] (fun i wr=>∃ k:Nat,k≤F.length∧i=.int .i64 k∧J (L.take k) wr∧Qe Q n₀ W1 wr)
  (fun i _=>F.length -(intOf i).toNat)
 case atStart=>exact⟨0,AV _,rfl,by rw[Gm];exact hJ1,⟨A7.refl _ _,fun k hk=>.inl (.inl hk)⟩⟩
 case round=>
  obtain⟨k,hk,rfl,SE,GK⟩:=hrel;by_cases hlt:k < F.length
  ·have hkL:k < L.length:=(by rw[O7.out];exact hlt);obtain⟨g,rfl⟩:∃ g,q=some ⟨g,0,none⟩:=by
    rcases BF.2 with⟨e1,e2⟩|⟨g,cap,_,e1,_⟩
    ·omega
    ·exact⟨g,by injection e1⟩
   have Vi:=Cx BF (g:=g) rfl;have hgW:W.heap.size+1≤g:=by
    rcases BF.2 with⟨e1,_⟩|⟨g',cap',_,e1,hb,_⟩
    ·injection e1 with e1;cases e1
    ·injection e1 with e1;cases e1;exact hb
   have hnq:¬ Q W1 g:=zu W1 g D6 (by omega) Vi;have IJ:¬ May Q n₀ W1 g:=by
    rintro(h|⟨_,o,h1,h2⟩)
    ·exact hnq h
    ·obtain⟨cs,fr,h3⟩:=Vi;rw[h1] at h3;cases h3;cases h2
   have al3:∀ i,i < F.length→wr.cell? ⟨g,i,none⟩=W1.cell? ⟨g,i,none⟩:=fun i hi=>World.cell?_of_block (GK.upd.block g Vi.lt IJ)
   have Qz:=D6.size;have hxF:F[k]=L[k].1:=by
    have e:(L.map (·.1))[k]?=F[k]? :=(by rw[HL.out]);rw[JS,CZ hkL,CZ hlt] at e;simpa using e.symm
   have fO:wr.cell? ⟨g,k,none⟩=some ↑L[k].1.1:=by
    rw[al3 k hlt];have:=BF.cells (g:=g) rfl k (encStr F[k].1) (by rw[JS,JS,CZ hlt];rfl);rw[add_plain,hxF] at this;exact this
   have ak:wr.cell? Bx=some (.map (some m)):=by
    refine(World.cell?_of_block (GK.upd.block Bx (by omega) ?_)).trans ((D6.cell (p:=⟨Bx,0,none⟩) (by show Bx < W.heap.size;omega)).trans HC);rintro(h|⟨h1,_⟩)
    ·exact(qD _ _ h).2 rfl
    ·omega
   have hmr:CV wr m F:=by
    refine(HM.below D6).upd GK.upd ?_;rintro(h|⟨h1,_⟩)
    ·exact(qD _ _ h).1 rfl
    ·omega
   have Vv:(L[k].1.1,L[k].1.2)∈F:=by
    rw[←hxF];exact CK hlt
   have hgx:=get_mem hmr.1 Vv;have nE:=L[k].2;have hxb:L[k].1.1.length≤32∧L[k].1.2.length≤65535:=(by unfold EX at nE;simp at nE;exact⟨nE.2.1,nE.2.2⟩);have JK:=hmr.lookup L[k].1.1 (by unfold maxLen;omega);rw[hgx,RZ] at JK;have II:=Hy prog 61 9 underlying61 1 (by kernel_rfl) ⟨g,0,none⟩ F.length cap k hlt;rw[add_plain,Nat.mul_one] at II;have CL:=Hi (show L.take (k+1)=L.take k++[L[k]] by rw[List.take_add_one,CZ hkL];rfl);obtain⟨fn,tmps,assign,body,hy,hR⟩:=hY _ L[k] wr SE (by rw[Bc];omega);unfold sj at hy;have CW:=Hi GK;clear Vi hgW hnq IJ al3 hxF hmr Vv hgx nE hxb GK SE Qz;generalize L[k]=x at*;clear hkL;obtain⟨⟨xn,xd⟩,hxx⟩:=x;simp only at fO JK hy;have Yu:=fun W=>aBM W xd
   have hFL:=FO.out
   gi_wp2
   refine hR.mono ?_;rintro e W3 (⟨rfl,hJ3,Vj⟩|⟨rfl,abD⟩)
   ·gi_wp2
    go_roundw
    case rel=>exact⟨k+1,by omega,by simp,by rw[CL.out];exact hJ3,CW.trans Vj⟩
    case measure=>simp[intOf];omega
   ·gi_wp2
    refine EO (results_none rfl _ _ _) rfl ?_;exact⟨⟨_,rfl⟩,.inr ⟨_,trivial,abD⟩⟩
  ·obtain rfl:k=F.length:=by omega
   gi_wp2
   go_end0
   exact⟨⟨_,rfl⟩,.inl ⟨_,rfl,by rw[←O7.out,D5] at SE;exact SE⟩⟩
end
section
open Go.Sort Go.Shelf
open Ah
attribute [local go_sem] OJ
theorem aCN{fn:Func}{q:Tmp}(h:fn.results=#[.cell q 61])(tmps:Array Value)(w:World)(g:Nat)(p:Option Addr)(n c:Nat)(hq:tmps.getD q undef=.pointer g)(hc:w.cell? g=some (.slice p n c)):
  (results fn tmps).run prog w=.ok (.slice p n c) w:=by
 have hq':tmps[q]?.getD undef=.pointer g:=by simpa using hq
 simp only[results,h];simp[hq',asAddr];go_simp
def aa2(B m:Nat)(W:World)(k:Nat):Prop:=k=B∨(k≠m∧k≠B+1∧∃ v,W.cell? B=some v∧v.ownBlock=some k)
theorem anh{B m:Nat}(hm:m < B)(W:World)(k:Nat)(h:aa2 B m W k):k≠m∧k≠B+1:=by
 rcases h with rfl|⟨h1,h2,_⟩
 ·omega
 ·exact⟨h1,h2⟩
theorem Bf.Uq{W:World}{k:Nat}{t:TypeId}(h:Bf W k t):¬ qZ W k:=by
 obtain⟨cs,fr,h⟩:=h;rintro⟨o,h1,h2⟩;rw[h] at h1;cases h1;cases h2
theorem apS{A B:World}{row:Option Nat}{n:Nat}(hg:A.grownBy B row)(hr:∀ r,row=some r→n≤r∧∃ o:Obj,A.heap[r]?=some o∧o.isCells=false):A7 (fun k=>n≤k∧qZ A k) A B:=
 A7.of_grownBy hg (fun k e=>hr k e)
theorem XX{W:World}{B:Nat}{t:TypeId}{v:Value}(h:Boxed W B t v):Bf W B t:=⟨_,_,h⟩
theorem eu{F:Nat→Prop}{W W':World}{B:Nat}{t:TypeId}{v:Value}(h:Boxed W B t v)(hu:A7 F W W')(hF:¬ F B):Boxed W' B t v:=(hu.block B h.lt hF).trans h
theorem auM{w:World}{y b m x:Nat}{gv:Value}{F:St}(h:Dp w y b m x gv F)(hg:Ah.Good F.m)(hlen:F.m.length≤1000000):
  Calls prog 28 #[y] w fun e w'=>∃ v,e=.returned v∧w'.ownsRow 0 9 1 v F.m.length (strCells (F.m.map (·.1)))∧Bw w w'∧∀ k,v.ownBlock=some k→w.heap.size≤k:=by
 have hy:y < w.heap.size:=Ao h.struct;have gy:=h.map.lt;obtain⟨_,_,_,_,c4,_⟩:=h.cells;have HM:=Hi h.map;have HG:=Hi hg;have FO:=Hi hlen;clear h hg hlen;refine(DK (n:=6)).1 ?_;refine callsIn_of_wp_marks func28 rfl trivial ?_ rfl;simp only[ntmps28,Kz,BM,IV,Nat.reduceAdd,Nat.reduceSub,Nj,Nk,Nq,Nn,EE,I5];have hfK:Fence.wide.fn 84:=trivial
 gi_wp2_with (gi_at_call 84;refine(DK.2 (aiw _ _)).mono ?_;rintro e w1 ⟨rfl,rfl⟩)
 have Qj:Boxed ((w.alloc (.cells #[()] 61)).alloc (.cells #[.map (some m)] 113)) w.heap.size 61 ↑():=(Boxed.new w 61 ↑()).alloc _;have lF:Boxed ((w.alloc (.cells #[()] 61)).alloc (.cells #[.map (some m)] 113)) (w.heap.size+1) 113 (.map (some m)):=by
  have:=Boxed.new (w.alloc (.cells #[()] 61)) 113 (.map (some m));rwa[Az] at this
 have Be:Bw w ((w.alloc (.cells #[()] 61)).alloc (.cells #[.map (some m)] 113)):=((Ai _ _).alloc (Ag _) _).alloc (by simp) _;have Rv:((w.alloc (.cells #[()] 61)).alloc (.cells #[.map (some m)] 113)).heap.size=w.heap.size+2:=by rw[Az,Az]
 have Yd:=HM.below Be;obtain⟨L,hL⟩:=aaW F.m HG.out;have tL:L.length=F.m.length:=by rw[←hL,Ca]
 generalize (w.alloc (.cells #[()] 61)).alloc (.cells #[.map (some m)] 113)=W0 at*;have Ml:=aix 5 (by omega) (aa2 w.heap.size m) (w.heap.size+2) (w.heap.size+1) m F.m L hL W0 lF.cell Yd FO (by omega) (fun W k hk=>anh gy W k hk)
  (fun W W' g hW lD hg Ct hq=>by
   have h1:=hW.size;rcases hq with rfl|⟨_,_,v,hv,hvb⟩
   ·omega
   ·rw[lD.cell (p:=⟨w.heap.size,0,none⟩) (by show w.heap.size < _;omega),hW.cell (p:=⟨w.heap.size,0,none⟩) (by show w.heap.size < _;omega),Qj.cell] at hv;cases hv;simp[Value.ownBlock] at hvb)
 obtain⟨i0,Bh,AY,AZ,Bb⟩:=Dy Tk;have zD:=Hi Ml;clear Ml;refine wpIn_rangeFunc_ownH (n:=6) rfl (by omega) (gf:=167) (lb:=#[.pointer (some ⟨w.heap.size+1,0,none⟩)]) rfl trivial (enters_of func167 (by kernel_rfl) rfl) zD (fun h k=>h.trans k)
  (fun W l o o' hl ho hc _=>Qe.putObj (by omega) ho hc (fun k hk=>?acI)) (Ai _ _) (fun _=>rfl)
  (fun pre W=>(Boxed W (w.heap.size+1) 113 (.map (some m))∧∃ v,Boxed W w.heap.size 61 v∧W.ownsRow w.heap.size 9 1 v pre.length (strCells (pre.map (·.1.1))))∧Bw w W)
  (fun _ _ _=>False)
  (fun s A B row hs hg hr=>?hown)
  (fun _ _ _ _ _ hs _ _=>hs)
  ⟨⟨lF,_,Qj,by rw[Kw,oD];exact DZ _ _ _ _⟩,Be⟩
  (fun x a' _=>a'={ tmps:=#[.pointer y,undef,.pointer w.heap.size,.string (bs x.1.1),.pointer y,.bool false,.pointer y,.pointer y,.pointer (some ⟨y,4,none⟩),.map (some m),.func (.func 167) #[] #[.pointer (some ⟨w.heap.size+1,0,none⟩)],.string (bs x.1.1),.string (bs x.1.2),undef,undef,undef,undef,undef],defers:=[] })
  (fun x a' _ X Y row hs hg hr=>hs)
  ?assign ?body ?done ?stop
 case acI=>
  have hlt:l < W.heap.size:=Ao ho;rcases hk with rfl|⟨h1,h2,v,h3,h4⟩
  ·exact .inl (.inl (.inl rfl))
  ·refine .inl (.inl (.inr ⟨h1,h2,v,?_,h4⟩));rw[←h3];exact((A7.of_grownBy (F:=fun k=>k=l) (grownBy_putObj' W l o') (fun k e=>by cases e;rfl)).cell (p:=⟨w.heap.size,0,none⟩) (by show w.heap.size < _;omega) (by show ¬ w.heap.size=l;omega)).symm
 case hown=>
  have hu:=apS hg hr;obtain⟨⟨g1,v,g2,g3⟩,g4⟩:=hs;exact⟨⟨eu g1 hu (fun h=>(XX g1).Uq h.2),v,eu g2 hu (fun h=>(XX g2).Uq h.2),BD g3 hu (fun g hg h=>(Cx g3 hg).Uq h.2)⟩,Cz g4 hu (fun i hi=>by omega) g4.size⟩
 case assign=>
  rintro l pre x W K hI hK;unfold sj
  gi_wp2
  exact hK _ _ ((KeepsOthers.refl _).from _) ⟨A7.refl _ _,fun k hk=>.inl (.inl hk)⟩ hI rfl
 case body=>
  rintro l pre x a' W hl⟨r,hr⟩ ⟨⟨g1,v,g2,g3⟩,g4⟩ rfl hlt;have hv:=g2.cell;have hf:=g2.frozen;have aFp:=g2.lt;have aG2:(pre.map (·.1.1)).length=pre.length:=Ca _;have GL:pre.length≤1000000:=by have:=FO.out;omega
  have aGk:=g4.size;have IX:=Hi g1;have D7:=Hi g2;have Hg:=Hi g3;have IY:=Hi g4;have avZ:1≤6 -1 -1:=by omega
  clear g1 g2 g3 g4
  gi_wp2_with (gi_at_builtin;refine wpListIn_append_own_at _ rfl _ _ 61 rfl w.heap.size 9 i0 _ 1 16 underlying61 Bh AY AZ Bb rfl (by decide) _ _ _ rfl (Hg.alloc _) ⟨W.heap.size,0,none⟩ 1 1 [.string (bs x.1.1)] rfl rfl (cell_one_new _ _ _) (by simp[Value.oneCell']) (by unfold maxLen;omega) (by omega) (by simp;omega) ?_;intro v' w1 Cf AJ _ hat;obtain⟨g',cap',rfl⟩:=ownsRow_succ Cf;obtain⟨Jq,Gi,DC,J8,Ac⟩:=D7.appended (by decide) Hg IY.size (Ag _) Cf AJ;have GG:=Jq.cell;have Yt:=Jq.frozen)
  have ED:A7 (May (aa2 w.heap.size m) (w.heap.size+2) W) W (w1.setCell w.heap.size (.slice g' (pre.length+1) cap')):=by
   refine(((A7.refl _ W).alloc _).trans (G:=fun k=>v.ownBlock=some k) (A7.of_grownBy AJ (fun k e=>e)) (fun k hk=>.inl (.inl (.inr ⟨?_,?_,v,D7.cell,hk⟩)))).setCell (p:=⟨w.heap.size,0,none⟩) (.inl (.inl (.inl rfl))) _
   ·intro e;subst e;rcases Hg.2 with⟨e1,_⟩|⟨g,cap,cur,e1,MZ,_⟩
    ·subst e1;simp[Value.ownBlock] at hk
    ·subst e1;simp[Value.ownBlock] at hk;omega
   ·intro e;subst e;exact Bf.ne (Cx Hg hk) (XX IX) (by decide) rfl
  have Ee:Boxed (w1.setCell w.heap.size (.slice g' (pre.length+1) cap')) (w.heap.size+1) 113 (.map (some m)):=by
   refine eu IX ED ?_;rintro(h|⟨_,h⟩)
   ·exact(anh gy _ _ h).2 rfl
   ·exact(XX IX).Uq h
  refine⟨J8.from _,⟨ED,fun k hk=>?_⟩,⟨Ee,_,Gi,?_⟩,IY.trans Ac⟩
  ·rcases hk with rfl|⟨h1,h2,u,h3,h4⟩
   ·exact .inl (.inl (.inl rfl))
   ·rw[Gi.cell] at h3;cases h3;rcases hat with hat|hat
    ·rw[hat] at h4;exact .inl (.inl (.inr ⟨h1,h2,v,D7.cell,h4⟩))
    ·rw[hat] at h4;cases h4;exact .inr (by rw[Az];omega)
  ·rw[AA,CQ]
   show World.ownsRow _ _ _ _ _ (pre.length+1) (strCells (pre.map (·.1.1)++[x.1.1]))
   rw[Tj];exact DC
 case done=>
  rintro DD ys W hDD rfl⟨⟨g1,v,g2,g3⟩,g4⟩ hK;have hv:=g2.cell;have hf:=g2.frozen;have D7:=Hi g2;have Hg:=Hi g3;have IY:=Hi g4;obtain⟨q,cap,rfl⟩:=Bp g3;clear g1 g2 g3 g4
  gi_wp2
  have Dm:(W.setCell w.heap.size (.slice q F.m.length cap)).heap[DD]?=some (.deferred (some [])):=(KeepsOthers.setCell _ _ _).same DD _ hK rfl;refine⟨by simp,.inl ⟨_,_,rfl,run_takeDeferred Dm,?_⟩⟩;have hu:A7 (fun k=>k=w.heap.size∨k=DD) W ((W.setCell w.heap.size (.slice q F.m.length cap)).putObj DD (.deferred none)):=
   ((A7.refl (fun k=>k=w.heap.size∨k=DD) W).setCell (p:=⟨w.heap.size,0,none⟩) (.inl (.inl rfl)) _).trans (G:=fun k=>k=DD) (A7.of_grownBy (grownBy_putObj' _ DD (.deferred none)) (fun k e=>by cases e;rfl)) (fun k e=>.inl (.inr e))
  have ED:A7 (fun k=>k=DD) (W.setCell w.heap.size (.slice q F.m.length cap)) ((W.setCell w.heap.size (.slice q F.m.length cap)).putObj DD (.deferred none)):=A7.of_grownBy (grownBy_putObj' _ DD (.deferred none)) (fun k e=>by cases e;rfl);have JG:Boxed (W.setCell w.heap.size (.slice q F.m.length cap)) w.heap.size 61 (.slice q F.m.length cap):=D7.set _;have Av:Boxed ((W.setCell w.heap.size (.slice q F.m.length cap)).putObj DD (.deferred none)) w.heap.size 61 (.slice q F.m.length cap):=eu JG ED (by show ¬ w.heap.size=DD;omega);refine⟨_,aCN rfl _ _ w.heap.size q _ cap rfl Av.cell,_,rfl,?_,Cz IY hu (fun i hi=>by rcases hi with rfl|rfl<;>omega) IY.size,fun k hk=>?_⟩
  ·have e1:ys.map (·.1.1)=F.m.map (·.1):=by rw[←hL,Kv];rfl
   have this:=BD Hg hu (fun g hg h=>by
    have Pk:=Cx Hg hg;rcases h with rfl|rfl
    ·exact Bf.ne Pk (XX D7) (by decide) rfl
    ·exact Pk.Uq ⟨_,hK,rfl⟩)
   have apG:World.ownsRow _ 0 _ _ _ _ _:=⟨this.1,by
    rcases this.2 with h|⟨g,c,cur,h1,_,h3⟩
    ·exact .inl h
    ·exact .inr ⟨g,c,cur,h1,AV _,h3⟩⟩
   rw[e1,tL] at apG;exact apG
  ·rcases Hg.2 with⟨e1,_⟩|⟨g,c,cur,e1,MZ,_⟩
   ·rw[←tL,e1] at hk;simp[Value.ownBlock] at hk
   ·rw[←tL,e1] at hk;simp[Value.ownBlock] at hk;omega
 case stop=>
  rintro DD c pre W _ _ h _;exact h.elim
end
section
open Go.Sort Go.Shelf
open Ah
attribute [local go_sem] OJ
def y5(B m Bx:Nat)(W:World)(k:Nat):Prop:=k=B∨(k≠m∧k≠Bx∧Bf W k 5)
theorem Et.kind{w:World}{b:Nat}{l:List UInt8}{fp:Nat→Prop}(h:Et w b l fp){k:Nat}(hk:fp k):k=b∨Bf w k 5:=by
 obtain⟨p,v,_,_,h3,_,_,rfl⟩:=h;rcases hk with hk|hk
 ·exact .inl hk
 ·exact .inr (Cx h3 hk)
theorem Et.blk{w:World}{b:Nat}{l:List UInt8}{fp:Nat→Prop}(h:Et w b l fp):Bf w b 210:=by
 obtain⟨p,v,h1,_⟩:=h;exact⟨_,_,h1⟩
theorem ayH{F:Nat→Prop}{W W':World}(n:Nat)(hu:A7 F W W')(hF:∀ k,F k→¬ qZ W k):KeepsFrom n W W':=
 ⟨hu.size,fun k o _ ho hc=>(hu.block k (Ao ho) (fun h=>hF k h ⟨o,ho,hc⟩)).trans ho⟩
theorem ai0(x:ja):x.1.1.length≤32∧x.1.2.length≤65535:=by
 have h:=x.2;unfold EX at h;simp at h;exact⟨h.2.1,h.2.2⟩
theorem au9(pre:List ja):((pre.map (·.1)).flatMap TP).length≤65575*pre.length:=by
 rw[sI]
 induction pre with
 |nil=>simp
 |cons x pre ih=>
  have:=ai0 x;have hc:cost x.1=8+x.1.1.length+x.1.2.length:=rfl;rw[Ce,Ce,DY,BM];omega
theorem aue{w:World}{m:Nat}{F:M}(h:CV w m F)(hg:Ah.Good F)(hc:used F≤1000000):
  Calls prog 135 #[.map (some m)] w (Rt w ↑(Ah.bytes F)):=by
 have gy:=h.lt;have Ij:=RV F;have axv:F.length≤1000000:=by omega
 have SN:=h.below ((Ai w.heap.size w).alloc (Ag _) (.cells #[.pointer none,()] 210));have mF:=fun ty=>SN.len ty
 have HM:=Hi SN;have HG:=Hi hg;have HC:=Hi hc;have NB:=Hi Ij;have AP:=Hi ((Ai w.heap.size w).alloc (Ag _) (.cells #[.pointer none,()] 210));have Dl:=Hi (Et.made w);clear h hg hc Ij SN;refine(DK (n:=6)).1 ?_;refine callsIn_of_wp_marks func135 rfl trivial ?_ rfl;simp only[ntmps135,Kz,BM,IV,Nat.reduceAdd,Nat.reduceSub,Nj,Nk,Nq,Nn,EE,I5]
 gi_wp2
 refine⟨trivial,(DK.2 (sM F.length _ (by omega))).mono ?_⟩;rintro e w1⟨rfl,hb⟩;have QK:=Hi (Dl.upd (ub hb) (fun _ _ f=>f));have HB1:=bH AP hb;have dE:=Hi (HM.below hb);clear hb
 gi_wp2
 refine⟨trivial,(DK.2 (XZ QK (Ab.le 4 F.length) (by simp[Ab.Cb]))).mono ?_⟩;rintro e w2⟨rfl,fp2,Yl,ED,Ov⟩;have uB:∀ k,fp2 k→w.heap.size≤k:=fun k hk=>by
  rcases Ov k hk with h|h
  ·rcases h with rfl|h
   ·exact Ag _
   ·simp[Value.ownBlock] at h
  ·exact Ay HB1.size h
 have abw:∀ k,(k=w.heap.size∨(Value.slice none 0 0).ownBlock=some k)→k=w.heap.size:=fun k hk=>by
  rcases hk with h|h
  ·exact h
  ·simp[Value.ownBlock] at h
 have Aj:=Hi (Cz HB1 ED (fun k hk=>by rw[abw k hk];exact Ag _) HB1.size);have dF:=Hi (dE.upd ED (fun hk=>by have:=abw m hk;omega));have PQ:=Hi Yl;have jC:=Hi uB;clear QK HB1 dE Yl ED Ov uB abw Dl AP HM mF
 gi_wp2
 refine⟨trivial,(DK.2 (aiw _ _)).mono ?_⟩;rintro e w3⟨rfl,rfl⟩;have lF:Boxed (w2.alloc (.cells #[.map (some m)] 113)) w2.heap.size 113 (.map (some m)):=Boxed.new w2 _ _;have JG:Bw w2 (w2.alloc (.cells #[.map (some m)] 113)):=(Ai _ _).alloc (Ag _) _;have Yd:=dF.below JG;have ajQ:=PQ.upd (ub JG) (fun _ _ f=>f);have Be:=Aj.trans (JG.mono Aj.size);have X0:(w2.alloc (.cells #[.map (some m)] 113)).heap.size=w2.heap.size+1:=by rw[Az]
 have hbB:w.heap.size < w2.heap.size:=PQ.lt _ PQ.own;obtain⟨L,hL⟩:=aaW F HG.out;have tL:L.length=F.length:=by rw[←hL,Ca]
 generalize w2.alloc (.cells #[.map (some m)] 113)=W0 at*;generalize w2.heap.size=Bx at*
 have Ml:=aix 5 (by omega) (y5 w.heap.size m Bx) (Bx+1) Bx m F L hL W0 lF.cell Yd axv (by omega) (fun W k hk=>by
   rcases hk with rfl|⟨h1,h2,_⟩
   ·omega
   ·exact⟨h1,h2⟩)
  (fun W W' g hW lD hg Ct hq=>by
   have h1:=hW.size;rcases hq with rfl|⟨_,_,h3⟩
   ·omega
   ·exact Bf.ne Ct h3 (by decide) rfl)
 have zD:=Hi Ml;have qp:=Hi Yd;have aqL:=Hi ajQ;have AP:=Hi Be;clear Ml Yd ajQ Be JG dF PQ Aj
 gi_wp2
 refine wpIn_rangeFunc_ownH (n:=6) rfl (by omega) (gf:=167) (lb:=#[.pointer Bx]) rfl trivial (enters_of func167 (by kernel_rfl) rfl) zD (fun h k=>h.trans k)
  (fun W l o o' hl ho hc _=>Qe.putObj (by omega) ho hc (fun k hk=>?acI)) (Ai _ _) (fun _=>rfl)
  (fun pre W=>(CV W m F∧Boxed W Bx 113 (.map (some m))∧∃ fp,Et W w.heap.size (Ab.le 4 F.length++(pre.map (·.1)).flatMap TP) fp∧∀ k,fp k→w.heap.size≤k)∧Bw w W)
  (fun _ _ _=>False)
  (fun s A B row hs hg hr=>?hown)
  (fun _ _ _ _ _ hs _ _=>hs)
  ⟨⟨qp,lF,fp2,by rw[Kw,List.flatMap_nil,Eg];exact aqL.out,jC⟩,AP⟩
  (fun x a' _=>a'={ tmps:=#[.map (some m),undef,.string { data:=#[] },.pointer w.heap.size,.string (bs x.1.1),.string (bs x.1.2),.map (some m),.int .i64 (F.length:Int),.string (bs (Ab.le 4 F.length)),.tuple #[.int .i64 4,.nilIface],.map (some m),.func (.func 167) #[] #[.pointer Bx],.string (bs x.1.1),.string (bs x.1.2),undef,undef,undef,undef,undef,undef,undef,undef,undef,undef,undef,undef,undef],defers:=[] })
  (fun x a' _ X Y row hs hg hr=>hs)
  ?assign ?body ?done ?stop
 case acI=>
  have hlt:l < W.heap.size:=Ao ho;by_cases e:k=l
  ·exact .inl (.inr ⟨by omega,o,by rw[e];exact ho,hc⟩)
  ·refine .inl (.inl ?_);have hu:=A7.of_grownBy (F:=fun k=>k=l) (grownBy_putObj' W l o') (fun k e=>by cases e;rfl);rcases hk with hk|⟨h1,h2,h3⟩
   ·exact .inl hk
   ·refine .inr ⟨h1,h2,?_⟩;obtain⟨cs,fr,h4⟩:=h3;by_cases J8:k < W.heap.size
    ·exact⟨cs,fr,(hu.block k J8 e).symm.trans h4⟩
    ·exact absurd (Ao h4) (by rw[show(W.putObj l o').heap.size=W.heap.size by simp[World.putObj]];exact J8)
 case hown=>
  have hu:=apS hg hr;obtain⟨⟨g1,g2,fp,g3,g4⟩,g5⟩:=hs;refine⟨⟨g1.upd hu (fun h=>by have:=g1.lt;omega),eu g2 hu (fun h=>(XX g2).Uq h.2),fp,g3.upd hu (fun k hk h=>?_),g4⟩,Cz g5 hu (fun i hi=>by omega) g5.size⟩;rcases g3.kind hk with rfl|hk
  ·exact g3.blk.Uq h.2
  ·exact hk.Uq h.2
 case assign=>
  rintro l pre x W K hI hK;unfold sj
  gi_wp2
  exact hK _ _ ((KeepsOthers.refl _).from _) ⟨A7.refl _ _,fun k hk=>.inl (.inl hk)⟩ hI rfl
 case body=>
  rintro l pre x a' W hl⟨r,hr⟩ ⟨⟨g1,g2,fp,g3,g4⟩,g5⟩ rfl hlt;have IX:=Hi g1;have D7:=Hi g2;have Hg:=Hi g3;have IY:=Hi g4;have JA:=Hi g5;have avZ:1≤6 -1 -1:=by omega
  obtain⟨Eo,Ee⟩:=ai0 x;have GL:=au9 pre;have aG9:pre.length≤1000000:=by omega
  clear g1 g2 g3 g4 g5 hr
  gi_wp2
  refine⟨trivial,(CallsIn.inRound l (DK.2 (sM x.1.1.length _ (by omega)))).mono ?_⟩;rintro e w4⟨rfl,AB⟩
  gi_wp2
  refine⟨trivial,(CallsIn.inRound l (DK.2 (sM x.1.2.length _ (by omega)))).mono ?_⟩;rintro e w5⟨rfl,Bl⟩;have KE:=bH AB Bl;clear AB Bl;have aqM:=Hi (Hg.upd (ub KE) (fun _ _ f=>f))
  gi_wp2
  refine⟨trivial,(CallsIn.inRound l (DK.2 (XZ aqM (Ab.le 4 x.1.1.length++(x.1.1++(Ab.le 4 x.1.2.length++x.1.2))) (by simp only[AA,Ab.Cb];omega)))).mono ?_⟩;rintro e w6⟨rfl,fp6,ajR,KY,hs6⟩;have Ls:=Hi ((A7.of_below (F:=fp) KE).trans KY (fun k hk=>.inl hk));have aqN:=Hi ajR;have jT:=Hi hs6;clear ajR KY hs6
  gi_wp2
  have fP:∀ k,fp k→k=w.heap.size∨Bf W k 5:=fun k hk=>Hg.kind hk
  have axe:∀ k,fp k→y5 w.heap.size m Bx W k:=fun k hk=>by
   rcases fP k hk with h|h
   ·exact .inl h
   ·refine .inr ⟨fun e=>?_,fun e=>?_,h⟩
    ·subst e;exact IX.DI h
    ·subst e;exact Bf.ne h (XX D7) (by decide) rfl
  have hu:A7 (May (y5 w.heap.size m Bx) (Bx+1) W) W w6:=Ls.mono (fun k hk=>.inl (axe k hk));refine⟨ayH _ Ls (fun k hk h=>?_),Qe.aA7 hu (fun k hk he hq=>?_),⟨IX.upd Ls (fun hk=>?_),eu D7 Ls (fun hk=>?_),fp6,?_,fun k hk=>?_⟩,Cz JA Ls (fun k hk=>IY k hk) JA.size⟩
  ·rcases fP k hk with rfl|h2
   ·exact Hg.blk.Uq h
   ·exact h2.Uq h
  ·rcases hq with rfl|⟨h1,h2,cs,fr,h3⟩
   ·exact .inl rfl
   ·exact .inr ⟨h1,h2,cs,fr,he.symm.trans h3⟩
  ·have:=IY m hk;omega
  ·rcases fP _ hk with h2|h2
   ·omega
   ·exact Bf.ne h2 (XX D7) (by decide) rfl
  ·rw[CQ,LV,Ce,Kw,PL,List.flatMap_nil,Eg,←DJ];exact aqN.out
  ·rcases jT k hk with h|h
   ·exact IY k h
   ·exact Ay JA.size (Ay KE.size h)
 case done=>
  rintro DD ys W hDD rfl⟨⟨g1,g2,fp,g3,g4⟩,g5⟩ hK;have Hg:=Hi g3;have IY:=Hi g4;have JA:=Hi g5;clear g1 g2 g3 g4 g5
  gi_wp2
  refine⟨trivial,(DK.2 (XY Hg)).mono ?_⟩;rintro e w6⟨rfl,KY⟩
  gi_wp2
  have Dm:w6.heap[DD]?=some (.deferred (some [])):=(KY.block DD (Ao hK) (fun h=>by
   rcases Hg.kind h with e|e
   ·omega
   ·exact e.Uq ⟨_,hK,rfl⟩)).trans hK
  refine⟨by simp,.inl ⟨_,_,rfl,run_takeDeferred Dm,?_⟩⟩;have hu:A7 (fun k=>k=DD) w6 (w6.putObj DD (.deferred none)):=A7.of_grownBy (grownBy_putObj' w6 DD (.deferred none)) (fun k e=>by cases e;rfl);have Co:=Cz JA KY (fun k hk=>IY k hk) JA.size;exact⟨_,(by simp[results,results135,go_sem];rfl),rfl,Cz Co hu (fun k hk=>by subst hk;omega) Co.size⟩
 case stop=>
  rintro DD c pre W _ _ h _;exact h.elim
end
section
open Ah
structure Sb(w:World)(q:Addr)(c:Am):Prop where
 name:w.cell? (q.add 0)=some ↑c.name
 data:w.cell? (q.add 1)=some ↑c.data
 gone:w.cell? (q.add 2)=some ↑c.gone
theorem Sb.cells{w:World}{q:Addr}{c:Am}(h:Sb w q c):w.cell? q=some ↑c.name∧w.cell? ⟨q.block,q.off+1,none⟩=some ↑c.data∧w.cell? ⟨q.block,q.off+2,none⟩=some ↑c.gone:=by
 have h1:=h.name;rw[add_zero'] at h1;exact⟨h1,h.data,h.gone⟩
def Eh(w:World)(a:Option Addr)(l:List Am):Prop:=∀ i,(h:i < l.length)→∃ p:Addr,a=some p∧Sb w (p.add (i*3)) l[i]
theorem Sb.upd{F:Nat→Prop}{w w':World}{q:Addr}{c:Am}(h:Sb w q c)(hu:A7 F w w')(hF:¬ F q.block):Sb w' q c:=by
 have b:∀ i,(q.add i).block=q.block:=add_block q;have hlt:=Cv h.name;exact⟨(hu.cell hlt (by rw[b];exact hF)).trans h.name,(hu.cell (by rw[b];rw[b] at hlt;exact hlt) (by rw[b];exact hF)).trans h.data,(hu.cell (by rw[b];rw[b] at hlt;exact hlt) (by rw[b];exact hF)).trans h.gone⟩
theorem Eh.upd{F:Nat→Prop}{w w':World}{a:Option Addr}{l:List Am}(h:Eh w a l)(hu:A7 F w w')(hF:∀ p,a=some p→l≠[]→¬ F p.block):Eh w' a l:=fun i hi=>by
 obtain⟨p,hp,h1⟩:=h i hi;exact⟨p,hp,h1.upd hu (by rw[add_block];exact hF p hp (by intro e;rw[e] at hi;simp at hi))⟩
theorem Sb.below{w w':World}{q:Addr}{c:Am}(h:Sb w q c)(hb:Bw w w'):Sb w' q c:=h.upd (ub hb) (fun f=>f)
theorem Eh.below{w w':World}{a:Option Addr}{l:List Am}(h:Eh w a l)(hb:Bw w w'):Eh w' a l:=h.upd (ub hb) (fun _ _ _ f=>f)
theorem Eh.index{w:World}{a:Option Addr}{l:List Am}(h:Eh w a l)(cap k:Nat)(hk:k < l.length):
  ∃ q:Addr,(∀ W,(Instr.indexAt 32 (.slice a l.length cap) ↑(k:Int)).run prog W=.ok (.pointer (some q)) W)∧Sb w q l[k]∧∃ p:Addr,a=some p∧q.block=p.block:=by
 obtain⟨p,rfl,h1⟩:=h k hk;exact⟨_,fun W=>Hy prog _ 57 underlying32 3 (by kernel_rfl) p l.length cap k hk W,h1,p,rfl,add_block _ _⟩
theorem bK{w:World}{p:Addr}{v:Value}(h:w.cell? p=some v){m:Nat}{es:Array MapEntry}{c:Nat}(hm:w.heap[m]?=some (.map es c)):p.block≠m:=by
 intro e;subst e;unfold World.cell? at h;rw[hm] at h;simp at h
theorem aA9(F:M)(c:Am):(Am.on F c).length≤F.length+1:=by
 unfold Am.on;split
 ·unfold del;have:=LW (fun p:T×T=>!(p.1 == c.name)) F;omega
 ·unfold put;rw[AA,BM];have:(F.filter fun p=>decide (p.1 < c.name)).length+(F.filter fun p=>decide (c.name < p.1)).length≤F.length:=by
   induction F with
   |nil=>simp
   |cons p F ih=>
    by_cases h1:p.1 < c.name
    ·have h2:=RJ h1;rw[QI (by simpa using h1),PK (by simpa using h2)];simp only[BM];omega
    ·rw[PK (by simpa using h1)];have:=LW (fun q:T×T=>decide (c.name < q.1)) (p :: F);by_cases h2:c.name < p.1
     ·rw[QI (by simpa using h2)];simp only[BM];omega
     ·rw[PK (by simpa using h2)];simp only[BM];omega
  omega
theorem adI(F:M)(l:List Am):(made F l).length≤F.length+l.length:=by
 induction l generalizing F with
 |nil=>exact Ag _
 |cons c l ih=>
  have h1:=ih (Am.on F c);have h2:=aA9 F c
  show(made (Am.on F c) l).length≤_
  rw[BM];omega
theorem ab3{w:World}{m:Nat}{F:M}{a:Option Addr}{cap:Nat}{l:List Am}(hM:CV w m F)(hL:Eh w a l)(hlen:l.length≤1000000)(hF:F.length≤1000000000000000)(hok:∀ c∈l,c.name.length≤maxLen):
  Calls prog 56 #[.map (some m),.slice a l.length cap] w fun e w'=>e=.returned (.tuple #[])∧CV w' m (made F l)∧A7 (fun k=>k=m) w w':=by
 have HM:=Hi hM;have HL:=Hi hL;have Gy:=Hi hok;clear hM hL hok
 go_in
 go_wp2
 go_loopw [8] (fun i wr=>∃ k:Nat,k≤l.length∧i=.int .i64 k∧CV wr m (made F (l.take k))∧A7 (fun k=>k=m) w wr) (fun i _=>l.length -(intOf i).toNat)
 case atStart=>exact⟨0,AV _,rfl,HM,A7.refl _ _⟩
 case round=>
  obtain⟨k,hk,rfl,hm,hu⟩:=hrel;by_cases hlt:k < l.length
  ·obtain⟨q,Cn,hq,-⟩:=HL.index cap k hlt;obtain⟨es,ck,Po⟩:=HM.is;have Dw:=hq.upd hu (bK (hq.cells).1 Po);have Dj:=Gy _ (CK hlt);have HT:=Hi (show made F (l.take (k+1))=Am.on (made F (l.take k)) l[k] by rw[Cr hlt,vM]);generalize l[k]=c at*;obtain⟨cn,cd,cg⟩:=c;simp only at Dj;obtain⟨c0,c1,c2⟩:=Dw.cells;simp only at c0 c1 c2;have FK:=adI F (l.take k);rw[Bc] at FK;have hb:Bw wr (wr.alloc (.cells #[cn,cd,cg] 57)):=(Ai _ _).alloc (Ag _) _;have KT:=hm.below hb;have HU:=Hi hu;have HB:=Hi hb;cases cg with
   |true=>
    have hd:=fun ty=>KT.delete cn Dj ty
    obtain⟨w2,U1,Pn,Qp⟩:=hd 0;have O5:=Hi Pn;have PT:=Hi Qp;clear hq Dw Po hm KT hu hb FK Pn Qp hd;go_wp2;go_roundw
    case rel=>exact⟨k+1,by omega,by go_num,by rw[HT.out];exact O5.out,(HU.trans (A7.of_below (F:=fun k=>k=m) HB) (fun i hi=>.inl hi)).trans (A7.of_grownBy (F:=fun k=>k=m) PT (fun k e=>by cases e;rfl)) (fun i hi=>.inl hi)⟩
    case measure=>simp[intOf];omega
   |false=>
    obtain⟨w2,U1,Pn,Qp⟩:=KT.update cn cd Dj (by unfold maxLen;omega);have O5:=Hi Pn;have PT:=Hi Qp;clear hq Dw Po hm KT hu hb FK Pn Qp;go_wp2;go_roundw
    case rel=>exact⟨k+1,by omega,by go_num,by rw[HT.out];exact O5.out,(HU.trans (A7.of_below (F:=fun k=>k=m) HB) (fun i hi=>.inl hi)).trans (A7.of_grownBy (F:=fun k=>k=m) PT (fun k e=>by cases e;rfl)) (fun i hi=>.inl hi)⟩
    case measure=>simp[intOf];omega
  ·obtain rfl:k=l.length:=(by omega);rw[D5] at hm;have dF:=Hi hm;have HU:=Hi hu;clear hm hu;go_wp2_with fail
   go_end0
   exact⟨rfl,dF,HU⟩
theorem ahl(w:World)(x y:Value)(t:TypeId):∀ j u,[x,y][j]?=some u→(w.alloc (.cells #[x,y] t)).cell? ((⟨w.heap.size,0,none⟩:Addr).add j)=some u:=by
 intro j u hj;rw[add_plain,E5]
 match j,hj with
 |0,hj=>simpa using hj
 |1,hj=>simpa using hj
theorem avJ(l:List Am)(k:Nat)(h:k < l.length):group (l.take (k+1))=group (l.take k)++[V6 l[k].gone :: l[k].name,l[k].data]:=by
 rw[Cr h,avI]
theorem aun{w:World}{a:Option Addr}{cap:Nat}{l:List Am}(hL:Eh w a l)(hlen:l.length≤1000000)(hok:∀ c∈l,c.name.length≤1000000):
  Calls prog 59 #[.slice a l.length cap] w fun e w'=>∃ q cap',e=.returned (.slice q (group l).length cap')∧w'.ownsRow w.heap.size 9 1 (.slice q (group l).length cap') (group l).length (strCells (group l))∧Bw w w':=by
 obtain⟨i0,Bh,AY,AZ,Bb⟩:=Dy Tk;have HL:=Hi hL;have Gy:=Hi hok;clear hL hok
 go_in
 go_wp2
 go_loopw [2,8] (fun s i wr=>∃ (k:Nat) (q:Option Addr) (c:Nat),k≤l.length∧i=.int .i64 k∧s=.slice q (2*k) c∧wr.ownsRow w.heap.size 9 1 (.slice q (2*k) c) (2*k) (strCells (group (l.take k)))∧Bw w wr) (fun _ i _=>l.length -(intOf i).toNat)
 case atStart=>exact⟨0,none,0,AV _,rfl,rfl,by rw[Gm];show World.ownsRow _ _ _ _ _ 0 (strCells []);rw[oD];exact DZ _ _ _ _,Ai _ _⟩
 case round=>
  obtain⟨k,q,c,hk,rfl,rfl,Af,hb⟩:=hrel;by_cases hlt:k < l.length
  ·obtain⟨qa,Cn,hq,-⟩:=HL.index cap k hlt;have Dw:=hq.below hb;have Dj:=Gy _ (CK hlt);have HT:=Hi (avJ l k hlt);have h0:({ data:=#[0] }:ByteArray)=bs [0]:=rfl;have h1:({ data:=#[1] }:ByteArray)=bs [1]:=rfl;generalize l[k]=x at*;obtain⟨cn,cd,cg⟩:=x;simp only at Dj;obtain⟨c0,c1,c2⟩:=Dw.cells;simp only at c0 c1 c2;have BS:=hb.size;have HR:=Hi Af;have HB:=Hi hb;clear hq Dw Af hb;cases cg with
   |true=>
    go_wp2_with (at_builtin;refine wpList_append_own_at _ rfl _ _ 61 rfl w.heap.size 9 i0 _ 1 16 underlying61 Bh AY AZ Bb rfl (by decide) _ (2*k) _ rfl ((HR.alloc _).alloc _) ⟨wr.heap.size+1,0,none⟩ 2 2 [.string (bs (1 :: cn)),.string (bs cd)] rfl rfl (by have h:=ahl (wr.alloc (.cells #[cn,cd,true] 57)) ↑(1 :: cn) ↑cd 9;rw[Az] at h;exact h) (by simp[Value.oneCell']) (by unfold maxLen;omega) (by omega) (by simp;omega) ?_;intro v' w1 Cf AJ _ hat;obtain⟨g',cap',rfl⟩:=ownsRow_succ Cf;have HO:=Hi Cf;have HG:=Hi AJ;clear Cf AJ hat);go_roundw
    case rel=>
     refine⟨k+1,_,_,by omega,by go_num,rfl,?_,?_⟩
     ·rw[HT.out];unfold V6;have e:strCells (group (l.take k)++[1 :: cn,cd])=strCells (group (l.take k))++[.string (bs (1 :: cn)),.string (bs cd)]:=by
       rw[show group (l.take k)++[1 :: cn,cd]=(group (l.take k)++[1 :: cn])++[cd] by simp,Tj,Tj,DJ];rfl
      exact e▸HO.out
     ·exact((HB.alloc HB.size _).alloc (by simp;omega) _).grown HG (by simp;omega) (fun j hj=>by
       have Mf:(Value.slice q (2*k) c).ownBlock=some j:=hj;rcases HR.2 with⟨e1,_⟩|⟨g,c2,cur,e1,MZ,_⟩
       ·rw[e1] at Mf;simp[Value.ownBlock] at Mf
       ·rw[e1] at Mf;simp[Value.ownBlock] at Mf;omega)
    case measure=>simp[intOf];omega
   |false=>
    go_wp2_with (at_builtin;refine wpList_append_own_at _ rfl _ _ 61 rfl w.heap.size 9 i0 _ 1 16 underlying61 Bh AY AZ Bb rfl (by decide) _ (2*k) _ rfl ((HR.alloc _).alloc _) ⟨wr.heap.size+1,0,none⟩ 2 2 [.string (bs (0 :: cn)),.string (bs cd)] rfl rfl (by have h:=ahl (wr.alloc (.cells #[cn,cd,false] 57)) ↑(0 :: cn) ↑cd 9;rw[Az] at h;exact h) (by simp[Value.oneCell']) (by unfold maxLen;omega) (by omega) (by simp;omega) ?_;intro v' w1 Cf AJ _ hat;obtain⟨g',cap',rfl⟩:=ownsRow_succ Cf;have HO:=Hi Cf;have HG:=Hi AJ;clear Cf AJ hat);go_roundw
    case rel=>
     refine⟨k+1,_,_,by omega,by go_num,rfl,?_,?_⟩
     ·rw[HT.out];unfold V6;have e:strCells (group (l.take k)++[0 :: cn,cd])=strCells (group (l.take k))++[.string (bs (0 :: cn)),.string (bs cd)]:=by
       rw[show group (l.take k)++[0 :: cn,cd]=(group (l.take k)++[0 :: cn])++[cd] by simp,Tj,Tj,DJ];rfl
      exact e▸HO.out
     ·exact((HB.alloc HB.size _).alloc (by simp;omega) _).grown HG (by simp;omega) (fun j hj=>by
       have Mf:(Value.slice q (2*k) c).ownBlock=some j:=hj;rcases HR.2 with⟨e1,_⟩|⟨g,c2,cur,e1,MZ,_⟩
       ·rw[e1] at Mf;simp[Value.ownBlock] at Mf
       ·rw[e1] at Mf;simp[Value.ownBlock] at Mf;omega)
    case measure=>simp[intOf];omega
  ·obtain rfl:k=l.length:=(by omega);rw[D5] at Af;have Pt:=aj0 l;rw[←Pt] at Af ⊢;have HR:=Hi Af;have HB:=Hi hb;clear Af hb Pt;go_wp2;go_ret;exact⟨_,_,rfl,HR,HB⟩
end
section
open Ah
theorem aDp:∀ (n:Nat) (l:List T),l.length≤n→l.length % 2=1→ungroup l=none:=by
 intro n
 induction n with
 |zero=>intro l hn h;omega
 |succ n ih=>
  intro l hn h
  match l,h with
  |[_],_=>rfl
  |[] :: _ :: _,_=>rfl
  |(b :: k) :: d :: l,h=>
   simp only[ungroup];split
   ·rw[ih l (by simp at hn;omega) (by simp at h;omega)];rfl
   ·rfl
theorem apM{l R:List T}{cs:List Am}{b:UInt8}{n d:T}(h:ungroup l=(ungroup ((b :: n) :: d :: R)).map (cs++ ·))(hb:b.toNat≤1)(hm:Am.may ⟨n,d,b == 1⟩=true):ungroup l=(ungroup R).map ((cs++[⟨n,d,b == 1⟩])++ ·):=by
 rw[h];simp only[ungroup];rw[Ae ⟨hb,hm⟩,Option.map_map]
 congr 1
 funext q
 simp
theorem aeP{l R:List T}{cs:List Am}{b:UInt8}{n d:T}(h:ungroup l=(ungroup ((b :: n) :: d :: R)).map (cs++ ·))(hb:¬ (b.toNat≤1∧Am.may ⟨n,d,b == 1⟩=true)):ungroup l=none:=by
 rw[h];simp only[ungroup];rw[A9 hb];rfl
theorem aDo{l R:List T}{cs:List Am}{d:T}(h:ungroup l=(ungroup ([] :: d :: R)).map (cs++ ·)):ungroup l=none:=by
 rw[h];rfl
@[irreducible] def M9 (l:List Am):List Value:=l.flatMap fun c=>[.string (bs c.name),.string (bs c.data),.bool c.gone]
theorem rG:M9 []=[]:=by unfold M9;rfl
theorem rH(l:List Am)(c:Am):M9 (l++[c])=M9 l++[.string (bs c.name),.string (bs c.data),.bool c.gone]:=by unfold M9;simp
theorem asZ(l:List Am)(k:Nat)(hk:k < l.length)(j:Nat)(hj:j < 3):(M9 l)[k*3+j]?=([.string (bs l[k].name),.string (bs l[k].data),.bool l[k].gone]:List Value)[j]? :=by
 unfold M9
 induction l generalizing k with
 |nil=>simp at hk
 |cons c l ih=>
  rw[PL];cases k with
  |zero=>
   rw[Nat.zero_mul,GQ,List.getElem?_append_left (by simp;omega)];rfl
  |succ k=>
   rw[List.getElem?_append_right (by simp;omega),show(k+1)*3+j -([Value.string (bs c.name),.string (bs c.data),.bool c.gone]:List Value).length=k*3+j by simp;omega];exact ih k (by simpa using hk)
theorem Eh.CR{w:World}{base:Nat}{q:Option Addr}{c:Nat}{l:List Am}(h:w.ownsRow base 57 3 (.slice q l.length c) l.length (M9 l)):Eh w q l:=fun i hi=>by
 rcases h.2 with⟨e1,e2⟩|⟨g,cap,cur,e1,_⟩
 ·omega
 ·have e2:q=some ⟨g,0,none⟩:=by injection e1
  subst e2;have hc:∀ j,j < 3→∀ v,([.string (bs l[i].name),.string (bs l[i].data),.bool l[i].gone]:List Value)[j]?=some v→w.cell? (((⟨g,0,none⟩:Addr).add (i*3)).add j)=some v:=fun j hj v hv=>by
   rw[←asZ l i hi j hj] at hv;have:=h.cells (g:=g) rfl _ _ hv;rw[add_plain] at this ⊢;rw[Wt];exact this
  exact⟨_,rfl,hc 0 (by omega) _ rfl,hc 1 (by omega) _ rfl,hc 2 (by omega) _ rfl⟩
theorem rJ:(prog.info? 57).map (fun i=>(i.zero,i.size,i.bytes))=some (some (.agg #[.string ByteArray.empty,.string ByteArray.empty,false]),3,40):=by kernel_rfl
def XW(w:World)(l:List T)(e:Ending)(w':World):Prop:=
 match ungroup l with
 |none=>e=.returned (.tuple #[(),false])∧Bw w w'
 |some cs=>∃ q c,e=.returned (.tuple #[.slice q cs.length c,true])∧w'.ownsRow w.heap.size 57 3 (.slice q cs.length c) cs.length (M9 cs)∧Bw w w'
theorem oM{w w':World}{l:List T}{e:Ending}(h:ungroup l=none)(he:e=.returned (.tuple #[(),false]))(hb:Bw w w'):XW w l e w':=by
 unfold XW;rw[h];exact⟨he,hb⟩
theorem aDn{w w':World}{l:List T}{e:Ending}{cs:List Am}{q:Option Addr}{c:Nat}(h:ungroup l=some cs)(he:e=.returned (.tuple #[.slice q cs.length c,true]))(ho:w'.ownsRow w.heap.size 57 3 (.slice q cs.length c) cs.length (M9 cs))(hb:Bw w w'):XW w l e w':=by
 unfold XW;rw[h];exact⟨q,c,he,ho,hb⟩
theorem ab8{w:World}{a:Option Addr}{cap:Nat}{l:List T}(hL:Dz w a l)(hlen:l.length≤1000000)(hok:∀ s∈l,s.length≤1000000000):
  Calls prog 82 #[.slice a l.length cap] w fun e w'=>XW w l e w':=by
 have HL:=Hi hL;have Gy:=Hi hok;clear hL hok;by_cases Rp:l.length % 2=1
 ·have HN:=Hi (aDp _ l (Ag _) Rp);have h1:(l.length:Int) % 2=1:=by omega
  clear Rp
  go_in
  go_wp2;go_ret2;exact oM HN rfl (Ai _ _)
 ·obtain⟨n,hn⟩:∃ n,l.length=2*n:=⟨l.length / 2,by omega⟩;have h1:(l.length:Int) % 2=0:=by omega
  clear Rp;obtain⟨i0,Bh,AY,AZ,Bb⟩:=Dy rJ;have jQ:=Hi hn;clear hn
  go_in
  go_wp2_with fail;clear h1
  go_loopw [2,4] (fun s i wr=>∃ (k:Nat) (cs:List Am) (q:Option Addr) (c:Nat),k≤n∧cs.length=k∧i=.int .i64 (2*(k:Int))∧s=.slice q cs.length c∧wr.ownsRow w.heap.size 57 3 (.slice q cs.length c) cs.length (M9 cs)∧Bw w wr∧ungroup l=(ungroup (l.drop (2*k))).map (cs++ ·)) (fun _ i _=>l.length -(intOf i).toNat)
  case atStart=>exact⟨0,[],none,0,AV _,rfl,rfl,rfl,by rw[rG];exact DZ _ _ _ _,Ai _ _,by rw[List.drop_zero];cases ungroup l<;>rfl⟩
  case round=>
   obtain⟨k,cs,q,c,hk,BQ,rfl,rfl,Af,hb,Ht⟩:=hrel;by_cases hlt:k < n
   ·have gF:=jQ.out;have F8:2*k < l.length:=(by omega);have J8:2*k+1 < l.length:=(by omega);obtain⟨p,hp,WV⟩:=HL (2*k) F8;obtain⟨p',NP,Ov⟩:=HL (2*k+1) J8;obtain rfl:p=p':=(by rw[hp] at NP;exact GR NP);have hd:l.drop (2*k)=l[2*k] :: l[2*k+1] :: l.drop (2*(k+1)):=by
     rw[OH F8,OH J8];rfl
    rw[hd] at Ht;clear hd;have uI:∀ W,(Instr.indexAt 61 (.slice (some p) l.length cap) (.int .i64 (2*(k:Int)))).run prog W=.ok (.pointer (some (p.add (2*k)))) W:=fun W=>by
     have:=Hy prog 61 9 underlying61 1 (by kernel_rfl) p l.length cap (2*k) F8 W;rw[Nat.mul_one,show((2*k:Nat):Int)=2*(k:Int) by omega] at this;exact this
    have aI:∀ W,(Instr.indexAt 61 (.slice (some p) l.length cap) (.int .i64 (2*(k:Int)+1))).run prog W=.ok (.pointer (some (p.add (2*k+1)))) W:=fun W=>by
     have:=Hy prog 61 9 underlying61 1 (by kernel_rfl) p l.length cap (2*k+1) J8 W;rw[Nat.mul_one,show((2*k+1:Nat):Int)=2*(k:Int)+1 by omega] at this;exact this
    have DW:=Gy _ (CK F8);have Dt:=Gy _ (CK J8);subst hp;have vg:=(hb.cell (Cv WV)).trans WV;have vk:=(hb.cell (Cv Ov)).trans Ov;have alJ:∀ o,(wr.alloc o).cell? (p.add (2*k))=some (.string (bs l[2*k])):=fun o=>(((Ai _ wr).alloc (Ag _) o).cell (Cv vg)).trans vg
    have alK:∀ o,(wr.alloc o).cell? (p.add (2*k+1))=some (.string (bs l[2*k+1])):=fun o=>(((Ai _ wr).alloc (Ag _) o).cell (Cv vk)).trans vk
    have HR:=Hi Af;have HB:=Hi hb;have ES:=Hi BQ;have vB:=hb.size;clear HL;generalize p.add (2*k)=q1 at*;generalize p.add (2*k+1)=q2 at*;generalize l[2*k]=s1 at*;generalize l[2*k+1]=s2 at*;obtain⟨R,hR⟩:=ex (l.drop (2*(k+1)));rw[hR] at Ht;have Lp:=Hi hR;clear hR;clear Af hb WV Ov NP BQ;cases s1 with
    |nil=>
     have HN:=Hi (aDo Ht);clear Ht gF;go_wp2;go_ret2;exact oM HN rfl HB.out
    |cons b nm=>
     by_cases Ak:b.toNat≤1
     ·rcases(show b=0∨b=1 by
       have h1:=UInt8.toNat_lt b;rcases(show b.toNat=0∨b.toNat=1 by omega) with h|h
       ·exact .inl (UInt8.toNat_inj.1 h)
       ·exact .inr (UInt8.toNat_inj.1 h)) with rfl|rfl
      all_goals clear Ak gF
      ·have Yn:∀ W,(Instr.slice 9 ↑(0 :: nm) (some (.int .i64 1)) none none).run prog W=.ok ↑nm W:=fun W=>Nh prog W 9 underlying9 (0 :: nm) 1 (by simp)
       have Ei:nm.length≤1000000000:=(by simp at DW;omega);have Zz:=Hi Ei;have ZN:=Hi Ht;have e0:(0:Nat) < (0 :: nm).length:=(by simp);clear Ht DW;go_wp2;go_region;all_goals
        have D6:=Hi (show Bw wr (wr.alloc (.cells #[nm,s2,false] 57)).drew from((Ai _ _).alloc (Ag _) _).drew);have d0:((wr.alloc (.cells #[nm,s2,false] 57)).drew).cell? wr.heap.size=some ↑nm:=(by simp);have d1:((wr.alloc (.cells #[nm,s2,false] 57)).drew).cell? ⟨wr.heap.size,1,none⟩=some ↑s2:=(by simp);have d2:((wr.alloc (.cells #[nm,s2,false] 57)).drew).cell? ⟨wr.heap.size,2,none⟩=some ↑false:=(by simp);have zH:=Hi (show((wr.alloc (.cells #[nm,s2,false] 57)).drew).heap.size=wr.heap.size+1 by simp);clear vg alJ vk alK;generalize (wr.alloc (.cells #[nm,s2,false] 57)).drew=W1 at*;go_wp2_with fail;refine(sK nm s2 false _ (by have:=Zz.out;unfold maxLen;omega) (by unfold maxLen;omega)).mono ?_;rintro e w2⟨rfl,Ac⟩;have SS:wr.heap.size < W1.heap.size:=(by have:=zH.out;omega);have f0:=(Ac.cell (p:=⟨wr.heap.size,0,none⟩) SS).trans d0;have f1:=(Ac.cell (p:=⟨wr.heap.size,1,none⟩) SS).trans d1;have f2:=(Ac.cell (p:=⟨wr.heap.size,2,none⟩) SS).trans d2;have Aj:=bH D6 Ac;clear d0 d1 d2 Ac SS;obtain⟨mv,EH⟩:=ex (Am.may ⟨nm,s2,false⟩);have Sl:=Hi EH;rw[EH];clear EH;cases mv with
        |false=>
         have HN:=Hi (aeP ZN (fun h=>by have h2:=h.2;rw[show((0:UInt8) == 1)=false from rfl,Sl.out] at h2;cases h2));go_wp2;go_ret2;exact oM HN rfl (bT HB Aj)
        |true=>
         have HY:=Hi (apM ZN (by decide) (by rw[show((0:UInt8) == 1)=false from rfl];exact Sl.out));have Ue:=Aj.size;have hwz:w.heap.size≤w2.heap.size:=Ay vB Ue;have ak1:cs.length≤1000000:=(by have:=ES.out;omega);have BV:=Hi (BD HR (ub Aj) (fun _ _ f=>f));go_wp2_with (at_builtin;refine wpList_append_own_at _ rfl _ _ 32 rfl w.heap.size 57 i0 _ 3 40 underlying32 Bh AY AZ Bb rfl (by decide) _ cs.length _ rfl (BV.alloc _) ⟨w2.heap.size,0,none⟩ 1 1 [.string (bs nm),.string (bs s2),.bool false] rfl rfl (by intro j u hj;rw[add_plain,E5];exact(Dx▸hj)) (by simp[Value.oneCell']) (by unfold maxLen;omega) (by omega) (by simp;omega) ?_;intro v' w1 Cf AJ _ hat;obtain⟨g',cap',rfl⟩:=ownsRow_succ Cf;have HO:=Hi Cf;have HG:=Hi AJ;clear Cf AJ hat);go_roundw
         case rel=>
           refine⟨k+1,cs++[⟨nm,s2,false⟩],_,_,by omega,by rw[AA,ES.out];rfl,by go_num,by rw[AA];rfl,?_,?_,by rw[Lp.out];exact HY.out⟩
           ·rw[AA,rH];exact HO.out
           ·exact((bT HB Aj).alloc hwz _).grown HG (by simp;omega) (fun j hj=>by
             have Mf:(Value.slice q cs.length c).ownBlock=some j:=hj;rcases HR.2 with⟨e1,_⟩|⟨g,c2,cur,e1,MZ,_⟩
             ·rw[e1] at Mf;simp[Value.ownBlock] at Mf
             ·rw[e1] at Mf;simp[Value.ownBlock] at Mf;omega)
         case measure=>simp[intOf];omega
      ·have Yn:∀ W,(Instr.slice 9 ↑(1 :: nm) (some (.int .i64 1)) none none).run prog W=.ok ↑nm W:=fun W=>Nh prog W 9 underlying9 (1 :: nm) 1 (by simp)
       have Ei:nm.length≤1000000000:=(by simp at DW;omega);have Zz:=Hi Ei;have ZN:=Hi Ht;have e0:(0:Nat) < (1 :: nm).length:=(by simp);clear Ht DW;go_wp2;go_region;all_goals
        have D6:=Hi (show Bw wr (wr.alloc (.cells #[nm,s2,true] 57)).drew from((Ai _ _).alloc (Ag _) _).drew);have d0:((wr.alloc (.cells #[nm,s2,true] 57)).drew).cell? wr.heap.size=some ↑nm:=(by simp);have d1:((wr.alloc (.cells #[nm,s2,true] 57)).drew).cell? ⟨wr.heap.size,1,none⟩=some ↑s2:=(by simp);have d2:((wr.alloc (.cells #[nm,s2,true] 57)).drew).cell? ⟨wr.heap.size,2,none⟩=some ↑true:=(by simp);have zH:=Hi (show((wr.alloc (.cells #[nm,s2,true] 57)).drew).heap.size=wr.heap.size+1 by simp);clear vg alJ vk alK;generalize (wr.alloc (.cells #[nm,s2,true] 57)).drew=W1 at*;go_wp2_with fail;refine(sK nm s2 true _ (by have:=Zz.out;unfold maxLen;omega) (by unfold maxLen;omega)).mono ?_;rintro e w2⟨rfl,Ac⟩;have SS:wr.heap.size < W1.heap.size:=(by have:=zH.out;omega);have f0:=(Ac.cell (p:=⟨wr.heap.size,0,none⟩) SS).trans d0;have f1:=(Ac.cell (p:=⟨wr.heap.size,1,none⟩) SS).trans d1;have f2:=(Ac.cell (p:=⟨wr.heap.size,2,none⟩) SS).trans d2;have Aj:=bH D6 Ac;clear d0 d1 d2 Ac SS;obtain⟨mv,EH⟩:=ex (Am.may ⟨nm,s2,true⟩);have Sl:=Hi EH;rw[EH];clear EH;cases mv with
        |false=>
         have HN:=Hi (aeP ZN (fun h=>by have h2:=h.2;rw[show((1:UInt8) == 1)=true from rfl,Sl.out] at h2;cases h2));go_wp2;go_ret2;exact oM HN rfl (bT HB Aj)
        |true=>
         have HY:=Hi (apM ZN (by decide) (by rw[show((1:UInt8) == 1)=true from rfl];exact Sl.out));have Ue:=Aj.size;have hwz:w.heap.size≤w2.heap.size:=Ay vB Ue;have ak1:cs.length≤1000000:=(by have:=ES.out;omega);have BV:=Hi (BD HR (ub Aj) (fun _ _ f=>f));go_wp2_with (at_builtin;refine wpList_append_own_at _ rfl _ _ 32 rfl w.heap.size 57 i0 _ 3 40 underlying32 Bh AY AZ Bb rfl (by decide) _ cs.length _ rfl (BV.alloc _) ⟨w2.heap.size,0,none⟩ 1 1 [.string (bs nm),.string (bs s2),.bool true] rfl rfl (by intro j u hj;rw[add_plain,E5];exact(Dx▸hj)) (by simp[Value.oneCell']) (by unfold maxLen;omega) (by omega) (by simp;omega) ?_;intro v' w1 Cf AJ _ hat;obtain⟨g',cap',rfl⟩:=ownsRow_succ Cf;have HO:=Hi Cf;have HG:=Hi AJ;clear Cf AJ hat);go_roundw
         case rel=>
           refine⟨k+1,cs++[⟨nm,s2,true⟩],_,_,by omega,by rw[AA,ES.out];rfl,by go_num,by rw[AA];rfl,?_,?_,by rw[Lp.out];exact HY.out⟩
           ·rw[AA,rH];exact HO.out
           ·exact((bT HB Aj).alloc hwz _).grown HG (by simp;omega) (fun j hj=>by
             have Mf:(Value.slice q cs.length c).ownBlock=some j:=hj;rcases HR.2 with⟨e1,_⟩|⟨g,c2,cur,e1,MZ,_⟩
             ·rw[e1] at Mf;simp[Value.ownBlock] at Mf
             ·rw[e1] at Mf;simp[Value.ownBlock] at Mf;omega)
         case measure=>simp[intOf];omega
     ·have HN:=Hi (aeP Ht (fun h=>Ak h.1));have hbi:(1:Int) < (b.toNat:Int):=(by omega);clear Ht gF Ak;go_wp2;go_ret2;exact oM HN rfl HB.out
   ·obtain rfl:k=n:=(by omega);have gF:=jQ.out;rw[List.drop_of_length_le (by omega)] at Ht;have ZN:=Hi (show ungroup l=some cs by rw[Ht];simp[ungroup]);have HR:=Hi Af;have HB:=Hi hb;clear Af hb Ht;go_wp2;go_ret2;exact aDn ZN rfl HR HB.out
