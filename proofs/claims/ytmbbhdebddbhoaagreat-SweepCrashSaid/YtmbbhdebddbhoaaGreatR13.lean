/- FilRead2 -/
import Derived.Test.YtmbbhdebddbhoaaGreatR12
import Derived.Laws.Cover1
import Derived.Sort.Walk0
set_option maxHeartbeats 4000000
set_option maxRecDepth 100000
set_option linter.all false
namespace Go.Proofs.YtmbbhdebddbhoaaGreat
open Tryz
section
open Go.RowKit Go.Maps Go.Sort
open Fil
theorem acz{F:M}{k v:T}(h:∀ p∈F,p.1 < k):put k v F=F++[(k,v)]:=by
 unfold put;rw[filter_all (fun p hp=>by simpa using h p hp),filter_none (fun p hp=>by simpa using List.not_lt.1 (Qr (h p hp)))]
def Qo(F:M):Option T:=F.getLast?.map (·.1)
theorem akA(F:M)(k v:T):Qo (F++[(k,v)])=some k:=by unfold Qo;simp
theorem azR{F:M}(h:Up F){x:T}(hx:Qo F=some x):∀ p∈F,p.1=x∨p.1 < x:=by
 unfold Qo at hx;obtain⟨q,hq,rfl⟩:=Tg.1 hx;obtain⟨G,rfl⟩:=List.getLast?_eq_some_iff.1 hq;intro p hp;rcases Fp.1 hp with hp|hp
 ·exact .inr ((List.pairwise_append.1 h).2.2 p hp q (by simp))
 ·rw[EX] at hp;subst hp;exact .inl rfl
theorem adk{F:M}(h:Up F){k:T}(hn:mayNext (Qo F) k=true):∀ p∈F,p.1 < k:=by
 intro p hp;cases hl:Qo F with
 |none=>
  unfold Qo at hl;rw[Option.map_eq_none_iff,List.getLast?_eq_none_iff] at hl;subst hl;simp at hp
 |some x=>
  rw[hl] at hn;have hx:x < k:=by simpa[mayNext] using hn
  rcases azR h hl p hp with e|e
  ·rw[e];exact hx
  ·exact XA e hx
theorem azS{F:M}(h:Up F){k v:T}(hn:∀ p∈F,p.1 < k):Up (F++[(k,v)]):=List.pairwise_append.2 ⟨h,Tf _ _,fun a ha b hb=>by rw[EX] at hb;subst hb;exact hn a ha⟩
structure Reading(n:Nat)(s:T)(j:Nat)(F:M)(S:T):Prop where
 up:Up F
 len:F.length=j
 rest:S.length+8*j≤s.length
 eq:readE n none s=(readE (n -j) (Qo F) S).map fun r=>(F++r.1,r.2)
theorem Reading.start(n:Nat)(s:T):Reading n s 0 [] s:=⟨Up.nil,rfl,by omega,by rw[Nat.sub_zero];show _=(readE n none s).map _;cases readE n none s<;>rfl⟩
section
variable {n j:Nat}{s S:T}{F:M}
theorem Reading.aza(h:Reading n s j F S)(hj:j < n)(hc:cut S=none):readE n none s=none:=by
 rw[h.eq,show n -j=(n -j -1)+1 by omega];simp only[readE,hc];rfl
theorem Reading.azb(h:Reading n s j F S)(hj:j < n){a r:T}(hc:cut S=some (a,r))(hd:cut r=none):readE n none s=none:=by
 rw[h.eq,show n -j=(n -j -1)+1 by omega];simp only[readE,hc,Cj,hd];rfl
theorem Reading.an2(h:Reading n s j F S)(hj:j < n){a r d r2:T}(hc:cut S=some (a,r))(hd:cut r=some (d,r2))(hm:¬ (Fw a d=true∧mayNext (Qo F) a=true)):readE n none s=none:=by
 rw[h.eq,show n -j=(n -j -1)+1 by omega];simp only[readE,hc,Cj,hd];rw[Aa hm];rfl
theorem Reading.step(h:Reading n s j F S)(hj:j < n){a r d r2:T}(hc:cut S=some (a,r))(hd:cut r=some (d,r2))(h1:Fw a d=true)(h2:mayNext (Qo F) a=true):Reading n s (j+1) (put a d F) r2:=by
 have hlt:=adk h.up h2;rw[acz hlt];refine⟨azS h.up hlt,by rw[Au,h.len];rfl,?_,?_⟩
 ·have a1:=V4 hc;have a2:=V4 hd;have a3:=h.rest;omega
 ·rw[h.eq,show n -j=(n -j -1)+1 by omega];simp only[readE,hc,Cj,hd];rw[Ab ⟨h1,h2⟩,akA,Option.map_map,show n -(j+1)=n -j -1 by omega]
  congr 1
  funext q
  simp
theorem Reading.done(h:Reading n s n F S):readE n none s=some (F,S):=by
 rw[h.eq,Nat.sub_self];simp[readE]
end
def aS(w:World)(s:T)(e:Ending)(w':World):Prop:=
 match Fil.read s with
 |none=>(∃ o,e=.returned (.tuple #[.map o,.bool false]))∧Bw w w'
 |some F=>∃ m,e=.returned (.tuple #[.map (some m),.bool true])∧Co w' m F∧Bw w w'∧w.heap.size≤m
theorem dS{w w':World}{s:T}{e:Ending}{o:Option Nat}(h:Fil.read s=none)(he:e=.returned (.tuple #[.map o,.bool false]))(hb:Bw w w'):aS w s e w':=by
 unfold aS;rw[h];exact⟨⟨o,he⟩,hb⟩
theorem axT{w w':World}{s:T}{F:M}{e:Ending}{m:Nat}(h:Fil.read s=some F)(he:e=.returned (.tuple #[.map (some m),.bool true]))(hm:Co w' m F)(hb:Bw w w')(hn:w.heap.size≤m):aS w s e w':=by
 unfold aS;rw[h];exact⟨m,he,hm,hb,hn⟩
theorem aln{w:World}{base e s:Nat}{v:Value}{n:Nat}{xs:List Value}(h:w.ownsRow base e s v n xs){g:Nat}(hg:v.ownBlock=some g):base≤g:=by
 rcases h.2 with⟨rfl,_⟩|⟨g',cap,cur,rfl,hb,_⟩
 ·simp[Value.ownBlock] at hg
 ·simp[Value.ownBlock] at hg;omega
theorem am3{w w':World}{m base n:Nat}{F:M}{v:Value}{xs:List Value}{t:TypeId}{o:Obj}(hm:Co (w.alloc o) m F)(hr:w.ownsRow base t 1 v n xs)(hg:(w.alloc o).grownBy w' v.ownBlock):Co w' m F:=
 hm.kept (hg.block m hm.lt (fun e=>by
  have hb:=(BQ hr e.symm).upd (ub ((Af w.heap.size w).alloc (Ac _) o)) (fun f=>f);exact hm.Cv hb))
theorem asl(s:T)(w:World)(hs:s.length≤1000000):
  Calls prog 126 #[.string (bs s)] w fun e w'=>aS w s e w':=by
 by_cases h0:s.length < 4
 ·have HN:Hid (Fil.read s=none):=Hi (by unfold Fil.read;rw[Ab h0]);go_enter func126,ntmps126;go_wp2_with fail;go_ret2;exact dS HN rfl (Af _ _)
 ·have LA:∀ W,(Instr.slice 9 (.string (bs s)) none (some (.int .i64 4)) none).run prog W=.ok (.string (bs (s.take 4))) W:=fun W=>Ny prog W 9 underlying9 s 4 (by omega)
  have X3:∀ W,(Instr.slice 9 (.string (bs s)) (some (.int .i64 4)) none none).run prog W=.ok (.string (bs (s.drop 4))) W:=fun W=>LQ prog W 9 underlying9 s 4 (by omega)
  have Kh:(s.take 4).length=4:=by rw[AL];omega
  have hv:=Crc.Ji (s.take 4);rw[Kh] at hv;have MS:=Hi (fun(W:World)=>WO (s.take 4) W (by omega) (by omega));have hRD:Fil.read s=(readE (Crc.val (s.take 4)) none (s.drop 4)).bind fun r=>if r.2=[] then some r.1 else none:=by unfold Fil.read;rw[Aa h0]
  generalize Crc.val (s.take 4)=v at*;have abr:v < 4294967296:=hv;obtain⟨S0,hS0⟩:=ex (s.drop 4);rw[hS0] at X3 hRD;have He:=Hi hRD;have NQ:=Hi (show S0.length≤1000000 by rw[←hS0,Ce];omega);clear Kh hv hRD hS0;have KR:=@run_makeMap prog;have Bq:Bw w ((w.alloc (.map #[] 0)).alloc (.cells #[] 9)):=((Af _ _).alloc (Ac _) _).alloc (by simp) _;have WV:Co ((w.alloc (.map #[] 0)).alloc (.cells #[] 9)) w.heap.size []:=(Co.made w).below ((Af _ _).alloc (Ac _) _);have YI:((w.alloc (.map #[] 0)).alloc (.cells #[] 9)).ownsRow w.heap.size 9 1 (.slice (some ⟨w.heap.size+1,0,none⟩) 0 0) 0 []:=
   ⟨rfl,.inr ⟨w.heap.size+1,0,#[],rfl,by omega,by have:=AJ (w.alloc (.map #[] 0)) (.cells #[] 9);rwa[Aq] at this,Ac _,AB _,rfl,rfl⟩⟩
  have Bc:=Hi Bq;have mM:=Hi WV;have Ye:=Hi YI;clear Bq WV YI;go_enter func126,ntmps126;go_wp2_with fail;refine(MS _).mono ?_;rintro e w1⟨rfl,rfl⟩;go_wp2_with fail
  go_loopw [0,7,26] (fun s0 lv i wr=>∃ (j:Nat) (F:M) (S:T) (q:Option Addr) (c:Nat),j≤v∧s0=.string (bs S)∧lv=.slice q F.length c∧i=.int .u64 j∧Reading v S0 j F S∧Co wr w.heap.size F∧wr.ownsRow w.heap.size 9 1 (.slice q F.length c) F.length (strCells (F.map (·.1)))∧Bw w wr) (fun _ _ i _=>v -(intOf i).toNat)
  case atStart=>exact⟨0,[],S0,_,_,AB _,rfl,rfl,rfl,Reading.start _ _,mM,by rw[List.map_nil,lu];exact Ye.out,Bc⟩
  case round=>
   obtain⟨j,F,S,q,c,hjv,rfl,rfl,rfl,Oc,hm,Ah,hb⟩:=hrel;have YK:S.length≤1000000:=(by have:=Oc.rest;have:=NQ.out;omega);have hjb:8*j≤1000000:=(by have:=Oc.rest;have:=NQ.out;omega);have UJ:=Hi Oc;have HM:=Hi hm;have HR:=Hi Ah;have HB:=Hi hb;have WS:=Oc.len;have M7:=Hi WS;clear Oc hm Ah hb mM Ye Bc WS KR;by_cases hj:j < v
   ·cases hc:cut S with
    |none=>
     have HN:Hid (Fil.read s=none):=Hi (by rw[He.out,UJ.aza hj hc];rfl);have Fa:=Hi hc;clear hc;go_wp2_with fail;refine(agn Fa _ (by omega)).mono ?_;rintro e w2⟨rfl,rfl⟩;go_wp2_with fail;go_ret2;exact dS HN rfl HB.out
    |some ar=>
     obtain⟨a,r⟩:=ar;have BH:=V4 hc;have Fa:=Hi hc;clear hc;cases hd:cut r with
     |none=>
      have HN:Hid (Fil.read s=none):=Hi (by rw[He.out,UJ.azb hj Fa hd];rfl);have JM:=Hi hd;clear hd;go_wp2_with fail;refine(oK Fa _ (by omega)).mono ?_;rintro e w2⟨rfl,A8⟩;have Ag:=Hi (HB.trans (A8.mono HB.size));clear A8;go_wp2_with fail;refine(agn JM _ (by omega)).mono ?_;rintro e w3⟨rfl,rfl⟩;go_wp2_with fail;go_ret2;exact dS HN rfl Ag.out
     |some dr=>
      obtain⟨d,r2⟩:=dr;have K9:=V4 hd;have JM:=Hi hd;clear hd;go_wp2_with fail;refine(oK Fa _ (by omega)).mono ?_;rintro e w2⟨rfl,A8⟩;have Ag:=Hi A8;clear A8;go_wp2_with fail;refine(oK JM _ (by omega)).mono ?_;rintro e w3⟨rfl,Ak⟩;have Am:=Hi (Ag.trans (Ak.mono Ag.size));clear Ak Ag;go_wp2_with fail;refine(oQ a d false _ (by unfold maxLen;omega) (by unfold maxLen;omega)).mono ?_;rw[show Aj.may ⟨a,d,false⟩=Fw a d by unfold Aj.may;simp];rintro e w4⟨rfl,Ar⟩;have AZ:=Hi (Am.trans (Ar.mono Am.size));clear Ar Am;cases DZ:Fw a d with
      |false=>
       have HN:Hid (Fil.read s=none):=Hi (by rw[He.out,UJ.an2 hj Fa JM (fun h=>by rw[DZ] at h;cases h.1)];rfl);clear DZ;go_wp2_with fail;go_ret2;exact dS HN rfl (HB.trans (AZ.mono HB.size))
      |true=>
       have QL:=Hi DZ;have Vd:a.length≤32:=(by unfold Fw at DZ;simp at DZ;exact DZ.2.1);have UG:=Hi (HM.below AZ);have Ma:=Hi (Bh HR (ub AZ) (fun _ _ f=>f));clear DZ;rcases List.eq_nil_or_concat F with hF|⟨G,⟨x,y⟩,hF⟩
       ·subst hF;have KU:mayNext (Qo ([]:M)) a=true:=rfl;have Ex:=Hi (UJ.step hj Fa JM QL KU);have FK:=Hi (acz (v:=d) (adk UJ.up KU));have av5:=HB.size;have abj:=AZ.size;have hFb:([]:M).length≤1000000:=(by have:=M7.out;omega);have wS:=Hi (UG.below ((Af w4.heap.size w4).alloc (Ac _) (.cells #[.string (bs a)] 9)));clear KU;obtain⟨i0,Ba,AQ,AU,AV⟩:=Du Ta;go_wp2_with (at_builtin;refine wpList_append_own_at _ rfl _ _ 27 rfl w.heap.size 9 i0 _ 1 16 underlying27 Ba AQ AU AV rfl (by decide) _ ([]:M).length _ rfl (Ma.alloc _) ⟨w4.heap.size,0,none⟩ 1 1 [.string (bs a)] rfl rfl (cell_one_new _ _ _) (by simp[Value.oneCell']) (by unfold maxLen;omega) (by omega) (by simp;omega) ?_;intro v' w5 BB Az _ hat;obtain⟨g',cap',rfl⟩:=ownsRow_succ BB;have FC:=Hi (am3 wS Ma Az);obtain⟨w6,F8,Ep,CP⟩:=FC.update a d (by unfold maxLen;omega) (by unfold maxLen;omega);have HO:=Hi BB;have HG:=Hi Az;have JV:=Hi Ep;have Gc:=Hi CP;clear BB Az hat Ep CP);have hne:∀ k,(Value.slice (some ⟨g',0,none⟩) (([]:M).length+1) cap').ownBlock=some k→¬ k=w.heap.size:=fun k hk e=>by
         subst e;exact FC.Cv (BQ HO hk)
        have Jy:=Bh HO (A7.of_grownBy (F:=fun k=>k=w.heap.size) Gc (fun k e=>by cases e;rfl)) hne;have Cx:Bw w w6:=((HB.trans ((AZ.alloc AZ.size _).mono HB.size)).grown HG (by simp;omega) (fun j hj=>aln Ma (show(Value.slice q ([]:M).length c).ownBlock=some j from hj))).grown Gc (by have:=HG.size;simp at this;omega) (fun j hj=>by cases hj;exact Ac _);go_roundw
        case rel=>
         refine⟨j+1,_,_,_,_,by omega,rfl,by rw[FK.out,Au];rfl,by simp,Ex,JV,?_,Cx⟩;rw[FK.out,Au,CF]
         show World.ownsRow _ _ _ _ _ (([]:M).length+1) (strCells (([]:M).map (·.1)++[a]))
         rw[Rl];exact Jy
        case measure=>simp[intOf];omega
       ·subst hF;obtain⟨g,rfl⟩:∃ g,q=some ⟨g,0,none⟩:=by
         rcases HR.2 with⟨e1,e2⟩|⟨g,cap,_,e1,_⟩
         ·simp at e2
         ·exact⟨g,by injection e1⟩
        have FE:w4.cell? ⟨g,G.length,none⟩=some (.string (bs x)):=by
         have:=Ma.cells (g:=g) rfl G.length (.string (bs x)) (by rw[List.concat_eq_append,CF,BL,List.map_nil,Rl,List.getElem?_append_right (by rw[strCells_length];simp),strCells_length];simp);rw[add_plain] at this;exact this
        have bB:(G.concat (x,y)).length=G.length+1:=(by simp);have Cu:∀ W,(Instr.indexAt 27 (.slice (some ⟨g,0,none⟩) (G.length+1) c) (.int .i64 (G.length:Int))).run prog W=.ok (.pointer (some ⟨g,G.length,none⟩)) W:=fun W=>by
         have:=Hr prog 27 9 underlying27 1 (by kernel_rfl) ⟨g,0,none⟩ (G.length+1) c G.length (by omega) W;rw[Nat.mul_one,add_plain] at this;exact this
        have hGb:G.length+1≤1000000:=(by have:=M7.out;rw[bB] at this;omega);have bX:Qo (G.concat (x,y))=some x:=(by rw[List.concat_eq_append];exact akA G x y);by_cases Oe:x < a
        ·have De:Op.bytesLess x a=true:=(by rw[bytesLess_eq];simpa using Oe);have KU:mayNext (Qo (G.concat (x,y))) a=true:=(by rw[bX];simpa[mayNext] using Oe);clear Oe bX;have Ex:=Hi (UJ.step hj Fa JM QL KU);have FK:=Hi (acz (v:=d) (adk UJ.up KU));have av5:=HB.size;have abj:=AZ.size;have hFb:(G.concat (x,y)).length≤1000000:=(by have:=M7.out;omega);have wS:=Hi (UG.below ((Af w4.heap.size w4).alloc (Ac _) (.cells #[.string (bs a)] 9)));clear KU;obtain⟨i0,Ba,AQ,AU,AV⟩:=Du Ta;have NN:Hid (w4.ownsRow w.heap.size 9 1 (.slice (some ⟨g,0,none⟩) (G.length+1) c) (G.length+1) (strCells ((G.concat (x,y)).map (·.1)))):=Hi (by rw[←bB];exact Ma.out);go_wp2_with (at_builtin;refine wpList_append_own_at _ rfl _ _ 27 rfl w.heap.size 9 i0 _ 1 16 underlying27 Ba AQ AU AV rfl (by decide) _ (G.length+1) _ rfl (NN.alloc _) ⟨w4.heap.size,0,none⟩ 1 1 [.string (bs a)] rfl rfl (cell_one_new _ _ _) (by simp[Value.oneCell']) (by unfold maxLen;omega) (by omega) (by simp;omega) ?_;intro v' w5 BB Az _ hat;obtain⟨g',cap',rfl⟩:=ownsRow_succ BB;have FC:=Hi (am3 wS NN Az);obtain⟨w6,F8,Ep,CP⟩:=FC.update a d (by unfold maxLen;omega) (by unfold maxLen;omega);have HO:=Hi BB;have HG:=Hi Az;have JV:=Hi Ep;have Gc:=Hi CP;clear BB Az hat Ep CP);have hne:∀ k,(Value.slice (some ⟨g',0,none⟩) (G.length+1+1) cap').ownBlock=some k→¬ k=w.heap.size:=fun k hk e=>by
          subst e;exact FC.Cv (BQ HO hk)
         have Jy:=Bh HO (A7.of_grownBy (F:=fun k=>k=w.heap.size) Gc (fun k e=>by cases e;rfl)) hne;have Cx:Bw w w6:=((HB.trans ((AZ.alloc AZ.size _).mono HB.size)).grown HG (by simp;omega) (fun j hj=>aln NN (show(Value.slice (some ⟨g,0,none⟩) (G.length+1) c).ownBlock=some j from hj))).grown Gc (by have:=HG.size;simp at this;omega) (fun j hj=>by cases hj;exact Ac _);go_roundw
         case rel=>
          refine⟨j+1,_,_,_,_,by omega,rfl,by rw[FK.out,Au,bB];rfl,by simp,Ex,JV,?_,Cx⟩;rw[FK.out,Au,bB,CF]
          show World.ownsRow _ _ _ _ _ (G.length+1+1) (strCells ((G.concat (x,y)).map (·.1)++[a]))
          rw[Rl];exact Jy
         case measure=>simp[intOf];omega
        ·have De:Op.bytesLess x a=false:=by rw[bytesLess_eq];simpa using Oe
         have HN:Hid (Fil.read s=none):=Hi (by
          rw[He.out,UJ.an2 hj Fa JM (fun h=>by have h2:=h.2;rw[bX] at h2;exact Oe (by simpa[mayNext] using h2))];rfl)
         clear Oe bX;go_wp2_with fail;go_ret2;exact dS HN rfl (HB.trans (AZ.mono HB.size))
   ·obtain rfl:j=v:=(by omega);have U2:=UJ.done;cases S with
    |nil=>
     have HF:Hid (Fil.read s=some F):=Hi (by rw[He.out,U2];rfl);clear U2;go_wp2_with fail;go_ret2;exact axT HF rfl HM HB (Ac _)
    |cons u S=>
     have HN:Hid (Fil.read s=none):=Hi (by rw[He.out,U2];rfl);clear U2;go_wp2_with fail;go_ret2;exact dS HN rfl HB.out
end
section
open Go.RowKit Go.Maps Go.Sort
open Fil
def JC(log size Av b:Nat)(mv:Option Nat)(xv:Option Addr):Array Value:=#[.pointer (some ⟨b,0,none⟩),.int .i64 (log:Int),.int .i64 (size:Int),.int .i64 (Av:Int),.map mv,.pointer xv,.int .i64 0]
theorem JD{w:World}{y log size Av b:Nat}{mv:Option Nat}{xv:Option Addr}(h:w.heap[y]?=some (.cells (JC log size Av b mv xv) 113)):
  w.cell? ⟨y,0,none⟩=some (.pointer (some ⟨b,0,none⟩))∧w.cell? ⟨y,1,none⟩=some (.int .i64 (log:Int))∧w.cell? ⟨y,2,none⟩=some (.int .i64 (size:Int))∧w.cell? ⟨y,3,none⟩=some (.int .i64 (Av:Int))∧
  w.cell? ⟨y,4,none⟩=some (.map mv)∧w.cell? ⟨y,5,none⟩=some (.pointer xv)∧w.cell? ⟨y,6,none⟩=some (.int .i64 0)∧∀ j,w.frozen? ⟨y,j,none⟩=false:=by
 refine⟨?_,?_,?_,?_,?_,?_,?_,fun j=>CJ w y j _ _ h⟩<;>rw[BA w y _ _ _ _ h]<;>rfl
def xU(w:World)(y log size b a num:Nat)(A:M)(e:Ending)(w':World):Prop:=
 ∃ mb,e=.returned (.tuple #[.int .u64 (num:Int),.int .i64 0])∧w'.heap[y]?=some (.cells (JC log size a b (some mb) none) 113)∧Co w' mb A∧A7 (fun k=>k=y) w w'∧w.heap.size≤mb
theorem as6{w:World}{y log size b:Nat}{D:Dsk}{fp:Nat→Prop}(hd:Bl w b D fp)(hy:w.heap[y]?=some (.cells (JC log size 0 b none none) 113))(E5:D.down=false)(h0:D.now 0=Wal.pad [0]):
  Calls prog 52 #[.pointer (some ⟨y,0,none⟩)] w fun e w'=>xU w y log size b 0 0 [] e w':=by
 have abE:=Ai hy;have OV:=hd.fine;obtain⟨c0,_⟩:=JD hy;obtain⟨m,lv,hI,_⟩:=hd;have He:=Hi (tO hI 0 1 E5 (by simp[Dsk.inside];have:=OV.n1;omega));have e1:Dsk.text D.now 0 1=Wal.pad [0]:=by show D.now 0++[]=_;rw[h0,EH]
 rw[e1] at He;have HY:=Hi hy;have KR:=@run_makeMap prog;have AQ:({ data:=#[0] }:ByteArray)=bs [0]:=rfl;clear hI hy OV h0 e1;go_enter func52,ntmps52;go_wp2_with fail;refine He.mono ?_;rintro e w1⟨rfl,hb⟩;have TE:=Hi ((hb.block y abE).trans HY);obtain⟨_,_,_,_,d4,_,_,df⟩:=JD TE.out;have ic:=df 4;have Uh:=Ai TE.out;have HB:=Hi hb;clear hb df;go_wp2_with fail;have LH:(w1.setCell ⟨y,4,none⟩ (.map (some w1.heap.size))).heap.size=w1.heap.size:=by simp[World.setCell]
 have KX:=BU w1 y 4 _ _ (.map (some w1.heap.size)) TE.out;have Xo:A7 (fun k=>k=y) w (w1.setCell ⟨y,4,none⟩ (.map (some w1.heap.size))):=(A7.of_below (F:=fun k=>k=y) HB).setCell (p:=⟨y,4,none⟩) (.inl rfl) _;have Z4:=Co.made (w1.setCell ⟨y,4,none⟩ (.map (some w1.heap.size)));rw[LH] at Z4;have av:=Hi Z4;have BF:=Hi (((Af _ (w1.setCell ⟨y,4,none⟩ (.map (some w1.heap.size)))).alloc (Ac _) (.map #[] 0)).block y (by rw[LH];exact Uh) |>.trans KX);have Jo:=Hi (Xo.alloc (.map #[] 0));clear Z4 KX Xo d4 ic LH;refine(oZ [0] _ (by simp)).mono ?_;rintro e w2⟨rfl,A8⟩;have Ag:=Hi A8;clear A8;go_wp2_with fail;go_ret2;refine⟨w1.heap.size,rfl,(Ag.block y (by simp;omega)).trans BF,av.below Ag,Jo.trans (A7.of_below (F:=fun k=>k=y) Ag) (fun i hi=>.inl hi),HB.size⟩
theorem as5{w:World}{y log size b:Nat}{D:Dsk}{fp:Nat→Prop}(hd:Bl w b D fp)(hy:w.heap[y]?=some (.cells (JC log size 0 b none none) 113))(E5:D.down=false){a num:Nat}{A:M}{t r:T}(ha:a≤1)(qU:num < 18446744073709551616)(h0:D.now 0=Fil.mark a num)
  (jE:log≤16384)(Jc:size≤8192)(IJ:Cs log size a+size≤D.n)(hcut:cut (Dsk.text D.now (Cs log size a) size)=some (t,r))(ab5:Fil.read t=some A):
  Calls prog 52 #[.pointer (some ⟨y,0,none⟩)] w fun e w'=>xU w y log size b a num A e w':=by
 have abE:=Ai hy;have OV:=hd.fine;obtain⟨c0,_⟩:=JD hy;have JL:=Hi hd;obtain⟨m,lv,hI,_⟩:=hd;have He:=Hi (tO hI 0 1 E5 (by simp[Dsk.inside];have:=OV.n1;omega));have e1:Dsk.text D.now 0 1=Fil.mark a num:=by show D.now 0++[]=_;rw[h0,EH]
 rw[e1] at He;have HY:=Hi hy;have KR:=@run_makeMap prog;have AQ:({ data:=#[0] }:ByteArray)=bs [0]:=rfl;have EC:=Fil.Nu a num;have hm4:=Fil.akT a num ha;have hmn:=Fil.akU a num qU;have hne:(Fil.mark a num == Wal.pad [0])=false:=by simpa using Fil.si a num
 have atT:∀ W,(Instr.slice 9 (.string (bs (Fil.mark a num))) (some (.int .i64 5)) (some (.int .i64 13)) none).run prog W=.ok (.string (bs (((Fil.mark a num).take 13).drop 5))) W:=fun W=>dW prog W 9 underlying9 (Fil.mark a num) 5 13 (by omega) (by omega)
 have h5l:(((Fil.mark a num).take 13).drop 5).length=8:=by rw[Ce,AL];omega
 have MS:=Hi (fun(W:World)=>WO (((Fil.mark a num).take 13).drop 5) W (by omega) (by omega));rw[hmn] at MS;have Hg:∀ W,(Instr.index 9 (.string (bs (Fil.mark a num))) (.int .i64 4)).run prog W=.ok (.int .u8 (a:Int)) W:=fun W=>by
  have h4:4 < (Fil.mark a num).length:=by omega
  have e4:(Fil.mark a num)[4].toNat=a:=by
   have:=hm4.2;rwa[GY,Cn h4,Option.getD_some] at this
  rw[run_index_string W 9 (bs (Fil.mark a num)) .i64 4 underlying9,dif_pos ⟨by omega,by simp;omega⟩]
  show Result.ok (Value.int .u8 (((Fil.mark a num)[4]'h4).toNat:Nat)) W=_
  rw[e4]
 have MV:=Hi (fun(W:World)=>agG a num W ha qU);have hab:(a:Int)≤1:=by omega
 have HN:=Hi qU;have wQ:=Hi EC;have Rz:=Hi hcut;have QN:=Hi ab5;generalize Fil.mark a num=F0 at*;generalize ((F0.take 13).drop 5)=F5 at*;have aiT:D.inside (Cs log size a) size=true:=by simp[Dsk.inside];omega
 have QM:=Hi (fun(V:World) (h:Bl V b D fp)=>(by obtain⟨m2,lv2,hI2,_⟩:=h;exact tO hI2 (Cs log size a) size E5 aiT:Calls prog 120 #[.pointer (some ⟨b,0,none⟩),.int .i64 ((Cs log size a:Nat):Int),.int .i64 (size:Int)] V fun e w'=>e=.returned (.tuple #[.string (bs (Dsk.text D.now (Cs log size a) size)),.int .i64 0])∧Bw V w'));have Nr:(Dsk.text D.now (Cs log size a) size).length≤524288:=by rw[Dsk.lH OV.now _ _ IJ];omega
 have Y0:=Hi (fun(V:World)=>oK hcut V (by omega));have apc:=Hi (fun(V:World)=>(by have:=asl t V (by have:=V4 hcut;omega);unfold aS at this;rw[ab5] at this;exact this:Calls prog 126 #[.string (bs t)] V fun e w'=>∃ m,e=.returned (.tuple #[.map (some m),.bool true])∧Co w' m A∧Bw V w'∧V.heap.size≤m));clear Nr aiT;clear hI hy OV h0 e1 hm4 hmn h5l hcut ab5 qU EC;go_enter func52,ntmps52;go_wp2_with fail;refine He.mono ?_;rintro e w1⟨rfl,hb⟩;have TE:=Hi ((hb.block y abE).trans HY);obtain⟨_,_,_,_,d4,_,_,df⟩:=JD TE.out;have ic:=df 4;have Uh:=Ai TE.out;have HB:=Hi hb;clear hb df;go_wp2_with fail;have LH:(w1.setCell ⟨y,4,none⟩ (.map (some w1.heap.size))).heap.size=w1.heap.size:=by simp[World.setCell]
 have KX:=BU w1 y 4 _ _ (.map (some w1.heap.size)) TE.out;have Xo:A7 (fun k=>k=y) w (w1.setCell ⟨y,4,none⟩ (.map (some w1.heap.size))):=(A7.of_below (F:=fun k=>k=y) HB).setCell (p:=⟨y,4,none⟩) (.inl rfl) _;have BF:=Hi (show _=some (.cells (JC log size 0 b (some w1.heap.size) none) 113) from((Af _ (w1.setCell ⟨y,4,none⟩ (.map (some w1.heap.size)))).alloc (Ac _) (.map #[] 0)).block y (by rw[LH];exact Uh) |>.trans KX);have Jo:=Hi (Xo.alloc (.map #[] 0));have LK:((w1.setCell ⟨y,4,none⟩ (.map (some w1.heap.size))).alloc (.map #[] 0)).heap.size=w1.heap.size+1:=by rw[Aq,LH]
 have apk:=Hi LK;clear KX Xo d4 ic LH LK;refine(oZ [0] _ (by simp)).mono ?_;rintro e w2⟨rfl,A8⟩;have TF:=Hi ((A8.block y (by rw[apk.out];omega)).trans BF);have JV:=Hi (Jo.trans (A7.of_below (F:=fun k=>k=y) A8) (fun i hi=>.inl hi));clear A8 BF Jo;obtain⟨_,_,_,d3,_,_,_,df⟩:=JD TF.out;have YF:=df 3;clear df;go_wp2_with fail;have hs3:=BU w2 y 3 _ _ (.int .i64 (a:Int)) TF.out;have CP:A7 (fun k=>k=y) w (w2.setCell ⟨y,3,none⟩ (.int .i64 (a:Int))):=JV.setCell (p:=⟨y,3,none⟩) (.inl rfl) _;have QU:=Hi (show _=some (Obj.cells (JC log size a b (some w1.heap.size) none) 113) from hs3);have Gc:=Hi CP;clear hs3 CP YF d3 TF JV;generalize w2.setCell ⟨y,3,none⟩ (.int .i64 (a:Int))=w3 at*;refine(MS _).mono ?_;rintro e w3'⟨rfl,rfl⟩;obtain⟨_,_,_,d3,_⟩:=JD QU.out;go_wp2_with fail;refine(MV _).mono ?_;rintro e w4⟨rfl,Ar⟩;have PO:=Hi ((Ar.block y (Ai QU)).trans QU);have QQ:=Hi (Gc.trans (A7.of_below (F:=fun k=>k=y) Ar) (fun i hi=>.inl hi));have UA:=Hi (JL.upd QQ (fun k hk e=>by subst e;exact JL.Cv k hk (t:=113) (by decide) (by decide) ⟨_,_,HY⟩));have TG:=Hi (show w4.drew.heap[y]?=_ from PO.out);have JM:=Hi (UA.below (Af w4.heap.size w4).drew);have HUD:=Hi (QQ.trans (A7.of_below (F:=fun k=>k=y) (Af w4.heap.size w4).drew) (fun i hi=>.inl hi))
 have KS:=Hi (fun(V:World) (h:V.heap[y]?=some (Obj.cells (JC log size a b (some w1.heap.size) none) 113))=>(⟨(JD h).1,(JD h).2.1,(JD h).2.2.1,(JD h).2.2.2.1⟩:V.cell? ⟨y,0,none⟩=some (.pointer (some ⟨b,0,none⟩))∧V.cell? ⟨y,1,none⟩=some (.int .i64 (log:Int))∧V.cell? ⟨y,2,none⟩=some (.int .i64 (size:Int))∧V.cell? ⟨y,3,none⟩=some (.int .i64 (a:Int))));obtain⟨d0,d1,d2,d3⟩:=KS _ PO.out;clear Ar Gc QU;go_wp2_with fail
 go_region_held3 (fun V=>V.cell? ⟨y,0,none⟩=some (.pointer (some ⟨b,0,none⟩))∧V.cell? ⟨y,1,none⟩=some (.int .i64 (log:Int))∧V.cell? ⟨y,2,none⟩=some (.int .i64 (size:Int))∧V.cell? ⟨y,3,none⟩=some (.int .i64 (a:Int)))
  (first|exact KS _ TG|exact KS _ Hz|exact KS _ NT)
  (first
   |(go_at_call 124;refine(agj _ log size a _ (by omega) (by omega) ha).mono ?_;rintro e w5 ⟨rfl,Bf⟩;have Hz:=Hi ((Bf.block y (Ai TG)).trans TG);have mE:=Hi (JM.below Bf);have Ww:=Hi (HUD.trans (A7.of_below (F:=fun k=>k=y) Bf) (fun i hi=>.inl hi));clear Bf)
   |(go_at_call 120;refine(QM _ mE).mono ?_;rintro e w6 ⟨rfl,Cx⟩;have NT:=Hi ((Cx.block y (Ai Hz)).trans Hz);have JW:=Hi (Ww.trans (A7.of_below (F:=fun k=>k=y) Cx) (fun i hi=>.inl hi));clear Cx))
 clear d0 d1 d2 d3 TG JM HUD UA PO QQ mE Hz Ww KS;go_wp2_with fail;refine(Y0 _).mono ?_;rintro e w7⟨rfl,Ez⟩;have xN:=Hi ((Ez.block y (Ai NT)).trans NT);have aI:=Hi (JW.trans (A7.of_below (F:=fun k=>k=y) Ez) (fun i hi=>.inl hi));clear Ez NT JW;go_wp2_with fail;refine(apc _).mono ?_;rintro e w8⟨mb,rfl,Vr,II,hn8⟩;have xO:=Hi ((II.block y (Ai xN)).trans xN);have gU:=Hi (aI.trans (A7.of_below (F:=fun k=>k=y) II) (fun i hi=>.inl hi));have Tz:=Hi Vr;have HN8:=Hi (show w.heap.size≤mb from Ap aI.size hn8);clear II xN aI Vr hn8;obtain⟨_,_,_,_,d4,_,_,df⟩:=JD xO.out;have ic:=df 4;clear df;go_wp2_with fail;go_ret2;refine⟨mb,rfl,BU w8 y 4 _ _ _ xO,Tz.upd (A7.setCell (F:=fun k=>k=y) (A7.refl _ _) (p:=⟨y,4,none⟩) (.inl rfl) _) ?_,gU.setCell (p:=⟨y,4,none⟩) (.inl rfl) _,HN8.out⟩;intro e;subst e;exact Tz.Cv ⟨_,_,xO⟩
end
end Go.Proofs.YtmbbhdebddbhoaaGreat
