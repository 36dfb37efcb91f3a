/- FilRead2 WalD WalOps2 -/
import Derived.Test.YtkmninbcgipliaaGreatDoorW3
import Derived.Laws.Cover1
import Derived.Sort.Walk0
import Derived.OrdersHeld
import Derived.RegionTactic
set_option maxHeartbeats 4000000
set_option maxRecDepth 100000
set_option linter.all false
namespace Go.Proofs.YtkmninbcgipliaaGreatDoor
open Tryz
section
open Go.RowKit Go.Maps Go.Sort
open Ah
theorem ae7{F:M}{k v:T}(h:∀ p∈F,p.1 < k):put k v F=F++[(k,v)]:=by
 unfold put;rw[filter_all (fun p hp=>by simpa using h p hp),filter_none (fun p hp=>by simpa using List.not_lt.1 (RJ (h p hp)))]
def RF(F:M):Option T:=F.getLast?.map (·.1)
theorem amy(F:M)(k v:T):RF (F++[(k,v)])=some k:=by unfold RF;simp
theorem aDx{F:M}(h:Up F){x:T}(hx:RF F=some x):∀ p∈F,p.1=x∨p.1 < x:=by
 unfold RF at hx;obtain⟨q,hq,rfl⟩:=Tt.1 hx;obtain⟨G,rfl⟩:=List.getLast?_eq_some_iff.1 hq;intro p hp;rcases Es.1 hp with hp|hp
 ·exact .inr ((List.pairwise_append.1 h).2.2 p hp q (by simp))
 ·rw[Fu] at hp;subst hp;exact .inl rfl
theorem aeT{F:M}(h:Up F){k:T}(hn:Un (RF F) k=true):∀ p∈F,p.1 < k:=by
 intro p hp;cases hl:RF F with
 |none=>
  unfold RF at hl;rw[Option.map_eq_none_iff,List.getLast?_eq_none_iff] at hl;subst hl;simp at hp
 |some x=>
  rw[hl] at hn;have hx:x < k:=by simpa[Un] using hn
  rcases aDx h hl p hp with e|e
  ·rw[e];exact hx
  ·exact YY e hx
theorem aDy{F:M}(h:Up F){k v:T}(hn:∀ p∈F,p.1 < k):Up (F++[(k,v)]):=List.pairwise_append.2 ⟨h,Tq _ _,fun a ha b hb=>by rw[Fu] at hb;subst hb;exact hn a ha⟩
structure Reading(n:Nat)(s:T)(j:Nat)(F:M)(S:T):Prop where
 up:Up F
 len:F.length=j
 rest:S.length+8*j≤s.length
 eq:Kn n none s=(Kn (n -j) (RF F) S).map fun r=>(F++r.1,r.2)
theorem Reading.start(n:Nat)(s:T):Reading n s 0 [] s:=⟨Up.nil,rfl,by omega,by rw[Nat.sub_zero];show _=(Kn n none s).map _;cases Kn n none s<;>rfl⟩
section
variable {n j:Nat}{s S:T}{F:M}
theorem Reading.aCO(h:Reading n s j F S)(hj:j < n)(hc:cut S=none):Kn n none s=none:=by
 rw[h.eq,show n -j=(n -j -1)+1 by omega];simp only[Kn,hc];rfl
theorem Reading.aCP(h:Reading n s j F S)(hj:j < n){a r:T}(hc:cut S=some (a,r))(hd:cut r=none):Kn n none s=none:=by
 rw[h.eq,show n -j=(n -j -1)+1 by omega];simp only[Kn,hc,CU,hd];rfl
theorem Reading.apr(h:Reading n s j F S)(hj:j < n){a r d r2:T}(hc:cut S=some (a,r))(hd:cut r=some (d,r2))(hm:¬ (EX a d=true∧Un (RF F) a=true)):Kn n none s=none:=by
 rw[h.eq,show n -j=(n -j -1)+1 by omega];simp only[Kn,hc,CU,hd];rw[A9 hm];rfl
theorem Reading.step(h:Reading n s j F S)(hj:j < n){a r d r2:T}(hc:cut S=some (a,r))(hd:cut r=some (d,r2))(h1:EX a d=true)(h2:Un (RF F) a=true):Reading n s (j+1) (put a d F) r2:=by
 have hlt:=aeT h.up h2;rw[ae7 hlt];refine⟨aDy h.up hlt,by rw[AA,h.len];rfl,?_,?_⟩
 ·have a1:=Ww hc;have a2:=Ww hd;have a3:=h.rest;omega
 ·rw[h.eq,show n -j=(n -j -1)+1 by omega];simp only[Kn,hc,CU,hd];rw[Ae ⟨h1,h2⟩,amy,Option.map_map,show n -(j+1)=n -j -1 by omega]
  congr 1
  funext q
  simp
theorem Reading.done(h:Reading n s n F S):Kn n none s=some (F,S):=by
 rw[h.eq,Nat.sub_self];simp[Kn]
end
def dZ(w:World)(s:T)(e:Ending)(w':World):Prop:=
 match Ah.read s with
 |none=>(∃ o,e=.returned (.tuple #[.map o,false]))∧Bw w w'
 |some F=>∃ m,e=.returned (.tuple #[.map (some m),true])∧CV w' m F∧Bw w w'∧w.heap.size≤m
theorem iK{w w':World}{s:T}{e:Ending}{o:Option Nat}(h:Ah.read s=none)(he:e=.returned (.tuple #[.map o,false]))(hb:Bw w w'):dZ w s e w':=by
 unfold dZ;rw[h];exact⟨⟨o,he⟩,hb⟩
theorem aB5{w w':World}{s:T}{F:M}{e:Ending}{m:Nat}(h:Ah.read s=some F)(he:e=.returned (.tuple #[.map (some m),true]))(hm:CV w' m F)(hb:Bw w w')(hn:w.heap.size≤m):dZ w s e w':=by
 unfold dZ;rw[h];exact⟨m,he,hm,hb,hn⟩
theorem anz{w:World}{base e s:Nat}{v:Value}{n:Nat}{xs:List Value}(h:w.ownsRow base e s v n xs){g:Nat}(hg:v.ownBlock=some g):base≤g:=by
 rcases h.2 with⟨rfl,_⟩|⟨g',cap,cur,rfl,hb,_⟩
 ·simp[Value.ownBlock] at hg
 ·simp[Value.ownBlock] at hg;omega
theorem aok{w w':World}{m base n:Nat}{F:M}{v:Value}{xs:List Value}{t:TypeId}{o:Obj}(hm:CV (w.alloc o) m F)(hr:w.ownsRow base t 1 v n xs)(hg:(w.alloc o).grownBy w' v.ownBlock):CV w' m F:=
 hm.kept (hg.block m hm.lt (fun e=>by
  have hb:=(Cx hr e.symm).upd (ub ((Ai w.heap.size w).alloc (Ag _) o)) (fun f=>f);exact hm.DI hb))
theorem auY(s:T)(w:World)(hs:s.length≤1000000):
  Calls prog 162 #[s] w fun e w'=>dZ w s e w':=by
 by_cases h0:s.length < 4
 ·have HN:Hid (Ah.read s=none):=Hi (by unfold Ah.read;rw[Ae h0])
  go_in
  go_wp2;go_ret2;exact iK HN rfl (Ai _ _)
 ·have N7:∀ W,(Instr.slice 9 ↑s none (some (.int .i64 4)) none).run prog W=.ok ↑(s.take 4) W:=fun W=>OD prog W 9 underlying9 s 4 (by omega)
  have Yn:∀ W,(Instr.slice 9 ↑s (some (.int .i64 4)) none none).run prog W=.ok ↑(s.drop 4) W:=fun W=>Nh prog W 9 underlying9 s 4 (by omega)
  have LH:(s.take 4).length=4:=by rw[Bc];omega
  have hv:=Ab.Jw (s.take 4);rw[LH] at hv;have JC:=Hi (fun(W:World)=>Y7 (s.take 4) W (by omega) (by omega));have hRD:Ah.read s=(Kn (Ab.val (s.take 4)) none (s.drop 4)).bind fun r=>if r.2=[] then some r.1 else none:=by unfold Ah.read;rw[A9 h0]
  generalize Ab.val (s.take 4)=v at*;have ad7:v < 4294967296:=hv;obtain⟨S0,lu⟩:=ex (s.drop 4);rw[lu] at Yn hRD;have GX:=Hi hRD;have Nz:=Hi (show S0.length≤1000000 by rw[←lu,CF];omega);clear LH hv hRD lu;have NN:=@run_makeMap prog;have Be:Bw w ((w.alloc (.map #[] 0)).alloc (.cells #[] 9)):=((Ai _ _).alloc (Ag _) _).alloc (by simp) _;have Yd:CV ((w.alloc (.map #[] 0)).alloc (.cells #[] 9)) w.heap.size []:=(CV.made w).below ((Ai _ _).alloc (Ag _) _);have WH:((w.alloc (.map #[] 0)).alloc (.cells #[] 9)).ownsRow w.heap.size 9 1 (.slice (some ⟨w.heap.size+1,0,none⟩) 0 0) 0 []:=
   ⟨rfl,.inr ⟨w.heap.size+1,0,#[],rfl,by omega,by have:=AU (w.alloc (.map #[] 0)) (.cells #[] 9);rwa[Az] at this,Ag _,AV _,rfl,rfl⟩⟩
  have AP:=Hi Be;have qp:=Hi Yd;have VY:=Hi WH;clear Be Yd WH
  go_in
  go_wp2_with fail;refine(JC _).mono ?_;rintro e w1⟨rfl,rfl⟩;go_wp2
  go_loopw [0,7,26] (fun s0 lv i wr=>∃ (j:Nat) (F:M) (S:T) (q:Option Addr) (c:Nat),j≤v∧s0= ↑S∧lv=.slice q F.length c∧i=.int .u64 j∧Reading v S0 j F S∧CV wr w.heap.size F∧wr.ownsRow w.heap.size 9 1 (.slice q F.length c) F.length (strCells (F.map (·.1)))∧Bw w wr) (fun _ _ i _=>v -(intOf i).toNat)
  case atStart=>exact⟨0,[],S0,_,_,AV _,rfl,rfl,rfl,Reading.start _ _,qp,by rw[Kw,oD];exact VY.out,AP⟩
  case round=>
   obtain⟨j,F,S,q,c,hjv,rfl,rfl,rfl,Kh,hm,Af,hb⟩:=hrel;have Ql:S.length≤1000000:=(by have:=Kh.rest;have:=Nz.out;omega);have hjb:8*j≤1000000:=(by have:=Kh.rest;have:=Nz.out;omega);have VZ:=Hi Kh;have HM:=Hi hm;have HR:=Hi Af;have HB:=Hi hb;have Yb:=Kh.len;have QP:=Hi Yb;clear Kh hm Af hb qp VY AP Yb NN;by_cases hj:j < v
   ·cases hc:cut S with
    |none=>
     have HN:Hid (Ah.read s=none):=Hi (by rw[GX.out,VZ.aCO hj hc];rfl);have Bo:=Hi hc;clear hc;go_wp2_with fail;refine(ai6 Bo _ (by omega)).mono ?_;rintro e w2⟨rfl,rfl⟩;go_wp2;go_ret2;exact iK HN rfl HB.out
    |some ar=>
     obtain⟨a,r⟩:=ar;have BQ:=Ww hc;have Bo:=Hi hc;clear hc;cases hd:cut r with
     |none=>
      have HN:Hid (Ah.read s=none):=Hi (by rw[GX.out,VZ.aCP hj Bo hd];rfl);have Lh:=Hi hd;clear hd;go_wp2_with fail;refine(sw Bo _ (by omega)).mono ?_;rintro e w2⟨rfl,Ac⟩;have Aj:=bH HB Ac;clear Ac;go_wp2_with fail;refine(ai6 Lh _ (by omega)).mono ?_;rintro e w3⟨rfl,rfl⟩;go_wp2;go_ret2;exact iK HN rfl Aj.out
     |some dr=>
      obtain⟨d,r2⟩:=dr;have NK:=Ww hd;have Lh:=Hi hd;clear hd;go_wp2_with fail;refine(sw Bo _ (by omega)).mono ?_;rintro e w2⟨rfl,Ac⟩;have Aj:=Hi Ac;clear Ac;go_wp2_with fail;refine(sw Lh _ (by omega)).mono ?_;rintro e w3⟨rfl,Av⟩;have Au:=bH Aj Av;clear Av Aj;go_wp2_with fail;refine(sK a d false _ (by unfold maxLen;omega) (by unfold maxLen;omega)).mono ?_;rw[show Am.may ⟨a,d,false⟩=EX a d by unfold Am.may;simp];rintro e w4⟨rfl,AB⟩;have AX:=bH Au AB;clear AB Au;cases EH:EX a d with
      |false=>
       have HN:Hid (Ah.read s=none):=Hi (by rw[GX.out,VZ.apr hj Bo Lh (fun h=>by rw[EH] at h;cases h.1)];rfl);clear EH;go_wp2;go_ret2;exact iK HN rfl (bT HB AX)
      |true=>
       have Sl:=Hi EH;have Yg:a.length≤32:=(by unfold EX at EH;simp at EH;exact EH.2.1);have VW:=Hi (HM.below AX);have M6:=Hi (BD HR (ub AX) (fun _ _ f=>f));clear EH;rcases List.eq_nil_or_concat F with hF|⟨G,⟨x,y⟩,hF⟩
       ·subst hF;have Mh:Un (RF ([]:M)) a=true:=rfl;have Fh:=Hi (VZ.step hj Bo Lh Sl Mh);have Gp:=Hi (ae7 (v:=d) (aeT VZ.up Mh));have ay8:=HB.size;have acY:=AX.size;have hFb:([]:M).length≤1000000:=(by have:=QP.out;omega);have ze:=Hi (VW.below ((Ai w4.heap.size w4).alloc (Ag _) (.cells #[a] 9)));clear Mh;obtain⟨i0,Bh,AY,AZ,Bb⟩:=Dy Tk;go_wp2_with (at_builtin;refine wpList_append_own_at _ rfl _ _ 61 rfl w.heap.size 9 i0 _ 1 16 underlying61 Bh AY AZ Bb rfl (by decide) _ ([]:M).length _ rfl (M6.alloc _) ⟨w4.heap.size,0,none⟩ 1 1 [.string (bs a)] rfl rfl (cell_one_new _ _ _) (by simp[Value.oneCell']) (by unfold maxLen;omega) (by omega) (by simp;omega) ?_;intro v' w5 Cf AJ _ hat;obtain⟨g',cap',rfl⟩:=ownsRow_succ Cf;have Gc:=Hi (aok ze M6 AJ);obtain⟨w6,G8,ED,Du⟩:=Gc.update a d (by unfold maxLen;omega) (by unfold maxLen;omega);have HO:=Hi Cf;have HG:=Hi AJ;have Sv:=Hi ED;have MP:=Hi Du;clear Cf AJ hat ED Du);have hne:∀ k,(Value.slice g' (([]:M).length+1) cap').ownBlock=some k→¬ k=w.heap.size:=fun k hk e=>by
         subst e;exact Gc.DI (Cx HO hk)
        have KW:=BD HO (A7.of_grownBy (F:=fun k=>k=w.heap.size) MP (fun k e=>by cases e;rfl)) hne;have Co:Bw w w6:=((HB.trans ((AX.alloc AX.size _).mono HB.size)).grown HG (by simp;omega) (fun j hj=>anz M6 (show(Value.slice q ([]:M).length c).ownBlock=some j from hj))).grown MP (by have:=HG.size;simp at this;omega) (fun j hj=>by cases hj;exact Ag _);go_roundw
        case rel=>
         refine⟨j+1,_,_,_,_,by omega,rfl,by rw[Gp.out,AA];rfl,by simp,Fh,Sv,?_,Co⟩;rw[Gp.out,AA,CQ]
         show World.ownsRow _ _ _ _ _ (([]:M).length+1) (strCells (([]:M).map (·.1)++[a]))
         rw[Tj];exact KW
        case measure=>simp[intOf];omega
       ·subst hF;obtain⟨g,rfl⟩:∃ g,q=some ⟨g,0,none⟩:=by
         rcases HR.2 with⟨e1,e2⟩|⟨g,cap,_,e1,_⟩
         ·simp at e2
         ·exact⟨g,by injection e1⟩
        have Gh:w4.cell? ⟨g,G.length,none⟩=some ↑x:=by
         have:=M6.cells (g:=g) rfl G.length ↑x (by rw[List.concat_eq_append,CQ,Ce,Kw,Tj,List.getElem?_append_right (by rw[strCells_length];simp),strCells_length];simp);rw[add_plain] at this;exact this
        have fu:(G.concat (x,y)).length=G.length+1:=(by simp);have Cn:∀ W,(Instr.indexAt 61 (.slice (some ⟨g,0,none⟩) (G.length+1) c) ↑(G.length:Int)).run prog W=.ok (.pointer (some ⟨g,G.length,none⟩)) W:=fun W=>by
         have:=Hy prog 61 9 underlying61 1 (by kernel_rfl) ⟨g,0,none⟩ (G.length+1) c G.length (by omega) W;rw[Nat.mul_one,add_plain] at this;exact this
        have hGb:G.length+1≤1000000:=(by have:=QP.out;rw[fu] at this;omega);have fZ:RF (G.concat (x,y))=some x:=(by rw[List.concat_eq_append];exact amy G x y);by_cases Kk:x < a
        ·have Ct:Op.bytesLess x a=true:=(by rw[bytesLess_eq];simpa using Kk);have Mh:Un (RF (G.concat (x,y))) a=true:=(by rw[fZ];simpa[Un] using Kk);clear Kk fZ;have Fh:=Hi (VZ.step hj Bo Lh Sl Mh);have Gp:=Hi (ae7 (v:=d) (aeT VZ.up Mh));have ay8:=HB.size;have acY:=AX.size;have hFb:(G.concat (x,y)).length≤1000000:=(by have:=QP.out;omega);have ze:=Hi (VW.below ((Ai w4.heap.size w4).alloc (Ag _) (.cells #[a] 9)));clear Mh;obtain⟨i0,Bh,AY,AZ,Bb⟩:=Dy Tk;have Lm:Hid (w4.ownsRow w.heap.size 9 1 (.slice (some ⟨g,0,none⟩) (G.length+1) c) (G.length+1) (strCells ((G.concat (x,y)).map (·.1)))):=Hi (by rw[←fu];exact M6.out);go_wp2_with (at_builtin;refine wpList_append_own_at _ rfl _ _ 61 rfl w.heap.size 9 i0 _ 1 16 underlying61 Bh AY AZ Bb rfl (by decide) _ (G.length+1) _ rfl (Lm.alloc _) ⟨w4.heap.size,0,none⟩ 1 1 [.string (bs a)] rfl rfl (cell_one_new _ _ _) (by simp[Value.oneCell']) (by unfold maxLen;omega) (by omega) (by simp;omega) ?_;intro v' w5 Cf AJ _ hat;obtain⟨g',cap',rfl⟩:=ownsRow_succ Cf;have Gc:=Hi (aok ze Lm AJ);obtain⟨w6,G8,ED,Du⟩:=Gc.update a d (by unfold maxLen;omega) (by unfold maxLen;omega);have HO:=Hi Cf;have HG:=Hi AJ;have Sv:=Hi ED;have MP:=Hi Du;clear Cf AJ hat ED Du);have hne:∀ k,(Value.slice g' (G.length+1+1) cap').ownBlock=some k→¬ k=w.heap.size:=fun k hk e=>by
          subst e;exact Gc.DI (Cx HO hk)
         have KW:=BD HO (A7.of_grownBy (F:=fun k=>k=w.heap.size) MP (fun k e=>by cases e;rfl)) hne;have Co:Bw w w6:=((HB.trans ((AX.alloc AX.size _).mono HB.size)).grown HG (by simp;omega) (fun j hj=>anz Lm (show(Value.slice (some ⟨g,0,none⟩) (G.length+1) c).ownBlock=some j from hj))).grown MP (by have:=HG.size;simp at this;omega) (fun j hj=>by cases hj;exact Ag _);go_roundw
         case rel=>
          refine⟨j+1,_,_,_,_,by omega,rfl,by rw[Gp.out,AA,fu];rfl,by simp,Fh,Sv,?_,Co⟩;rw[Gp.out,AA,fu,CQ]
          show World.ownsRow _ _ _ _ _ (G.length+1+1) (strCells ((G.concat (x,y)).map (·.1)++[a]))
          rw[Tj];exact KW
         case measure=>simp[intOf];omega
        ·have Ct:Op.bytesLess x a=false:=by rw[bytesLess_eq];simpa using Kk
         have HN:Hid (Ah.read s=none):=Hi (by
          rw[GX.out,VZ.apr hj Bo Lh (fun h=>by have h2:=h.2;rw[fZ] at h2;exact Kk (by simpa[Un] using h2))];rfl)
         clear Kk fZ;go_wp2;go_ret2;exact iK HN rfl (bT HB AX)
   ·obtain rfl:j=v:=(by omega);have SH:=VZ.done;cases S with
    |nil=>
     have HF:Hid (Ah.read s=some F):=Hi (by rw[GX.out,SH];rfl);clear SH;go_wp2;go_ret2;exact aB5 HF rfl HM HB (Ag _)
    |cons u S=>
     have HN:Hid (Ah.read s=none):=Hi (by rw[GX.out,SH];rfl);clear SH;go_wp2;go_ret2;exact iK HN rfl HB.out
end
section
open Go.RowKit Go.Maps Go.Sort
open Ah
def L6(log size AL b:Nat)(mv:Option Nat)(xv:Option Addr):Array Value:=#[.pointer b,.int .i64 (log:Int),.int .i64 (size:Int),.int .i64 (AL:Int),.map mv,.pointer xv,.int .i64 0]
theorem L8{w:World}{y log size AL b:Nat}{mv:Option Nat}{xv:Option Addr}(h:w.heap[y]?=some (.cells (L6 log size AL b mv xv) 116)):
  w.cell? y=some (.pointer b)∧w.cell? ⟨y,1,none⟩=some ↑(log:Int)∧w.cell? ⟨y,2,none⟩=some ↑(size:Int)∧w.cell? ⟨y,3,none⟩=some ↑(AL:Int)∧
  w.cell? ⟨y,4,none⟩=some (.map mv)∧w.cell? ⟨y,5,none⟩=some (.pointer xv)∧w.cell? ⟨y,6,none⟩=some (.int .i64 0)∧∀ j,w.frozen? ⟨y,j,none⟩=false:=by
 refine⟨?_,?_,?_,?_,?_,?_,?_,fun j=>CG w y j _ _ h⟩<;>rw[BJ w y _ _ _ _ h]<;>rfl
def zZ(w:World)(y log size b a num:Nat)(A:M)(e:Ending)(w':World):Prop:=
 ∃ mb,e=.returned (.tuple #[.int .u64 (num:Int),.int .i64 0])∧w'.heap[y]?=some (.cells (L6 log size a b (some mb) none) 116)∧CV w' mb A∧A7 (fun k=>k=y) w w'∧w.heap.size≤mb
theorem auI{w:World}{y log size b:Nat}{D:A8}{fp:Nat→Prop}(hd:BP w b D fp)(hy:w.heap[y]?=some (.cells (L6 log size 0 b none none) 116))(DF:D.down=false)(h0:D.now 0=Aw.pad [0]):
  Calls prog 78 #[y] w fun e w'=>zZ w y log size b 0 0 [] e w':=by
 have adj:=Ao hy;have Qr:=hd.fine;obtain⟨c0,_⟩:=L8 hy;obtain⟨m,lv,hI,_⟩:=hd;have GX:=Hi (wU hI 0 1 DF (by simp[A8.inside];have:=Qr.n1;omega));have e1:A8.text D.now 0 1=Aw.pad [0]:=by show D.now 0++[]=_;rw[h0,Eg]
 rw[e1] at GX;have HY:=Hi hy;have NN:=@run_makeMap prog;have AY:({ data:=#[0] }:ByteArray)=bs [0]:=rfl;clear hI hy Qr h0 e1
 go_in
 go_wp2_with fail;refine GX.mono ?_;rintro e w1⟨rfl,hb⟩;have UR:=Hi ((hb.block y adj).trans HY);obtain⟨_,_,_,_,d4,_,_,df⟩:=L8 UR.out;have rW:=df 4;have Mr:=Ao UR.out;have HB:=Hi hb;clear hb df;go_wp2_with fail;have Nb:(w1.setCell ⟨y,4,none⟩ (.map (some w1.heap.size))).heap.size=w1.heap.size:=by simp[World.setCell]
 have Rv:=Cs w1 y 4 _ _ (.map (some w1.heap.size)) UR.out;have YM:A7 (fun k=>k=y) w (w1.setCell ⟨y,4,none⟩ (.map (some w1.heap.size))):=(A7.of_below (F:=fun k=>k=y) HB).setCell (p:=⟨y,4,none⟩) (.inl rfl) _;have SV:=CV.made (w1.setCell ⟨y,4,none⟩ (.map (some w1.heap.size)));rw[Nb] at SV;have dE:=Hi SV;have C8:=Hi (((Ai _ (w1.setCell ⟨y,4,none⟩ (.map (some w1.heap.size)))).alloc (Ag _) (.map #[] 0)).block y (by rw[Nb];exact Mr) |>.trans Rv);have NA:=Hi (YM.alloc (.map #[] 0));clear SV Rv YM d4 rW Nb;refine(sO [0] _ (by simp)).mono ?_;rintro e w2⟨rfl,Ac⟩;have Aj:=Hi Ac;clear Ac;go_wp2;go_ret2;refine⟨w1.heap.size,rfl,(Aj.block y (by simp;omega)).trans C8,dE.below Aj,NA.trans (A7.of_below (F:=fun k=>k=y) Aj) (fun i hi=>.inl hi),HB.size⟩
theorem auH{w:World}{y log size b:Nat}{D:A8}{fp:Nat→Prop}(hd:BP w b D fp)(hy:w.heap[y]?=some (.cells (L6 log size 0 b none none) 116))(DF:D.down=false){a num:Nat}{A:M}{t r:T}(ha:a≤1)(uR:num < 18446744073709551616)(h0:D.now 0=Ah.mark a num)
  (mH:log≤16384)(Ki:size≤8192)(JH:D9 log size a+size≤D.n)(hcut:cut (A8.text D.now (D9 log size a) size)=some (t,r))(acO:Ah.read t=some A):
  Calls prog 78 #[y] w fun e w'=>zZ w y log size b a num A e w':=by
 have adj:=Ao hy;have Qr:=hd.fine;obtain⟨c0,_⟩:=L8 hy;have Lg:=Hi hd;obtain⟨m,lv,hI,_⟩:=hd;have GX:=Hi (wU hI 0 1 DF (by simp[A8.inside];have:=Qr.n1;omega));have e1:A8.text D.now 0 1=Ah.mark a num:=by show D.now 0++[]=_;rw[h0,Eg]
 rw[e1] at GX;have HY:=Hi hy;have NN:=@run_makeMap prog;have AY:({ data:=#[0] }:ByteArray)=bs [0]:=rfl;have FK:=Ah.OA a num;have hm4:=Ah.amW a num ha;have hmn:=Ah.amX a num uR;have hne:(Ah.mark a num == Aw.pad [0])=false:=by simpa using Ah.vN a num
 have awS:∀ W,(Instr.slice 9 ↑(Ah.mark a num) (some (.int .i64 5)) (some (.int .i64 13)) none).run prog W=.ok ↑(((Ah.mark a num).take 13).drop 5) W:=fun W=>Z7 prog W 9 underlying9 (Ah.mark a num) 5 13 (by omega) (by omega)
 have h5l:(((Ah.mark a num).take 13).drop 5).length=8:=by rw[CF,Bc];omega
 have JC:=Hi (fun(W:World)=>Y7 (((Ah.mark a num).take 13).drop 5) W (by omega) (by omega));rw[hmn] at JC;have II:∀ W,(Instr.index 9 ↑(Ah.mark a num) (.int .i64 4)).run prog W=.ok (.int .u8 (a:Int)) W:=fun W=>by
  have h4:4 < (Ah.mark a num).length:=by omega
  have e4:(Ah.mark a num)[4].toNat=a:=by
   have:=hm4.2;rwa[IU,CZ h4,RZ] at this
  rw[run_index_string W 9 (bs (Ah.mark a num)) .i64 4 underlying9,dif_pos ⟨by omega,by simp;omega⟩]
  show Result.ok (Value.int .u8 (((Ah.mark a num)[4]'h4).toNat:Nat)) W=_
  rw[e4]
 have QU:=Hi (fun(W:World)=>aio a num W ha uR);have hab:(a:Int)≤1:=by omega
 have HN:=Hi uR;have zb:=Hi FK;have TA:=Hi hcut;have Lp:=Hi acO;generalize Ah.mark a num=F0 at*;generalize ((F0.take 13).drop 5)=F5 at*;have akO:D.inside (D9 log size a) size=true:=by simp[A8.inside];omega
 have Sn:=Hi (fun(V:World) (h:BP V b D fp)=>(by obtain⟨m2,lv2,hI2,_⟩:=h;exact wU hI2 (D9 log size a) size DF akO:Calls prog 159 #[b,((D9 log size a:Nat):Int),(size:Int)] V (Rt V (.tuple #[.string (bs (A8.text D.now (D9 log size a) size)),.int .i64 0]))));have Ow:(A8.text D.now (D9 log size a) size).length≤524288:=by rw[A8.oH Qr.now _ _ JH];omega
 have pV:=Hi (fun(V:World)=>sw hcut V (by omega));have arH:=Hi (fun(V:World)=>(by have:=auY t V (by have:=Ww hcut;omega);unfold dZ at this;rw[acO] at this;exact this:Calls prog 162 #[t] V fun e w'=>∃ m,e=.returned (.tuple #[.map (some m),true])∧CV w' m A∧Bw V w'∧V.heap.size≤m));clear Ow akO;clear hI hy Qr h0 e1 hm4 hmn h5l hcut acO uR FK
 go_in
 go_wp2_with fail;refine GX.mono ?_;rintro e w1⟨rfl,hb⟩;have UR:=Hi ((hb.block y adj).trans HY);obtain⟨_,_,_,_,d4,_,_,df⟩:=L8 UR.out;have rW:=df 4;have Mr:=Ao UR.out;have HB:=Hi hb;clear hb df;go_wp2_with fail;have Nb:(w1.setCell ⟨y,4,none⟩ (.map (some w1.heap.size))).heap.size=w1.heap.size:=by simp[World.setCell]
 have Rv:=Cs w1 y 4 _ _ (.map (some w1.heap.size)) UR.out;have YM:A7 (fun k=>k=y) w (w1.setCell ⟨y,4,none⟩ (.map (some w1.heap.size))):=(A7.of_below (F:=fun k=>k=y) HB).setCell (p:=⟨y,4,none⟩) (.inl rfl) _;have C8:=Hi (show _=some (.cells (L6 log size 0 b (some w1.heap.size) none) 116) from((Ai _ (w1.setCell ⟨y,4,none⟩ (.map (some w1.heap.size)))).alloc (Ag _) (.map #[] 0)).block y (by rw[Nb];exact Mr) |>.trans Rv);have NA:=Hi (YM.alloc (.map #[] 0));have Qz:((w1.setCell ⟨y,4,none⟩ (.map (some w1.heap.size))).alloc (.map #[] 0)).heap.size=w1.heap.size+1:=by rw[Az,Nb]
 have arN:=Hi Qz;clear Rv YM d4 rW Nb Qz;refine(sO [0] _ (by simp)).mono ?_;rintro e w2⟨rfl,Ac⟩;have UT:=Hi ((Ac.block y (by rw[arN.out];omega)).trans C8);have Sv:=Hi (NA.trans (A7.of_below (F:=fun k=>k=y) Ac) (fun i hi=>.inl hi));clear Ac C8 NA;obtain⟨_,_,_,d3,_,_,_,df⟩:=L8 UT.out;have eG:=df 3;clear df;go_wp2_with fail;have Vr:=Cs w2 y 3 _ _ ↑(a:Int) UT.out;have Du:A7 (fun k=>k=y) w (w2.setCell ⟨y,3,none⟩ ↑(a:Int)):=Sv.setCell (p:=⟨y,3,none⟩) (.inl rfl) _;have SA:=Hi (show _=some (Obj.cells (L6 log size a b (some w1.heap.size) none) 116) from Vr);have MP:=Hi Du;clear Vr Du eG d3 UT Sv;generalize w2.setCell ⟨y,3,none⟩ ↑(a:Int)=w3 at*;refine(JC _).mono ?_;rintro e w3'⟨rfl,rfl⟩;obtain⟨_,_,_,d3,_⟩:=L8 SA.out;go_wp2_with fail;refine(QU _).mono ?_;rintro e w4⟨rfl,AB⟩;have QX:=Hi ((AB.block y (Ao SA)).trans SA);have P6:=Hi (MP.trans (A7.of_below (F:=fun k=>k=y) AB) (fun i hi=>.inl hi));have VM:=Hi (Lg.upd P6 (fun k hk e=>by subst e;exact Lg.DI k hk (t:=116) (by decide) (by decide) ⟨_,_,HY⟩));have UU:=Hi (show w4.drew.heap[y]?=_ from QX.out);have Lh:=Hi (VM.below (Ai w4.heap.size w4).drew);have HUD:=Hi (P6.trans (A7.of_below (F:=fun k=>k=y) (Ai w4.heap.size w4).drew) (fun i hi=>.inl hi));have KS:=Hi (fun(V:World) (h:V.heap[y]?=some (Obj.cells (L6 log size a b (some w1.heap.size) none) 116))=>(⟨(L8 h).1,(L8 h).2.1,(L8 h).2.2.1,(L8 h).2.2.2.1⟩:V.cell? y=some (.pointer b)∧V.cell? ⟨y,1,none⟩=some ↑(log:Int)∧V.cell? ⟨y,2,none⟩=some ↑(size:Int)∧V.cell? ⟨y,3,none⟩=some ↑(a:Int)))
 obtain⟨d0,d1,d2,d3⟩:=KS _ QX.out;clear AB MP SA;go_wp2
 go_region_held3 (fun V=>V.cell? y=some (.pointer b)∧V.cell? ⟨y,1,none⟩=some ↑(log:Int)∧V.cell? ⟨y,2,none⟩=some ↑(size:Int)∧V.cell? ⟨y,3,none⟩=some ↑(a:Int))
  (first|exact KS _ UU|exact KS _ IZ|exact KS _ P9)
  (first
   |(go_at_call 138;refine(ai2 _ log size a _ (by omega) (by omega) ha).mono ?_;rintro e w5 ⟨rfl,Bl⟩;have IZ:=Hi ((Bl.block y (Ao UU)).trans UU);have HD5:=Hi (Lh.below Bl);have XQ:=Hi (HUD.trans (A7.of_below (F:=fun k=>k=y) Bl) (fun i hi=>.inl hi));clear Bl)
   |(go_at_call 159;refine(Sn _ HD5).mono ?_;rintro e w6 ⟨rfl,Co⟩;have P9:=Hi ((Co.block y (Ao IZ)).trans IZ);have Ls:=Hi (XQ.trans (A7.of_below (F:=fun k=>k=y) Co) (fun i hi=>.inl hi));clear Co))
 clear d0 d1 d2 d3 UU Lh HUD VM QX P6 HD5 IZ XQ KS;go_wp2_with fail;refine(pV _).mono ?_;rintro e w7⟨rfl,F7⟩;have zW:=Hi ((F7.block y (Ao P9)).trans P9);have dM:=Hi (Ls.trans (A7.of_below (F:=fun k=>k=y) F7) (fun i hi=>.inl hi));clear F7 P9 Ls;go_wp2_with fail;refine(arH _).mono ?_;rintro e w8⟨mb,rfl,WS,JF,hn8⟩;have zX:=Hi ((JF.block y (Ao zW)).trans zW);have jX:=Hi (dM.trans (A7.of_below (F:=fun k=>k=y) JF) (fun i hi=>.inl hi));have UL:=Hi WS;have HN8:=Hi (show w.heap.size≤mb from Ay dM.size hn8);clear JF zW dM WS hn8;obtain⟨_,_,_,_,d4,_,_,df⟩:=L8 zX.out;have rW:=df 4;clear df;go_wp2;go_ret2;refine⟨mb,rfl,Cs w8 y 4 _ _ _ zX,UL.upd (A7.setCell (F:=fun k=>k=y) (A7.refl _ _) (p:=⟨y,4,none⟩) (.inl rfl) _) ?_,jX.setCell (p:=⟨y,4,none⟩) (.inl rfl) _,HN8.out⟩;intro e;subst e;exact UL.DI ⟨_,_,zX⟩
end
section
open Go.RowKit Go.Maps
open Aw
def Xw(W:World)(b:Nat)(D:A8)(fp:Nat→Prop)(f:A8→A8×Int)(e:Ending)(W':World):Prop:=
 e=.returned (.int .i64 (f D).2)∧∃ fp',BP W' b (f D).1 fp'∧A7 fp W W'∧Dq fp fp' W
structure afk(K:World→Prop)(b:Nat)(v:Value)(f:A8→A8×Int):Prop where
 more:∀ D,(f D).1.loose.length≤D.loose.length+1000000
 fn:∃ F recv Ka,v=.func (.func F) recv Ka∧(∀ args w,(callFunc F args).run prog w=.ok (.enter F args) w)∧
  ∀ W D fp,K W→BP W b D fp→D.loose.length≤500000000→Calls prog F (recv++Ka) W (Xw W b D fp f)
structure yc(K:World→Prop)(b:Nat)(vs:List Value)(fs:List (A8→A8×Int)):Prop where
 len:vs.length=fs.length
 each:∀ i (h:i < vs.length) (h':i < fs.length),afk K b vs[i] fs[i]
theorem BP.kindOf{w:World}{b:Nat}{D:A8}{fp:Nat→Prop}(h:BP w b D fp){k:Nat}(hk:fp k){t:TypeId}(hb:Bf w k t):t=144∨t=242:=by
 obtain⟨m,lv,hI,rfl⟩:=h;obtain⟨cs,fr,hb⟩:=hb;rcases hk with rfl|rfl|hk
 ·rw[hI.struct] at hb;injection hb with hb
  injection hb with _ hb _
  exact .inl hb.symm
 ·obtain⟨kv,⟨_,D',⟨es,clock,hm,_⟩,_⟩,_⟩:=hI.base;rw[hm] at hb;injection hb with hb
  cases hb
 ·rcases hI.loose.2 with⟨e1,_⟩|⟨g,cap,cur,e1,_,hg,_⟩
  ·subst e1;simp[Value.ownBlock] at hk
  ·subst e1;simp[Value.ownBlock] at hk;subst hk;rw[hg] at hb;injection hb with hb
   injection hb with _ hb _
   exact .inr hb.symm
theorem atK{fs:List (A8→A8×Int)}(h:fs=[])(E:A8):BA fs E=(E,0):=by subst h;rfl
theorem azJ(a b c k:Nat)(h1:a≤b+1000000)(h2:b≤c+1000000*k):a≤c+1000000*(k+1):=by
 rw[Nat.mul_succ,←Nat.add_assoc];generalize 1000000*k=m at*;omega
def y8(w:World)(x b:Nat)(gv:Value)(L:BI)(fp:Nat→Prop)(r:A8×Int)(e:Ending)(w':World):Prop:=
 e=.returned (.int .i64 r.2)∧∃ fp',BP w' b r.1 fp'∧Cw w' x b gv (if r.2=0 then L else L.fell r.2)∧A7 (fun k=>fp k∨k=x) w w'∧Dq fp fp' w
theorem Cw.xm{w:World}{x b:Nat}{gv:Value}{L:BI}(h:Cw w x b gv L)(k:Int):Cw (w.setCell ⟨x,6,none⟩ (.int .i64 k)) x b gv (L.fell k):=by
 have hu:A7 (fun i=>i=x) w (w.setCell ⟨x,6,none⟩ (.int .i64 k)):=(A7.refl (fun i=>i=x) w).setCell (p:=⟨x,6,none⟩) (.inl rfl) _;refine⟨Cs w x 6 _ _ _ h.struct,h.groups.upd hu (fun i hi e=>by subst e;exact Bf.ne hi ⟨_,_,h.struct⟩ (by decide) rfl) (fun g hg e=>h.ne (by rw[hg,e])),h.gen,h.used,h.n⟩
theorem Cw.apart{w:World}{x b:Nat}{gv:Value}{L:BI}(h:Cw w x b gv L){b':Nat}{D:A8}{fp:Nat→Prop}(hd:BP w b' D fp):¬ fp x:=fun hk=>by
 have:=hd.kindOf hk ⟨_,_,h.struct⟩
 revert this;decide
theorem ahT{w:World}{x b g n cap:Nat}{gv:Value}{L:BI}{D:A8}{fp:Nat→Prop}{K:World→Prop}{vs:List Value}{fs:List (A8→A8×Int)}
  (hd:BP w b D fp)(hl:Cw w x b gv L)(hK:K w)(hKs:∀ W W' D fp,K W→BP W b D fp→A7 fp W W'→K W')(hf:yc K b vs fs)(hv:∀ i u,vs[i]?=some u→w.cell? ⟨g,i,none⟩=some u)(hg:Bf w g 129)(hn:vs.length=n)(gB:n≤5)(Ih:D.loose.length≤400000000):
  Calls prog 148 #[x,.slice g n cap] w fun e w'=>y8 w x b gv L fp (BA fs D) e w':=by
 have HD:=Hi hd;have HL:=Hi hl;have HK:=Hi hK;have KH:=Hi hKs;have HF:=Hi hf;have HV:=Hi hv;have HG:=Hi hg;have HN:=Hi hn;clear hd hl hK hKs hf hv hg hn
 go_in
 go_wp2
 go_loopw [10] (fun i wr=>∃ (k:Nat) (E:A8) (fe:Nat→Prop),k≤n∧i=.int .i64 k∧BP wr b E fe∧K wr∧A7 fp w wr∧Dq fp fe w∧E.loose.length≤D.loose.length+1000000*k∧BA fs D=BA (fs.drop k) E) (fun i _=>n -(intOf i).toNat)
 case atStart=>exact⟨0,D,fp,AV _,rfl,HD,HK,A7.refl _ _,fun _ h=>.inl h,by omega,by rw[List.drop_zero]⟩
 case round=>
  obtain⟨k,E,fe,hk,rfl,hE,hKr,hU,hS,Ya,Qq⟩:=hrel;have HE:=Hi hE;have JW:=Hi hKr;have HU:=Hi hU;have HS:=Hi hS;have QO:=Hi Qq;clear hE hKr hU hS Qq;by_cases hlt:k < n
  ·have KR:k < vs.length:=(by rw[HN.out];exact hlt);have aL:k < fs.length:=(by rw[←HF.len];exact KR);obtain⟨alb,F,recv,Ka,hv,Ol,KO⟩:=HF.each k KR aL;have WQ:=HV k _ (CZ KR);have hc:wr.cell? ⟨g,k,none⟩=some (.func (.func F) recv Ka):=by
    rw[←hv,←WQ];exact HU.cell (p:=⟨g,k,none⟩) HG.lt (fun hk=>by have:=HD.kindOf hk HG.out;revert this;decide)
   have Bj:BA (fs.drop k) E=if(fs[k] E).2=0 then BA (fs.drop (k+1)) (fs[k] E).1 else fs[k] E:=by
    rw[OH aL,eH]
   have FK:=alb E;have BQ:=KO wr E fe JW HE (by omega);generalize fs[k]=f at*;have ES:=Hi BQ;have Ba:=Hi Bj;clear WQ hv KO alb BQ Bj KR aL;go_wp2_with fail;refine ES.mono ?_;rintro e w1⟨rfl,fe1,U1,G8,WV⟩;have QN:=Hi U1;have Zx:=Hi (KH _ _ _ _ JW HE G8);have NA:=Hi (HU.trans G8 HS)
   have C8:=Hi (show Dq fp fe1 w from fun i hi=>by
    rcases WV i hi with h|h
    ·exact HS i h
    ·exact .inr (Ay HU.size h))
   clear U1 G8 WV hc;generalize f E=r at*;obtain⟨E1,e1⟩:=r;by_cases h0:e1=0
   ·subst h0;have TB:=Hi (show BA fs D=BA (fs.drop (k+1)) E1 by rw[QO.out,Ba.out];rfl);have aQ:E1.loose.length≤E.loose.length+1000000:=FK;have Pw:=azJ _ _ _ _ aQ Ya;have aru:=Hi Pw;clear FK Pw;go_wp2;go_roundw
    case rel=>exact⟨k+1,E1,fe1,by omega,by go_num,QN,Zx,NA,C8,aru,TB⟩
    case measure=>simp[intOf];omega
   ·have Be:(e1 == 0)=false:=(by simp[h0]);have Ak:(e1 != 0)=true:=(by simp[h0]);have TB:=Hi (show BA fs D=(E1,e1) by rw[QO.out,Ba.out,A9 h0]);have Gb:=Hi (HL.disk HD NA);have H0:=Hi h0;obtain⟨c0,c1,c2,c3,c4,c5,c6,cf⟩:=Gb.cells;have cf6:=cf 6;clear h0 FK cf;go_wp2;go_ret;unfold y8;rw[TB.out];refine⟨rfl,fe1,QN.upd (F:=fun i=>i=x) ((A7.refl (fun i=>i=x) w1).setCell (p:=⟨x,6,none⟩) (.inl rfl) _) (fun i hi e=>Gb.apart QN (by rw[←e];exact hi)),?_,(NA.mono (fun i hi=>.inl hi)).setCell (p:=⟨x,6,none⟩) (.inl (.inr rfl)) _,C8.out⟩;rw[A9 (by exact H0.out)];exact Gb.xm e1
  ·obtain rfl:k=n:=(by omega);have J5:fs.drop k=[]:=List.drop_eq_nil_of_le (by rw[←HF.len,HN.out];exact Ag _);have TB:=Hi (QO.trans (atK J5 E));have Gb:=Hi (HL.disk HD HU);clear J5;go_wp2;go_ret;unfold y8;rw[TB.out];exact⟨rfl,fe,HE,by rw[Ae rfl];exact Gb.out,HU.mono (fun i hi=>.inl hi),HS.out⟩
end
section
open Go.RowKit Go.Maps
open Aw
theorem IB{w:World}{k:Nat}{v:Value}{t:TypeId}(h:w.heap[k]?=some (.cells #[v] t)):w.cell? k=some v:=by rw[BJ w _ _ _ _ _ h];rfl
theorem aeL(g:Nat):IntKind.u64.wrap ((g:Int)+1)=(((g+1) % 18446744073709551616:Nat):Int):=by
 simp[IntKind.wrap,IntKind.bits,IntKind.signed]
structure QJ(W:World)(x b:Nat)(gv:Value)(L:BI)(c0 s0 k0:Nat)(s:List UInt8)(k:Nat):Prop where
 Ed:Cw W x b gv L
 box:W.heap[c0]?=some (.cells #[x] 114)
 txt:W.heap[s0]?=some (.cells #[s] 9)
 num:W.heap[k0]?=some (.cells #[(k:Int)] 3)
theorem QJ.upd{W W':World}{x b:Nat}{gv:Value}{L:BI}{c0 s0 k0:Nat}{s:List UInt8}{k:Nat}(h:QJ W x b gv L c0 s0 k0 s k){b':Nat}{D:A8}{fp:Nat→Prop}(hd:BP W b' D fp)(hu:A7 fp W W'):QJ W' x b gv L c0 s0 k0 s k:=
 ⟨h.Ed.disk hd hu,(hu.block c0 (Ao h.box) (fun hk=>by have:=hd.kindOf hk ⟨_,_,h.box⟩;revert this;decide)).trans h.box,(hu.block s0 (Ao h.txt) (fun hk=>by have:=hd.kindOf hk ⟨_,_,h.txt⟩;revert this;decide)).trans h.txt,(hu.block k0 (Ao h.num) (fun hk=>by have:=hd.kindOf hk ⟨_,_,h.num⟩;revert this;decide)).trans h.num⟩
theorem QJ.below{W W':World}{x b:Nat}{gv:Value}{L:BI}{c0 s0 k0:Nat}{s:List UInt8}{k:Nat}(h:QJ W x b gv L c0 s0 k0 s k)(hb:Bw W W'):QJ W' x b gv L c0 s0 k0 s k:=
 ⟨h.Ed.below hb,(hb.block c0 (Ao h.box)).trans h.box,(hb.block s0 (Ao h.txt)).trans h.txt,(hb.block k0 (Ao h.num)).trans h.num⟩
theorem QJ.cells{W:World}{x b:Nat}{gv:Value}{L:BI}{c0 s0 k0:Nat}{s:List UInt8}{k:Nat}(h:QJ W x b gv L c0 s0 k0 s k):
  W.cell? c0=some (.pointer x)∧W.cell? s0=some ↑s∧W.cell? k0=some ↑(k:Int)∧
  W.cell? x=some (.int .u64 (L.gen:Int))∧W.cell? ⟨x,1,none⟩=some ↑(L.used:Int)∧W.cell? ⟨x,2,none⟩=some (.pointer b)∧W.cell? ⟨x,3,none⟩=some (.int .i64 (L.from_:Int)):=by
 obtain⟨c0,c1,c2,c3,_⟩:=h.Ed.cells;exact⟨IB h.box,IB h.txt,IB h.num,c0,c1,c2,c3⟩
structure TL(W:World)(x b:Nat)(gv:Value)(L:BI)(c0:Nat):Prop where
 Ed:Cw W x b gv L
 box:W.heap[c0]?=some (.cells #[x] 114)
theorem TL.of{W:World}{x b:Nat}{gv:Value}{L:BI}{c0:Nat}(h:Cw W x b gv L)(h2:W.heap[c0]?=some (.cells #[x] 114)):TL W x b gv L c0:=⟨h,h2⟩
theorem TL.upd{W W':World}{x b:Nat}{gv:Value}{L:BI}{c0:Nat}(h:TL W x b gv L c0){b':Nat}{D:A8}{fp:Nat→Prop}(hd:BP W b' D fp)(hu:A7 fp W W'):TL W' x b gv L c0:=
 ⟨h.Ed.disk hd hu,(hu.block c0 (Ao h.box) (fun hk=>by have:=hd.kindOf hk ⟨_,_,h.box⟩;revert this;decide)).trans h.box⟩
theorem TL.below{W W':World}{x b:Nat}{gv:Value}{L:BI}{c0:Nat}(h:TL W x b gv L c0)(hb:Bw W W'):TL W' x b gv L c0:=
 ⟨h.Ed.below hb,(hb.block c0 (Ao h.box)).trans h.box⟩
section
variable {W:World}{x b:Nat}{gv:Value}{L:BI}{c0 s0 k0:Nat}{s:List UInt8}{k:Nat}{D:A8}{fp:Nat→Prop}
theorem aae{f:A8→A8×Int}{e:Ending}{W':World}(he:e=.returned (.int .i64 (f D).2)){fp':Nat→Prop}(hd:BP W' b (f D).1 fp')(hu:A7 fp W W')(hs:Dq fp fp' W):Xw W b D fp f e W':=⟨he,fp',hd,hu,hs⟩
theorem ata(h:QJ W x b gv L c0 s0 k0 s k)(hd:BP W b D fp)(hs:s.length≤10000000)(hl:D.loose.length≤500000000):
  Calls prog 145 #[c0,s0] W (Xw W b D fp (fun D=>D.write ((L.from_+1+L.used:Nat):Int) s)):=by
 have g1:=h.Ed.used;have g2:=h.Ed.n;have HC:=Hi h;have HD:=Hi hd;have ajX:=fun(W':World) (hb:Bw W W')=>(h.below hb).cells
 have aEL:=Hi ajX;have e1:IntKind.i64.wrap ((L.from_:Int)+1)=(L.from_:Int)+1:=EN _ (by omega);have e2:IntKind.i64.wrap ((L.from_:Int)+1+(L.used:Int))=(L.from_:Int)+1+(L.used:Int):=EN _ (by omega);have hat:((L.from_+1+L.used:Nat):Int)=(L.from_:Int)+1+(L.used:Int):=by omega
 have hw:=fun(W':World) (hb:Bw W W')=>p8 (hd.below hb) ((L.from_:Int)+1+(L.used:Int)) s (by omega) (by omega) (by omega)
 have HW:=Hi hw;have Jg:=Hi hat;obtain⟨d0,d1,d2,d3,d4,d5,d6⟩:=h.cells;clear h hd ajX hw hat;rw[Jg.out]
 go_in
 go_wp2
 go_region_held3 (fun V=>V.cell? c0=some (.pointer x)∧V.cell? s0=some ↑s∧V.cell? ⟨x,1,none⟩=some ↑(L.used:Int)∧V.cell? ⟨x,2,none⟩=some (.pointer b)∧V.cell? ⟨x,3,none⟩=some (.int .i64 (L.from_:Int)))
  (first|exact⟨d0,d1,d4,d5,d6⟩|exact⟨KA.cells.1,KA.cells.2.1,KA.cells.2.2.2.2.1,KA.cells.2.2.2.2.2.1,KA.cells.2.2.2.2.2.2⟩)
  (first
   |(go_at_call 137;refine(HW _ ((Ai W.heap.size W).drew)).mono ?_;rintro e wa ⟨rfl,fpa,Ri,Uf,WX⟩;have KA:=Hi ((HC.below ((Ai W.heap.size W).drew)).upd (HD.below ((Ai W.heap.size W).drew)) Uf);have Lg:=Hi (CB Ri (CB Uf WX));clear Ri Uf WX))
 go_wp2;go_ret;exact aae rfl Lg.1 ((A7.of_below (F:=fp) ((Ai W.heap.size W).drew)).trans Lg.2.1 (fun _ h=>.inl h)) Lg.2.2
theorem at6(h:QJ W x b gv L c0 s0 k0 s k)(hd:BP W b D fp)(hk:k≤1000000)(hl:D.loose.length≤500000000):
  Calls prog 146 #[c0,k0] W (Xw W b D fp (fun D=>D.write (L.from_:Int) (Aw.mark L.gen (L.used+k)))):=by
 have g1:=h.Ed.used;have g2:=h.Ed.n;have g3:=h.Ed.gen;have HC:=Hi h;have HD:=Hi hd;have e2:IntKind.i64.wrap ((L.used:Int)+(k:Int))=(L.used:Int)+(k:Int):=EN _ (by omega);have hm:=fun(W':World)=>nM L.gen (L.used+k) W' g3 (by omega)
 have FK:=Aw.OA L.gen (L.used+k);have hw:=fun(W':World) (hb:Bw W W')=>p8 (hd.below hb) (L.from_:Int) (Aw.mark L.gen (L.used+k)) (by omega) (by omega) (by omega)
 have uk:((L.used+k:Nat):Int)=(L.used:Int)+(k:Int):=by omega
 rw[uk] at hm;have HM:=Hi hm;have HW:=Hi hw;obtain⟨d0,d1,d2,d3,d4,d5,d6⟩:=h.cells;clear h hd hm hw FK uk g3
 go_in
 go_wp2
 go_region_held3 (fun V=>V.cell? c0=some (.pointer x)∧V.cell? k0=some ↑(k:Int)∧V.cell? x=some (.int .u64 (L.gen:Int))∧V.cell? ⟨x,1,none⟩=some ↑(L.used:Int)∧V.cell? ⟨x,2,none⟩=some (.pointer b)∧V.cell? ⟨x,3,none⟩=some (.int .i64 (L.from_:Int)))
  (first|exact⟨d0,d2,d3,d4,d5,d6⟩|exact⟨KM.cells.1,KM.cells.2.2.1,KM.cells.2.2.2.1,KM.cells.2.2.2.2.1,KM.cells.2.2.2.2.2.1,KM.cells.2.2.2.2.2.2⟩|exact⟨KA.cells.1,KA.cells.2.2.1,KA.cells.2.2.2.1,KA.cells.2.2.2.2.1,KA.cells.2.2.2.2.2.1,KA.cells.2.2.2.2.2.2⟩)
  (first
   |(go_at_call 147;refine(HM _).mono ?_;rintro e wm ⟨rfl,WO⟩;have Ty:=Hi (((Ai W.heap.size W).drew).trans WO);have KM:=Hi (HC.below Ty);clear WO)
   |(go_at_call 137;refine(HW _ Ty).mono ?_;rintro e wa ⟨rfl,fpa,Ri,Uf,WX⟩;have KA:=Hi (KM.upd (HD.below Ty) Uf);have Lg:=Hi (CB Ri (CB Uf WX));clear Ri Uf WX))
 go_wp2;go_ret;refine aae rfl Lg.1 ((A7.of_below (F:=fp) Ty).trans Lg.2.1 (fun _ h=>.inl h)) (fun i hi=>?_);rcases Lg.2.2 i hi with h|h
 ·exact .inl h
 ·exact .inr (Ay Ty.size h)
theorem at7(h:TL W x b gv L c0)(hd:BP W b D fp)(hl:D.loose.length≤500000000):
  Calls prog 166 #[c0] W (Xw W b D fp (fun D=>D.write (L.from_:Int) (Aw.mark ((L.gen+1) % 18446744073709551616) 0))):=by
 have g2:=h.Ed.n;have g3:(L.gen+1) % 18446744073709551616 < 18446744073709551616:=Nat.mod_lt _ (by decide);have HC:=Hi h;have HD:=Hi hd;have e2:IntKind.u64.wrap ((L.gen:Int)+1)=(((L.gen+1) % 18446744073709551616:Nat):Int):=aeL L.gen;have d0:=IB h.box;obtain⟨d3,_,d5,d6,_⟩:=h.Ed.cells;have HE:=Hi e2;generalize (L.gen+1) % 18446744073709551616=g at*;have hm:=fun(W':World)=>nM g 0 W' g3 (by decide)
 have FK:=Aw.OA g 0;have hw:=fun(W':World) (hb:Bw W W')=>p8 (hd.below hb) (L.from_:Int) (Aw.mark g 0) (by omega) (by omega) (by omega)
 have HM:=Hi hm;have HW:=Hi hw;clear h hd hm hw FK g3
 go_in
 go_wp2
 go_region_held3 (fun V=>V.cell? c0=some (.pointer x)∧V.cell? x=some (.int .u64 (L.gen:Int))∧V.cell? ⟨x,2,none⟩=some (.pointer b)∧V.cell? ⟨x,3,none⟩=some (.int .i64 (L.from_:Int)))
  (first|exact⟨d0,d3,d5,d6⟩|exact⟨IB KM.box,KM.Ed.cells.1,KM.Ed.cells.2.2.1,KM.Ed.cells.2.2.2.1⟩|exact⟨IB KA.box,KA.Ed.cells.1,KA.Ed.cells.2.2.1,KA.Ed.cells.2.2.2.1⟩)
  (first
   |(go_at_call 147;refine(HM _).mono ?_;rintro e wm ⟨rfl,WO⟩;have Ty:=Hi (((Ai W.heap.size W).drew).trans WO);have KM:=Hi (HC.below Ty);clear WO)
   |(go_at_call 137;refine(HW _ Ty).mono ?_;rintro e wa ⟨rfl,fpa,Ri,Uf,WX⟩;have KA:=Hi (KM.upd (HD.below Ty) Uf);have Lg:=Hi (CB Ri (CB Uf WX));clear Ri Uf WX))
 go_wp2;go_ret;refine aae rfl Lg.1 ((A7.of_below (F:=fp) Ty).trans Lg.2.1 (fun _ h=>.inl h)) (fun i hi=>?_);rcases Lg.2.2 i hi with h|h
 ·exact .inl h
 ·exact .inr (Ay Ty.size h)
end
theorem auN{x b:Nat}{gv:Value}{L:BI}{c0 s0 k0:Nat}{s:List UInt8}(hs:s.length≤10000000):
  yc (fun W=>QJ W x b gv L c0 s0 k0 s (s.length / 64)) b
   [.func (.func 145) #[] #[.pointer c0,.pointer s0],.func (.func 143) #[.pointer b] #[],.func (.func 146) #[] #[.pointer c0,.pointer k0],.func (.func 143) #[.pointer b] #[]] (L.acts s):=by
 have J5:afk (fun W=>QJ W x b gv L c0 s0 k0 s (s.length / 64)) b (.func (.func 143) #[.pointer b] #[]) A8.flush:=
  ⟨fun D=>by have:=A8.V7 D;omega,_,_,_,rfl,enters_of func143 (by kernel_rfl) rfl,fun W D fp _ hd hl=>sJ hd (by omega)⟩
 refine⟨rfl,fun i h h'=>?_⟩
 match i,h with
 |0,_=>exact⟨fun D=>by have:=A8.Ux D ((L.from_+1+L.used:Nat):Int) s;show(D.write ((L.from_+1+L.used:Nat):Int) s).1.loose.length≤_;omega,_,_,_,rfl,enters_of func145 (by kernel_rfl) rfl,fun W D fp hK hd hl=>ata hK hd hs hl⟩
 |1,_=>exact J5
 |2,_=>exact⟨fun D=>by have:=A8.Ux D (L.from_:Int) (Aw.mark L.gen (L.used+s.length / 64));rw[Aw.OA] at this;show(D.write (L.from_:Int) (Aw.mark L.gen (L.used+s.length / 64))).1.loose.length≤_;omega,_,_,_,rfl,enters_of func146 (by kernel_rfl) rfl,fun W D fp hK hd hl=>at6 hK hd (by omega) hl⟩
 |3,_=>exact J5
theorem auP{x b:Nat}{gv:Value}{L:BI}{c0:Nat}:
  yc (fun W=>TL W x b gv L c0) b
   [.func (.func 166) #[] #[.pointer c0],.func (.func 143) #[.pointer b] #[]] L.Mw:=by
 refine⟨rfl,fun i h h'=>?_⟩
 match i,h with
 |0,_=>exact⟨fun D=>by have:=A8.Ux D (L.from_:Int) (Aw.mark ((L.gen+1) % 18446744073709551616) 0);rw[Aw.OA] at this;show(D.write (L.from_:Int) (Aw.mark ((L.gen+1) % 18446744073709551616) 0)).1.loose.length≤_;omega,_,_,_,rfl,enters_of func166 (by kernel_rfl) rfl,fun W D fp hK hd hl=>at7 hK hd hl⟩
 |1,_=>exact⟨fun D=>by have:=A8.V7 D;show D.flush.1.loose.length≤_;omega,_,_,_,rfl,enters_of func143 (by kernel_rfl) rfl,fun W D fp _ hd hl=>sJ hd (by omega)⟩
end
section
section
variable {P:Program}{ops:Array Oper}{Q:Exit→Act→World→Prop}{md:Region.Mode}{S:World→Prop}{z:Nat}
def VG(P:Program)(md:Region.Mode)(ops:Array Oper)(Q:Exit→Act→World→Prop)(S:World→Prop)(z:Nat):Nat→Array Bool→Act→World→Prop
 |0,listed,a,w=>Region.ready md ops listed=[]∧Q .normal a w
 |fuel+1,listed,a,w=>(Region.ready md ops listed=[]→Q .normal a w)∧
  ∀ i∈Region.ready md ops listed,wpOp P ops Q i (fun a' w'=>(i≠z→S w')∧VG P md ops Q S z fuel (listed.setIfInBounds i true) a' w') a w
theorem aqj:∀ (fuel:Nat) (listed:Array Bool) (a:Act) (w:World),VG P md ops Q S z fuel listed a w→wpAny P md ops Q fuel listed a w
 |0,_,_,_,h=>h
 |fuel+1,_,_,_,h=>⟨h.1,fun i hi=>wpOp_mono (fun a' w' h'=>aqj fuel _ a' w' h'.2) (h.2 i hi)⟩
def waits(md:Region.Mode)(ops:Array Oper)(z i:Nat):Bool:=match ops[z]? with
 |none=>false
 |some o=>o.after.any fun e=>Region.binds md e && e.on == i
theorem aE1{i:Nat}{o:Oper}(h:waits md ops z i=true)(ho:ops[z]?=some o)(hn:∀ e∈o.after,Region.binds md e=true→e.on≠i):False:=by
 unfold waits at h;rw[ho] at h;obtain⟨e,he,hb⟩:=Array.any_eq_true'.1 h;simp only[Bool.and_eq_true,beq_iff_eq] at hb;exact hn e he hb.1 hb.2
theorem aqi{i:Nat}{oi:Oper}{v:Value}(hi:ops[i]?=some oi)(hz:waits md ops z i=true)(acW:∀ (j:Nat) (o:Oper) cs b,ops[j]?=some o→o.op≠.select cs b)
  (hQ:∀ c a w,Q (.panic c) (a.put oi.dst v) w→Q (.panic c) a w):
  ∀ (fuel:Nat) (listed:Array Bool) (a:Act) (w:World),
   (∀ j oj,ops[j]?=some oj→j≠i→listed.getD j true=false→(∀ e∈oj.after,Region.binds md e=true→e.on≠i)→oi.apart ops oj=true)→
   i∈Region.ready md ops listed→YieldsIf P ops S oi v a→S w→
   VG P md ops Q S z fuel (listed.setIfInBounds i true) (a.put oi.dst v) w→VG P md ops Q S z (fuel+1) listed a w
 |fuel,listed,a,w=>fun aku hr hy hS H=>by
  refine⟨fun h=>(by rw[h] at hr;cases hr),fun j hj=>?_⟩;by_cases fK:j=i
  ·subst fK;exact hy.wpOp hi hS ⟨fun _=>hS,H⟩
  ·obtain⟨akQ,oj,gG,hall⟩:=mem_ready.1 hj;have alm:∀ e∈oj.after,Region.binds md e=true→e.on≠i:=fun e he hb heq=>by
    have h1:=hall e he hb;have h0:=(mem_ready.1 hr).1;rw[heq] at h1;rcases Nat.lt_or_ge i listed.size with h'|h'
    ·simp[h'] at h0 h1;rw[h0] at h1;cases h1
    ·simp[Array.getElem?_eq_none h'] at h1
   have hjz:j≠z:=fun e=>by subst e;exact aE1 hz gG alm
   cases fuel with
   |zero=>
    have h2:=ready_mono hj fK;rw[H.1] at h2;cases h2
   |succ fuel=>
    have h2:=wpOp_putIf gG (aku j oj gG fK akQ alm) (fun cs b=>acW i oi cs b hi) (fun cs b=>acW j oj cs b gG) hQ hy (H.2 j (ready_mono hj fK));refine wpOp_mono (fun a' w' h3=>⟨h3.2.1,aqi hi hz acW hQ fuel (listed.setIfInBounds j true) a' w' (fun k ok hk uK Ug CP=>?_) (ready_mono hr (Ne.symm fK)) h3.1 (h3.2.1 hjz) ?_⟩) h2
    ·refine aku k ok hk uK ?_ CP;by_cases Yy:j=k
     ·subst Yy;exact akQ
     ·rw[getD_set_ne true Yy] at Ug;exact Ug
    ·rw[Array.setIfInBounds_comm _ _ fK];exact h3.2.2
theorem j6{i:Nat}{oi:Oper}{v:Value}{fuel:Nat}{listed:Array Bool}{a:Act}{w:World}(hi:ops[i]?=some oi)(hz:waits md ops z i=true)
  (hs:Region.noSelect ops=true)(hf:Region.free md ops listed i=true)(hr:(Region.ready md ops listed).contains i=true)
  (hQ:∀ c a w,Q (.panic c) (a.put oi.dst v) w→Q (.panic c) a w)(hy:YieldsIf P ops S oi v a)(hS:S w)
  (h:VG P md ops Q S z fuel (listed.setIfInBounds i true) (a.put oi.dst v) w):VG P md ops Q S z (fuel+1) listed a w:=
 aqi hi hz (Region.noSelect_spec hs) hQ fuel listed a w (Region.free_spec hi hf) (by simpa using hr) hy hS h
theorem j5{i:Nat}{o:Oper}{fuel:Nat}{listed:Array Bool}{a:Act}{w:World}(hr:Region.ready md ops listed=[i])(ho:ops[i]?=some o)
  (h:∀ K':Act→World→Prop,Shut (∀ a w,(i≠z→S w)→VG P md ops Q S z fuel (listed.setIfInBounds i true) a w→K' a w)→if Region.wanted o (yielded ops a.tmps)=true then Oper.wp P o a w K' Q else K' (a.put o.dst undef) w):
  VG P md ops Q S z (fuel+1) listed a w:=
 ⟨fun h0=>(by rw[hr] at h0;cases h0),fun j hj=>by
  rw[hr,Fu] at hj;subst hj;exact wpOp_step ho (fun K' hK=>h K' (fun a w hS hW=>hK a w ⟨hS,hW⟩))⟩
theorem aEl{listed:Array Bool}{a:Act}{w:World}(hr:Region.ready md ops listed=[])(h:Q .normal a w):∀ fuel,VG P md ops Q S z fuel listed a w
 |0=>⟨hr,h⟩
 |_+1=>⟨fun _=>h,by rw[hr];simp⟩
theorem aEn{id:Nat}{a:Act}{w:World}(hm:P.follows .mixedOrders=true)(h:VG P .any ops Q S z ops.size (Array.replicate ops.size false) a w.drew):(Code.region id ops true).wp P Q a w:=
 wp_region_any hm (aqj _ _ _ _ h)
end
end
section
open Go.RowKit Go.Maps
open Aw
def ZQ(w:World)(x b:Nat)(gv:Value)(fp:Nat→Prop)(r:A8×BI×Int)(e:Ending)(w':World):Prop:=
 e=.returned (.int .i64 r.2.2)∧∃ fp' FH,BP w' b r.1 fp'∧Cw w' x b FH r.2.1∧A7 (fun k=>fp k∨BZ x gv k) w w'∧Dq fp fp' w∧Dq (BZ x gv) (BZ x FH) w
theorem wJ{w w':World}{x b:Nat}{gv:Value}{fp:Nat→Prop}{D:A8}{L:BI}{k:Int}{r:A8×BI×Int}{e:Ending}(hr:r=(D,L,k))(he:e=.returned (.int .i64 k))(hd:BP w b D fp)(hl:Cw w x b gv L)(hb:Bw w w'):ZQ w x b gv fp r e w':=by
 subst hr;exact⟨he,fp,gv,hd.below hb,hl.below hb,A7.of_below hb,fun _ h=>.inl h,fun _ h=>.inl h⟩
theorem wI{w w':World}{x b:Nat}{gv FH:Value}{fp fp':Nat→Prop}{D:A8}{L:BI}{k:Int}{r:A8×BI×Int}{e:Ending}(hr:r=(D,L,k))(he:e=.returned (.int .i64 k))(hd:BP w' b D fp')(hl:Cw w' x b FH L)(hu:A7 (fun k=>fp k∨BZ x gv k) w w')(hs:Dq fp fp' w)(Ov:Dq (BZ x gv) (BZ x FH) w):ZQ w x b gv fp r e w':=by
 subst hr;exact⟨he,fp',FH,hd,hl,hu,hs,Ov⟩
theorem Dz.upd{F:Nat→Prop}{w w':World}{a:Option Addr}{l:List (List UInt8)}(h:Dz w a l)(hu:A7 F w w')(hF:∀ p,a=some p→l≠[]→¬ F p.block):Dz w' a l:=fun i hi=>by
 obtain⟨p,rfl,hc⟩:=h i hi;have e:(p.add i).block=p.block:=by unfold Addr.add;split<;>rfl
 exact⟨p,rfl,(hu.cell (p:=p.add i) (Cv hc) (by rw[e];exact hF p rfl (fun e=>by subst e;simp at hi))).trans hc⟩
theorem Cw.asl{w:World}{x b:Nat}{gv:Value}{L:BI}(h:Cw w x b gv L){b':Nat}{D:A8}{fp:Nat→Prop}(hd:BP w b' D fp)(k:Nat)(hk:fp k):¬ BZ x gv k:=by
 rintro(rfl|hg)
 ·exact h.apart hd hk
 ·obtain⟨cs,h1,_⟩:=h.groups;have:=hd.kindOf hk (Cx h1 hg)
  revert this;decide
theorem Cw.aCa{w:World}{x b:Nat}{gv:Value}{L:BI}(h:Cw w x b gv L)(u:Nat)(hu:u+1≤L.n):Cw (w.setCell ⟨x,1,none⟩ ↑(u:Int)) x b gv { L with used:=u }:=by
 have X5:A7 (fun i=>i=x) w (w.setCell ⟨x,1,none⟩ ↑(u:Int)):=(A7.refl (fun i=>i=x) w).setCell (p:=⟨x,1,none⟩) (.inl rfl) _;refine⟨Cs w x 1 _ _ _ h.struct,h.groups.upd X5 (fun i hi e=>by subst e;exact Bf.ne hi ⟨_,_,h.struct⟩ (by decide) rfl) (fun g hg e=>h.ne (by rw[hg,e])),h.gen,hu,h.n⟩
section
variable {w:World}{x b:Nat}{gv:Value}{L:BI}{D:A8}{fp:Nat→Prop}{l:List (List UInt8)}{a:Option Addr}{cap:Nat}
theorem agQ(hd:BP w b D fp)(hl:Cw w x b gv L)(hx:Dz w a l)(hlen:l.length≤maxLen)(Df:rowLen l≤1000000)(KL:L.fault≠0∨Ie l=none):
  Calls prog 65 #[x,.slice a l.length cap] w fun e w'=>ZQ w x b gv fp (DN D L l) e w':=by
 have HD:=Hi hd;have HL:=Hi hl;have FO:=Hi hlen;have Ak:=(Ai w.heap.size w).alloc (Ag _) (.cells #[x] 114);have HB1:=Hi Ak;have Gb:=Hi (hl.below Ak);have Qa:=Hi (hx.below Ak);by_cases hf:L.fault=0
 ·have hg:Ie l=none:=KL.resolve_left (fun h=>h hf);have hR:Hid (DN D L l=(D,L,5)):=Hi (by unfold DN;rw[A9 (by simp[hf]),hg]);have hV:Hid (Kc l=([],5)):=Hi (by unfold Kc;rw[hg]);have HF:=Hi hf;clear hd hl hx hlen KL Ak hf hg
  go_in
  go_wp2_with fail;refine(j4 Gb).mono ?_;rw[HF.out];rintro e w1⟨rfl,rfl⟩;go_wp2_with fail;refine(eY l a cap _ Qa FO (by omega)).mono ?_;rw[hV.out];rintro e w1⟨rfl,hb⟩;have HB:=Hi hb;clear hb;go_wp2;go_ret;exact wJ hR.out rfl HD HL ((HB1.trans (HB.mono (by rw[Az];omega))).alloc (Ay (HB1.size) HB.size) _)
 ·have hR:Hid (DN D L l=(D,L,L.fault)):=Hi (by unfold DN;rw[Ae hf]);have Be:(L.fault == 0)=false:=by simp[hf]
  have Ac:(L.fault != 0)=true:=by simp[hf]
  clear hd hl hx hlen KL Ak hf
  go_in
  go_wp2_with fail;refine(j4 Gb).mono ?_;rintro e w1⟨rfl,rfl⟩;go_wp2;go_ret;exact wJ hR.out rfl HD HL HB1.out
theorem asr(hd:BP w b D fp)(hl:Cw w x b gv L)(hx:Dz w a l)(WJ:∀ p,a=some p→l≠[]→¬ fp p.block∧¬ BZ x gv p.block)(hlen:l.length≤1000000)(Df:rowLen l≤1000000)(hf:L.fault=0){s:List UInt8}(hg:Ie l=some s)(Ih:D.loose.length≤400000000)(Pt:L.groups.length≤1000000):
  Calls prog 65 #[x,.slice a l.length cap] w fun e w'=>ZQ w x b gv fp (DN D L l) e w':=by
 have HD:=Hi hd;have HL:=Hi hl;have pM:=Hi WJ;have HF:=Hi hf;have HX:=Hi hx;have Ak:=(Ai w.heap.size w).alloc (Ag _) (.cells #[x] 114);have HB1:=Hi Ak;have MK:=Hi (AU w (.cells #[x] 114));have Gb:=Hi (hl.below Ak);have Qa:=Hi (hx.below Ak);have hV:Hid (Kc l=(s,0)):=Hi (by unfold Kc;rw[hg]);have hR:DN D L l=if L.n -1 -L.used < s.length / 64 then(D,L,4) else
  if(BA (L.acts s) D).2=0 then((BA (L.acts s) D).1,L.grown l (s.length / 64),0) else((BA (L.acts s) D).1,L.fell (BA (L.acts s) D).2,(BA (L.acts s) D).2):=by
  unfold DN;rw[A9 (by simp[hf]),hg]
 have CS:s.length≤1000068:=by have:=abm l;rw[hV.out] at this;have h2:s.length≤rowLen l+68:=this;omega
 have g1:=hl.used;have g2:=hl.n;have FO:=Hi (show l.length≤maxLen by unfold maxLen;omega);clear hd hl WJ Ak hf hg hx;by_cases U3:L.n -1 -L.used < s.length / 64
 ·have HR:=Hi (hR.trans (Ae U3));have hq:(L.n:Int) -1 -(L.used:Int) < (s.length:Int) / 64:=by omega
  have e1:IntKind.i64.wrap ((L.n:Int) -1)=(L.n:Int) -1:=EN _ (by omega);have e2:IntKind.i64.wrap ((L.n:Int) -1 -(L.used:Int))=(L.n:Int) -1 -(L.used:Int):=EN _ (by omega);clear hR U3
  go_in
  go_wp2_with fail;refine(j4 Gb).mono ?_;rw[HF.out];rintro e w1⟨rfl,rfl⟩;go_wp2_with fail;refine(eY l a cap _ Qa FO (by omega)).mono ?_;rw[hV.out];rintro e w1⟨rfl,hb⟩;have HB:=Hi hb;have c0:=IB ((hb.block w.heap.size (Ao MK)).trans MK);have gp:w.heap.size < w1.heap.size:=Ip (Ao MK) hb.size;obtain⟨d0,d1,d2,d3,d4,d5,d6,df⟩:=(Gb.below hb).cells;have Gv:x < w1.heap.size:=Ip (Gb.lt x (.inl rfl)) hb.size;clear hb df d6 d5;go_wp2
  go_quiet (fail)
  go_wp2;go_ret;exact wJ HR rfl HD HL ((((HB1.trans (HB.mono (by rw[Az];omega))).alloc (by omega) _).alloc (by rw[Az];omega) _).trans (FP _ _ |>.mono (by rw[Az,Az];omega)))
 ·have VY:=Hi (hR.trans (A9 U3));have hq:(s.length:Int) / 64≤(L.n:Int) -1 -(L.used:Int):=by omega
  have e1:IntKind.i64.wrap ((L.n:Int) -1)=(L.n:Int) -1:=EN _ (by omega);have e2:IntKind.i64.wrap ((L.n:Int) -1 -(L.used:Int))=(L.n:Int) -1 -(L.used:Int):=EN _ (by omega);have akT:((s.length / 64:Nat):Int)=(s.length:Int) / 64:=by omega
  have HK:=Hi akT;have fT:L.used+s.length / 64+1≤L.n:=by omega
  clear hR U3 akT
  go_in
  go_wp2_with fail;refine(j4 Gb).mono ?_;rw[HF.out];rintro e w1⟨rfl,rfl⟩;go_wp2_with fail;refine(eY l a cap _ Qa FO (by omega)).mono ?_;rw[hV.out];rintro e w1⟨rfl,hb⟩;have HB:=Hi hb;have c0:=IB ((hb.block w.heap.size (Ao MK)).trans MK);have gp:w.heap.size < w1.heap.size:=Ip (Ao MK) hb.size;have Li:=Hi (Gb.below hb);obtain⟨d0,d1,d2,d3,d4,d5,d6,df⟩:=Li.cells;have Gv:x < w1.heap.size:=Li.lt x (.inl rfl);clear hb df d6 d5;go_wp2
  go_quiet (fail)
  go_wp2_with fail;have BQ:QJ (((w1.alloc (.cells #[s] 9)).alloc (.cells #[.int .i64 ((s.length:Int) / 64)] 3)).drewN nq) x b gv L w.heap.size w1.heap.size (w1.heap.size+1) s (s.length / 64):=by
   rw[←HK.out];have ba:Bw w1 (w1.alloc (.cells #[s] 9)):=(Ai _ _).alloc (Ag _) _;have bb:Below (w1.alloc (.cells #[s] 9)).heap.size (w1.alloc (.cells #[s] 9)) ((w1.alloc (.cells #[s] 9)).alloc (.cells #[((s.length / 64:Nat):Int)] 3)):=(Ai _ _).alloc (Ag _) _;have Ac:Bw w1 (((w1.alloc (.cells #[s] 9)).alloc (.cells #[((s.length / 64:Nat):Int)] 3)).drewN nq):=(ba.trans (bb.mono (by rw[Az];omega))).trans ((FP _ nq).mono (by rw[Az,Az];omega));have Rv:=AU w1 (.cells #[s] 9);have KQ:=AU (w1.alloc (.cells #[s] 9)) (.cells #[((s.length / 64:Nat):Int)] 3);rw[Az] at KQ;exact⟨Li.below Ac,(Ac.block w.heap.size gp).trans ((HB.block w.heap.size (Ao MK)).trans MK),(bb.block w1.heap.size (by rw[Az];omega)).trans Rv,KQ⟩
  have De:Bw w (((w1.alloc (.cells #[s] 9)).alloc (.cells #[.int .i64 ((s.length:Int) / 64)] 3)).drewN nq):=(((HB1.trans (HB.mono (by rw[Az];omega))).alloc (by omega) _).alloc (by rw[Az];omega) _).trans ((FP _ nq).mono (by rw[Az,Az];omega));have EB:w1.heap.size+1 < (((w1.alloc (.cells #[s] 9)).alloc (.cells #[.int .i64 ((s.length:Int) / 64)] 3)).drewN nq).heap.size:=by
   show w1.heap.size+1 < ((w1.alloc _).alloc _).heap.size
   rw[Az,Az];omega
  have ES:=Hi BQ;have D6:=Hi De;clear d0 d1 d2 d3 d4 c0 BQ De Gb Li HB1 HB MK Qa hV e1 e2 hq;generalize (((w1.alloc (.cells #[s] 9)).alloc (.cells #[.int .i64 ((s.length:Int) / 64)] 3)).drewN nq)=W2 at*;generalize w1.heap.size=s0 at*;obtain⟨c0,_,c2,_,d1,d2,_⟩:=ES.cells;have Qq:=fun(nq:Nat)=>ahT (w:=(W2.alloc (.cells #[.func (.func 145) #[] #[.pointer w.heap.size,.pointer s0],.func (.func 143) #[.pointer b] #[],.func (.func 146) #[] #[.pointer w.heap.size,.pointer (some ⟨s0+1,0,none⟩)],.func (.func 143) #[.pointer b] #[]] 129)).drewN nq) (g:=W2.heap.size) (n:=4) (cap:=4)
   ((HD.below D6).below ((((Ai _ W2).alloc (Ag _) _).trans ((FP _ nq).mono (by rw[Az];omega))))) (ES.Ed.below ((((Ai _ W2).alloc (Ag _) _).trans ((FP _ nq).mono (by rw[Az];omega))))) (ES.below ((((Ai _ W2).alloc (Ag _) _).trans ((FP _ nq).mono (by rw[Az];omega))))) (fun _ _ _ _ h hd hu=>h.upd hd hu) (auN (by omega)) (fun i u hu=>(E5 W2 _ _ i).trans (by rw[←Dx];exact hu)) ⟨_,_,AU W2 _⟩ rfl (by decide) Ih
  obtain⟨E,k,hr⟩:∃ E k,BA (L.acts s) D=(E,k):=⟨_,_,rfl⟩;have lq:DN D L l=if k=0 then(E,L.grown l (s.length / 64),0) else(E,L.fell k,k):=by rw[VY.out,hr]
  simp only[hr] at Qq;have QO:=Hi Qq;have Fy:=Hi lq;have YT:x < w.heap.size:=HL.lt x (.inl rfl);have aC:=HD.lt;have Zr:=Hi aC;have yJ:=Hi (show ¬ (fp w.heap.size∨w.heap.size=x) from fun hk=>hk.elim (fun h=>by have:=aC _ h;omega) (fun e=>by omega));have jr:=Hi (show ¬ (fp (s0+1)∨s0+1=x) from fun hk=>hk.elim (fun h=>by have:=aC _ h;omega) (fun e=>by omega));clear Qq hr lq aC
  go_region_held3 (fun V=>V.cell? w.heap.size=some (.pointer x)∧V.cell? ⟨x,2,none⟩=some (.pointer b))
   (first|exact⟨c0,d2⟩|exact⟨c3,OU.cells.2.2.1⟩|go_keep)
   (first
    |(go_at_call 148;refine(QO 1).mono ?_;rintro e w3 ⟨rfl,eU,Qp,Hq,Du,Vr⟩;have YN:=(A7.of_below (F:=fun k=>fp k∨k=x) (((Ai _ W2).alloc (Ag _) _).trans ((FP _ 1).mono (by rw[Az];omega)))).trans Du (fun i hi=>.inl hi);have c3:w3.cell? w.heap.size=some (.pointer x):=(YN.cell (p:=⟨w.heap.size,0,none⟩) (Ao ES.box) yJ).trans ES.cells.1;have k3:w3.cell? ⟨s0+1,0,none⟩=some ↑((s.length / 64:Nat):Int):=(YN.cell (p:=⟨s0+1,0,none⟩) (Ao ES.num) jr).trans ES.cells.2.2.1;have OU:=Hi Hq;have PT:=Hi Qp;have MP:=Hi YN;have K7:=Hi Vr;clear Qp Hq Du Vr YN))
  all_goals
   clear c0 c2 d1 d2;have PW:=Hi k3;clear k3;by_cases h0:k=0
   ·subst h0;have HR:=Hi (Fy.trans (Ae rfl));have Hq:Cw w3 x b gv L:=(by have:=OU.out;rwa[Ae rfl] at this);obtain⟨_,d1,_,_,_,d5,_,df⟩:=Hq.cells;have rV:=df 1;have TN:=df 5;have VS:=Hi Hq;have k3:=PW.out;have e3:IntKind.i64.wrap ((L.used:Int)+((s.length / 64:Nat):Int))=(L.used:Int)+((s.length / 64:Nat):Int):=EN _ (by omega);clear df Hq;generalize s.length / 64=kk at*;go_wp2;go_region;all_goals
     go_wp2_with fail;have LH:=(VS.aCa (L.used+kk) (by omega)).below ((Ai _ (w3.setCell ⟨x,1,none⟩ ↑((L.used+kk:Nat):Int))).drew);rw[Int.natCast_add] at LH;have Vh:BP (w3.setCell ⟨x,1,none⟩ (.int .i64 ((L.used:Int)+(kk:Int)))).drew b E eU:=(PT.upd (F:=fun i=>i=x) ((A7.refl (fun i=>i=x) w3).setCell (p:=⟨x,1,none⟩) (.inl rfl) _) (fun i hi e=>VS.apart PT (by rw[←e];exact hi))).below ((Ai _ _).drew);have c4:(w3.setCell ⟨x,1,none⟩ (.int .i64 ((L.used:Int)+(kk:Int)))).drew.cell? w.heap.size=some (.pointer x):=by
      rw[←c3];exact World.cell?_setCell_far _ _ _ _ (by show x≠w.heap.size;omega)
     have Nc:A7 (fun k=>fp k∨k=x) w (w3.setCell ⟨x,1,none⟩ (.int .i64 ((L.used:Int)+(kk:Int)))).drew:=(((A7.of_below (F:=fun k=>fp k∨k=x) D6).trans MP (fun i hi=>.inl hi)).setCell (p:=⟨x,1,none⟩) (.inl (.inr rfl)) _).trans (A7.of_below (F:=fun k=>fp k∨k=x) ((Ai _ _).drew)) (fun i hi=>.inl hi);have H9:=HX.upd Nc (fun p hp hne hk=>hk.elim (pM p hp hne).1 (fun e=>(pM p hp hne).2 (.inl e)));have VT:=Hi LH;have VM:=Hi Vh;have P6:=Hi Nc;have ZL:=Hi H9;clear LH Vh Nc H9 c3 k3 d1 d5 rV TN;generalize (w3.setCell ⟨x,1,none⟩ (.int .i64 ((L.used:Int)+(kk:Int)))).drew=w4 at*;obtain⟨cs,GG,GY,KN,N7⟩:=VT.groups;obtain⟨qg,cg,rfl⟩:=Bp GG;have di:=Hi GG;have QL:=Hi GY;have Xy:=Hi KN;have yB:=Hi N7;obtain⟨_,_,_,_,_,d5,_,df⟩:=VT.cells;have TN:=df 5;obtain⟨i0,Bh,AY,AZ,Bb⟩:=Dy ael;have hne:=VT.ne;have Gv:=VT.lt x (.inl rfl);have Rz:=P6.size;have ak0:w.heap.size < w4.heap.size:=Cv c4;have axM:(Value.slice qg L.groups.length cg).ownBlock≠some w.heap.size:=fun e=>by
      have:=HL.lt _ (.inr e);omega
     clear df GG GY KN N7;have VR:=Hi (fun(V:World) (hb:Bw w4 V)=>(⟨(hb.cell (p:=⟨w.heap.size,0,none⟩) (Cv c4)).trans c4,(hb.cell (p:=⟨x,5,none⟩) Gv).trans d5⟩:(fun V:World=>V.cell? w.heap.size=some (.pointer x)∧V.cell? ⟨x,5,none⟩=some (.slice qg L.groups.length cg)) V));have QT:=Hi (CB d5 TN);have B1:=Hi (show Bw w4 w4.drew from(Ai _ _).drew);clear c4 d5 TN;refine aEn (z:=11) (S:=(fun V:World=>V.cell? w.heap.size=some (.pointer x)∧V.cell? ⟨x,5,none⟩=some (.slice qg L.groups.length cg))) (by kernel_rfl) ?_;refine j6 (i:=0) (oi:=⟨some 71,.load 114 (.tmp 2),114,"wal.go:149",#[],none⟩) (v:=?_) rfl (by kernel_rfl) (by kernel_rfl) (by kernel_rfl) (by kernel_rfl) (fun _ _ _ h=>h) (Or.inl ⟨by rfl,?_⟩) (VR _ B1) ?_
     rotate_left
     ·intro V hV;try dsimp only at hV
      go_simp;all_goals with_reducible rfl
     try simp only[Act.put,np]
     refine j6 (i:=1) (oi:=⟨some 72,.load 114 (.tmp 2),114,"wal.go:149",#[],none⟩) (v:=?_) rfl (by kernel_rfl) (by kernel_rfl) (by kernel_rfl) (by kernel_rfl) (fun _ _ _ h=>h) (Or.inl ⟨by rfl,?_⟩) (VR _ B1) ?_
     rotate_left
     ·intro V hV;try dsimp only at hV
      go_simp;all_goals with_reducible rfl
     try simp only[Act.put,np]
     refine j6 (i:=2) (oi:=⟨some 73,.nilCheck (.tmp 72),0,"wal.go:149",#[⟨1,.data⟩],none⟩) (v:=?_) rfl (by kernel_rfl) (by kernel_rfl) (by kernel_rfl) (by kernel_rfl) (fun _ _ _ h=>h) (Or.inl ⟨by rfl,?_⟩) (VR _ B1) ?_
     rotate_left
     ·intro V hV;try dsimp only at hV
      go_simp;all_goals with_reducible rfl
     try simp only[Act.put,np]
     refine j6 (i:=3) (oi:=⟨some 74,.fieldAddr 224 (.tmp 73) 4,0,"wal.go:149",#[⟨2,.data⟩],none⟩) (v:=?_) rfl (by kernel_rfl) (by kernel_rfl) (by kernel_rfl) (by kernel_rfl) (fun _ _ _ h=>h) (Or.inl ⟨by rfl,?_⟩) (VR _ B1) ?_
     rotate_left
     ·intro V hV;try dsimp only at hV
      go_simp;all_goals with_reducible rfl
     try simp only[Act.put,np]
     refine j6 (i:=4) (oi:=⟨some 75,.load 155 (.tmp 74),155,"wal.go:149",#[⟨3,.data⟩],none⟩) (v:=?_) rfl (by kernel_rfl) (by kernel_rfl) (by kernel_rfl) (by kernel_rfl) (fun _ _ _ h=>h) (Or.inl ⟨by rfl,?_⟩) (VR _ B1) ?_
     rotate_left
     ·intro V hV;try dsimp only at hV
      go_simp;all_goals with_reducible rfl
     try simp only[Act.put,np]
     refine j6 (i:=5) (oi:=⟨some 76,.move (.tmp 1),61,"wal.go:149",#[],none⟩) (v:=?_) rfl (by kernel_rfl) (by kernel_rfl) (by kernel_rfl) (by kernel_rfl) (fun _ _ _ h=>h) (Or.inl ⟨by rfl,?_⟩) (VR _ B1) ?_
     rotate_left
     ·intro V hV;try dsimp only at hV
      go_simp;all_goals with_reducible rfl
     try simp only[Act.put,np]
     refine j5 (i:=6) (o:=⟨some 77,.call ⟨.value (.func 149),#[.tmp 76],#[61]⟩,61,"wal.go:149",#[⟨5,.data⟩],none⟩) (by kernel_rfl) rfl (fun K1 Gs=>?_);go_simp
     go_at_call 149
     refine(apq w4.drew a cap l (ZL.below (Ai _ w4).drew) (by omega)).mono ?_;rintro e w5⟨lv,rfl,YJ,Bl,gB⟩;have B5:=Hi (B1.trans (Bl.mono (Ag _)));obtain⟨ql,cl,rfl⟩:=Bp YJ;have Lm:=Hi (K9.CR YJ);have aqP:=Hi (BD di (ub B5) (fun _ _ f=>f));have dD:=Hi (VT.below B5);have aqQ:=Hi (fun i (h:i < L.groups.length) (h':i < cs.length)=>(yB i h h').upd (ub B5) (fun _ _ f=>f));clear YJ Bl gB;go_simp;refine Gs _ _ (fun _=>VR _ B5) ?_;try simp only[Act.put,np]
     refine j5 (i:=7) (o:=⟨some 78,.buildSlice 155 1 #[(0,.tmp 77)],155,"wal.go:149",#[⟨6,.data⟩],none⟩) (by kernel_rfl) rfl (fun K2 Dm=>?_);go_simp;refine Dm _ _ (fun _=>VR _ (B5.alloc B5.size _)) ?_;try simp only[Act.put,np]
     refine j5 (i:=8) (o:=⟨some 79,.call ⟨.builtin .append,#[.tmp 75,.tmp 78],#[155,155]⟩,155,"wal.go:149",#[⟨4,.data⟩,⟨7,.data⟩,⟨6,.chain⟩],none⟩) (by kernel_rfl) rfl (fun K3 Qk=>?_);refine step_append_lies _ (by rfl) _ _ _ (by rfl) 0 61 i0 _ 1 24 underlying155 Bh AY AZ Bb (by rfl) (by omega) (.slice qg L.groups.length cg) L.groups.length cs (by rfl) (aqP.alloc _) ⟨w5.heap.size,0,none⟩ 1 1 [.slice ql l.length cl] (by rfl) (by rfl) (World.news_of_block (cs:=#[.slice ql l.length cl]) (t:=61) (fr:=(0,0)) (AU w5 _)) (fun u hu=>by rw[Fu] at hu;subst hu;exact Lm.one) (by omega) (by unfold maxLen;omega) (by omega) (AV _) _ (by rfl) ?_;intro gg cap2 w6 alr AJ hat axy;have acz:=dD.ne;have lQ:=(AJ.cell_far ⟨x,5,none⟩ (Ip Gv (Ay B5.size (by rw[Az];omega))) (Ne.symm acz)).trans (((B5.alloc B5.size (.cells #[.slice ql l.length cl] 61)).cell (p:=⟨x,5,none⟩) Gv).trans QT.1);have hf6:=(AJ.frozen_far ⟨x,5,none⟩ (Ip Gv (Ay B5.size (by rw[Az];omega))) (Ne.symm acz)).trans (((B5.alloc B5.size (.cells #[.slice ql l.length cl] 61)).frozen (p:=⟨x,5,none⟩) Gv).trans QT.2);have ajT:=(AJ.cell_far ⟨w.heap.size,0,none⟩ (Ip ak0 (Ay B5.size (by rw[Az];omega))) (Ne.symm axM)).trans (((B5.alloc B5.size (.cells #[.slice ql l.length cl] 61)).cell (p:=⟨w.heap.size,0,none⟩) ak0).trans (VR _ (Ai _ _)).1);have jT:=Hi (CB ajT lQ);have qy:=Hi (dD.pushed Lm QL Xy aqQ ((Ai w5.heap.size w5).alloc (Ag _) _) AJ alr (hat.imp (fun h=>h.symm) (fun h=>by rw[h];rfl)));clear AJ alr hat axy acz ajT
     refine Qk _ _ (fun _=>jT.out) ?_;try simp only[Act.put,np]
     refine j5 (i:=9) (o:=⟨some 80,.nilCheck (.tmp 71),0,"wal.go:149",#[⟨0,.data⟩,⟨0,.phase⟩,⟨1,.phase⟩,⟨2,.phase⟩,⟨3,.phase⟩,⟨4,.phase⟩,⟨5,.phase⟩,⟨6,.phase⟩,⟨7,.phase⟩,⟨8,.phase⟩],none⟩) (by kernel_rfl) rfl (fun K4 l6=>?_);go_simp;refine l6 _ _ (fun _=>jT.out) ?_;try simp only[Act.put,np]
     refine j5 (i:=10) (o:=⟨some 81,.fieldAddr 224 (.tmp 80) 4,0,"wal.go:149",#[⟨9,.data⟩,⟨0,.phase⟩,⟨1,.phase⟩,⟨2,.phase⟩,⟨3,.phase⟩,⟨4,.phase⟩,⟨5,.phase⟩,⟨6,.phase⟩,⟨7,.phase⟩,⟨8,.phase⟩],none⟩) (by kernel_rfl) rfl (fun K5 l7=>?_);go_simp;refine l7 _ _ (fun _=>jT.out) ?_;try simp only[Act.put,np]
     refine j5 (i:=11) (o:=⟨none,.store 155 (.tmp 81) (.tmp 79),0,"wal.go:149",#[⟨10,.data⟩,⟨8,.data⟩,⟨8,.chain⟩,⟨0,.phase⟩,⟨1,.phase⟩,⟨2,.phase⟩,⟨3,.phase⟩,⟨4,.phase⟩,⟨5,.phase⟩,⟨6,.phase⟩,⟨7,.phase⟩,⟨8,.phase⟩],none⟩) (by kernel_rfl) rfl (fun K6 hK6=>?_);go_simp;refine hK6 _ _ (fun h=>absurd rfl h) ?_;try simp only[Act.put,np]
     refine aEl (by kernel_rfl) ?_ _;clear Gs Dm Qk l6 l7 hK6 K1 K2 K3 K4 K5 K6;go_wp2;go_ret;have hs5:=B5.size;refine wI HR rfl (BP.upd (VM.below B5) qy.2.1 (fun k hk=>dD.asl (VM.below B5) k hk)) qy.1 ?_ ?_ ?_
     ·exact((P6.mono (fun i hi=>hi.elim .inl (fun e=>.inr (.inl e)))).trans (A7.of_below (F:=fun k=>fp k∨BZ x (.slice qg L.groups.length cg) k) B5) (fun i hi=>.inl hi)).trans qy.2.1 (fun i hi=>.inl (.inr hi))
     ·intro i hi;rcases K7 i hi with h|h
      ·exact .inl h
      ·exact .inr (Ay D6.size (Ay (by show W2.heap.size≤(W2.alloc _).heap.size;rw[Az];omega) h))
     ·intro i hi;rcases qy.2.2 i hi with h|h
      ·exact .inl h
      ·exact .inr (Ay Rz (Ay hs5 h))
   ·have Ak:(k != 0)=true:=(by simp[h0]);have HR:=Hi (Fy.trans (A9 h0));have VS:Hid (Cw w3 x b gv (L.fell k)):=Hi (by have:=OU.out;rwa[A9 h0] at this);clear h0;go_wp2;go_ret;refine wI HR rfl PT VS.out ?_ ?_ (fun _ h=>.inl h)
    ·exact((A7.of_below (F:=fun k=>fp k∨BZ x gv k) D6).trans MP (fun i hi=>.inl (hi.elim .inl (fun e=>.inr (.inl e)))))
    ·intro i hi;rcases K7 i hi with h|h
     ·exact .inl h
     ·exact .inr (Ay D6.size (Ay (by show W2.heap.size≤(W2.alloc _).heap.size;rw[Az];omega) h))
theorem aso(hd:BP w b D fp)(hl:Cw w x b gv L)(hx:Dz w a l)(WJ:∀ p,a=some p→l≠[]→¬ fp p.block∧¬ BZ x gv p.block)(hlen:l.length≤1000000)(Df:rowLen l≤1000000)(Ih:D.loose.length≤400000000)(Pt:L.groups.length≤1000000):
  Calls prog 65 #[x,.slice a l.length cap] w fun e w'=>ZQ w x b gv fp (DN D L l) e w':=by
 by_cases hf:L.fault=0
 ·cases hg:Ie l with
  |none=>exact agQ hd hl hx (by unfold maxLen;omega) Df (.inr hg)
  |some s=>exact asr hd hl hx WJ hlen Df hf hg Ih Pt
 ·exact agQ hd hl hx (by unfold maxLen;omega) Df (.inl hf)
theorem Cw.aC7{w:World}{x b:Nat}{gv:Value}{L:BI}(h:Cw w x b gv L)(g:Nat)(hg:g < 18446744073709551616):Cw (((w.setCell x (.int .u64 (g:Int))).setCell ⟨x,1,none⟩ (.int .i64 0)).setCell ⟨x,5,none⟩ ↑()) x b ↑() { L with gen:=g,used:=0,groups:=[] }:=by
 have e1:=Cs w x 0 _ _ (.int .u64 (g:Int)) h.struct;have e2:=Cs _ x 1 _ _ (.int .i64 0) e1;have e3:=Cs _ x 5 _ _ ↑() e2;exact⟨e3,Le.none _,hg,by have:=h.used;show 0+1≤L.n;omega,h.n⟩
theorem aon(hd:BP w b D fp)(hl:Cw w x b gv L)(Ih:D.loose.length≤400000000):
  Calls prog 83 #[x] w fun e w'=>ZQ w x b gv fp (DX D L) e w':=by
 have HD:=Hi hd;have HL:=Hi hl;have Ak:=(Ai w.heap.size w).alloc (Ag _) (.cells #[x] 114);have HB1:=Hi Ak;have Gb:=Hi (hl.below Ak);by_cases hf:L.fault=0
 ·have HF:=Hi hf;have WH:DX D L=if(BA L.Mw D).2=0 then((BA L.Mw D).1,L.V4,0) else((BA L.Mw D).1,L.fell (BA L.Mw D).2,(BA L.Mw D).2):=by
   unfold DX;rw[A9 (by simp[hf])]
  have YT:x < w.heap.size:=hl.lt x (.inl rfl);have aC:=hd.lt;have yJ:=Hi (show ¬ (fp w.heap.size∨w.heap.size=x) from fun hk=>hk.elim (fun h=>by have:=aC _ h;omega) (fun e=>by omega));obtain⟨E,k,hr⟩:∃ E k,BA L.Mw D=(E,k):=⟨_,_,rfl⟩;have lq:DX D L=if k=0 then(E,L.V4,0) else(E,L.fell k,k):=by rw[WH,hr]
  have BQ:=TL.of (hl.below Ak) (AU w (.cells #[x] 114));have Qq:=fun(nq:Nat)=>ahT (w:=((w.alloc (.cells #[x] 114)).alloc (.cells #[.func (.func 166) #[] #[.pointer w.heap.size],.func (.func 143) #[.pointer b] #[]] 129)).drewN nq) (g:=(w.alloc (.cells #[x] 114)).heap.size) (n:=2) (cap:=2)
   ((hd.below Ak).below ((((Ai _ _).alloc (Ag _) _).trans ((FP _ nq).mono (by simp only[Az];omega))))) (BQ.Ed.below ((((Ai _ _).alloc (Ag _) _).trans ((FP _ nq).mono (by simp only[Az];omega))))) (BQ.below ((((Ai _ _).alloc (Ag _) _).trans ((FP _ nq).mono (by simp only[Az];omega))))) (fun _ _ _ _ h hd hu=>h.upd hd hu) auP (fun i u hu=>(E5 _ _ _ i).trans (by rw[←Dx];exact hu)) ⟨_,_,AU _ _⟩ rfl (by decide) Ih
  simp only[hr] at Qq;rw[Az] at Qq;have QO:=Hi Qq;have Fy:=Hi lq;have ES:=Hi BQ;have c0:=IB BQ.box;have d2:=BQ.Ed.cells.2.2.1;clear hd hl Ak hf WH aC hr lq BQ Qq
  go_in
  go_wp2_with fail;refine(j4 Gb).mono ?_;rw[HF.out];rintro e w1⟨rfl,rfl⟩;go_wp2
  go_region_held3 (fun V=>V.cell? w.heap.size=some (.pointer x)∧V.cell? ⟨x,2,none⟩=some (.pointer b))
   (first|exact⟨c0,d2⟩|exact⟨c3,OU.cells.2.2.1⟩|go_keep)
   (first
    |(go_at_call 148;refine(QO 1).mono ?_;rintro e w3 ⟨rfl,eU,Qp,Hq,Du,Vr⟩;have YN:=(A7.of_below (F:=fun k=>fp k∨k=x) (((Ai _ (w.alloc (.cells #[x] 114))).alloc (Ag _) _).trans ((FP _ 1).mono (by simp only[Az];omega)))).trans Du (fun i hi=>.inl hi);have c3:w3.cell? w.heap.size=some (.pointer x):=(YN.cell (p:=⟨w.heap.size,0,none⟩) (Ao ES.box) yJ).trans c0;have OU:=Hi Hq;have PT:=Hi Qp;have MP:=Hi ((A7.of_below (F:=fun k=>fp k∨k=x) HB1).trans YN (fun i hi=>.inl hi));have K7:=Hi Vr;clear Qp Hq Du Vr YN))
  all_goals
   clear c0 d2;have Bj:Dq fp eU w:=fun i hi=>by
    rcases K7 i hi with h|h
    ·exact .inl h
    ·exact .inr (Ay (by show w.heap.size≤((w.alloc _).alloc _).heap.size;rw[Az,Az];omega) h)
   have Ba:=Hi Bj;clear Bj;by_cases h0:k=0
   ·subst h0;have HR:=Hi (Fy.trans (Ae rfl));have Hq:Cw w3 x b gv L:=(by have:=OU.out;rwa[Ae rfl] at this);obtain⟨d0,d1,_,_,_,d5,_,df⟩:=Hq.cells;have df0:=df 0;have rV:=df 1;have TN:=df 5;have VS:=Hi Hq;have e3:=aeL L.gen;have JI:(L.gen+1) % 18446744073709551616 < 18446744073709551616:=Nat.mod_lt _ (by decide);have HGM:=Hi (CB JI (show L.V4={ L with gen:=(L.gen+1) % 18446744073709551616,used:=0,groups:=[] } from rfl));clear df Hq JI;generalize (L.gen+1) % 18446744073709551616=g at*;go_wp2;go_region;all_goals
     go_wp2;go_ret;have Mm:A7 (fun i=>i=x) w3 (((w3.setCell x (.int .u64 (g:Int))).setCell ⟨x,1,none⟩ (.int .i64 0)).setCell ⟨x,5,none⟩ ↑()).drew:=((((A7.refl (fun i=>i=x) w3).setCell (p:=⟨x,0,none⟩) (.inl rfl) _).setCell (p:=⟨x,1,none⟩) (.inl rfl) _).setCell (p:=⟨x,5,none⟩) (.inl rfl) _).trans (A7.of_below (F:=fun i=>i=x) ((Ai _ _).drew)) (fun i hi=>.inl hi);refine wI HR rfl (PT.upd Mm (fun i hi e=>VS.apart PT (by rw[←e];exact hi))) (L:=L.V4) (FH:=↑()) (by rw[HGM.2];exact(VS.aC7 g HGM.1).below ((Ai _ _).drew)) ?_ Ba.out ?_
     ·exact(MP.mono (fun i hi=>hi.elim .inl (fun e=>.inr (.inl e)))).trans Mm (fun i hi=>.inl (.inr (.inl hi)))
     ·rintro i (hi|hi)
      ·exact .inl (.inl hi)
      ·simp[Value.ownBlock] at hi
   ·have Ak:(k != 0)=true:=(by simp[h0]);have HR:=Hi (Fy.trans (A9 h0));have VS:Hid (Cw w3 x b gv (L.fell k)):=Hi (by have:=OU.out;rwa[A9 h0] at this);clear h0;go_wp2;go_ret;exact wI HR rfl PT VS (MP.mono (fun i hi=>hi.elim .inl (fun e=>.inr (.inl e)))) Ba (fun _ h=>.inl h)
 ·have hR:Hid (DX D L=(D,L,L.fault)):=Hi (by unfold DX;rw[Ae hf]);have Be:(L.fault == 0)=false:=by simp[hf]
  have Ac:(L.fault != 0)=true:=by simp[hf]
  clear hd hl Ak hf
  go_in
  go_wp2_with fail;refine(j4 Gb).mono ?_;rintro e w1⟨rfl,rfl⟩;go_wp2;go_ret;exact wJ hR.out rfl HD HL HB1.out
