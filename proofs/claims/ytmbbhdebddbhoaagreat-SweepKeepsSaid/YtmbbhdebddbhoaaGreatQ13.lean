/- FilRead2 -/
import Derived.Test.YtmbbhdebddbhoaaGreatQ12
import Derived.Laws.Cover1
import Derived.Sort.Walk0
set_option maxHeartbeats 4000000
set_option maxRecDepth 100000
set_option linter.all false
namespace Go.Proofs.YtmbbhdebddbhoaaGreat
open Tryz
section
open Go.RowKit Go.Maps Go.Sort
open Fil
theorem jg{F:M}{k v:T}(h:∀ p∈F,p.1 < k):put k v F=F++[(k,v)]:=by
 unfold put;rw[filter_all (fun p hp=>by simpa using h p hp),filter_none (fun p hp=>by simpa using List.not_lt.1 (Lp (h p hp)))]
def Lx(F:M):Option T:=F.getLast?.map (·.1)
theorem xC(F:M)(k v:T):Lx (F++[(k,v)])=some k:=by unfold Lx;simp
theorem ai0{F:M}(h:Up F){x:T}(hx:Lx F=some x):∀ p∈F,p.1=x∨p.1 < x:=by
 unfold Lx at hx;obtain⟨q,hq,rfl⟩:=Pb.1 hx;obtain⟨G,rfl⟩:=List.getLast?_eq_some_iff.1 hq;intro p hp;rcases Ee.1 hp with hp|hp
 ·exact .inr ((List.pairwise_append.1 h).2.2 p hp q (by simp))
 ·rw[DT] at hp;subst hp;exact .inl rfl
theorem jh{F:M}(h:Up F){k:T}(hn:mayNext (Lx F) k=true):∀ p∈F,p.1 < k:=by
 intro p hp;cases hl:Lx F with
 |none=>
  unfold Lx at hl;rw[Option.map_eq_none_iff,List.getLast?_eq_none_iff] at hl;subst hl;simp at hp
 |some x=>
  rw[hl] at hn;have hx:x < k:=by simpa[mayNext] using hn
  rcases ai0 h hl p hp with e|e
  ·rw[e];exact hx
  ·exact QE e hx
theorem ai1{F:M}(h:Up F){k v:T}(hn:∀ p∈F,p.1 < k):Up (F++[(k,v)]):=List.pairwise_append.2 ⟨h,P9 _ _,fun a ha b hb=>by rw[DT] at hb;subst hb;exact hn a ha⟩
structure Reading(n:Nat)(s:T)(j:Nat)(F:M)(S:T):Prop where
 up:Up F
 len:F.length=j
 rest:S.length+8*j≤s.length
 eq:readE n none s=(readE (n -j) (Lx F) S).map fun r=>(F++r.1,r.2)
theorem Reading.start(n:Nat)(s:T):Reading n s 0 [] s:=⟨Up.nil,rfl,by omega,by rw[Nat.sub_zero];show _=(readE n none s).map _;cases readE n none s<;>rfl⟩
section
variable {n j:Nat}{s S:T}{F:M}
theorem Reading.ai2(h:Reading n s j F S)(hj:j < n)(hc:cut S=none):readE n none s=none:=by
 rw[h.eq,show n -j=(n -j -1)+1 by omega];simp only[readE,hc];rfl
theorem Reading.ai3(h:Reading n s j F S)(hj:j < n){a r:T}(hc:cut S=some (a,r))(hd:cut r=none):readE n none s=none:=by
 rw[h.eq,show n -j=(n -j -1)+1 by omega];simp only[readE,hc,BI,hd];rfl
theorem Reading.xD(h:Reading n s j F S)(hj:j < n){a r d r2:T}(hc:cut S=some (a,r))(hd:cut r=some (d,r2))(hm:¬ (E9 a d=true∧mayNext (Lx F) a=true)):readE n none s=none:=by
 rw[h.eq,show n -j=(n -j -1)+1 by omega];simp only[readE,hc,BI,hd];rw[Aa hm];rfl
theorem Reading.step(h:Reading n s j F S)(hj:j < n){a r d r2:T}(hc:cut S=some (a,r))(hd:cut r=some (d,r2))(h1:E9 a d=true)(h2:mayNext (Lx F) a=true):Reading n s (j+1) (put a d F) r2:=by
 have hlt:=jh h.up h2;rw[jg hlt];refine⟨ai1 h.up hlt,by rw[Aj,h.len];rfl,?_,?_⟩
 ·have a1:=Pp hc;have a2:=Pp hd;have a3:=h.rest;omega
 ·rw[h.eq,show n -j=(n -j -1)+1 by omega];simp only[readE,hc,BI,hd];rw[Ac ⟨h1,h2⟩,xC,Option.map_map,show n -(j+1)=n -j -1 by omega]
  congr 1
  funext q
  simp
theorem Reading.done(h:Reading n s n F S):readE n none s=some (F,S):=by
 rw[h.eq,Nat.sub_self];simp[readE]
end
def UB(w:World)(s:T)(e:Ending)(w':World):Prop:=
 match Fil.read s with
 |none=>(∃ o,e=.returned (.tuple #[.map o,.bool false]))∧Bw w w'
 |some F=>∃ m,e=.returned (.tuple #[.map (some m),.bool true])∧BJ w' m F∧Bw w w'∧w.heap.size≤m
theorem UC{w w':World}{s:T}{e:Ending}{o:Option Nat}(h:Fil.read s=none)(he:e=.returned (.tuple #[.map o,.bool false]))(hb:Bw w w'):UB w s e w':=by
 unfold UB;rw[h];exact⟨⟨o,he⟩,hb⟩
theorem ai4{w w':World}{s:T}{F:M}{e:Ending}{m:Nat}(h:Fil.read s=some F)(he:e=.returned (.tuple #[.map (some m),.bool true]))(hm:BJ w' m F)(hb:Bw w w')(hn:w.heap.size≤m):UB w s e w':=by
 unfold UB;rw[h];exact⟨m,he,hm,hb,hn⟩
theorem xE{w:World}{base e s:Nat}{v:Value}{n:Nat}{xs:List Value}(h:w.ownsRow base e s v n xs){g:Nat}(hg:v.ownBlock=some g):base≤g:=by
 rcases h.2 with⟨rfl,_⟩|⟨g',cap,cur,rfl,hb,_⟩
 ·simp[Value.ownBlock] at hg
 ·simp[Value.ownBlock] at hg;omega
theorem xG{w w':World}{m base n:Nat}{F:M}{v:Value}{xs:List Value}{t:TypeId}{o:Obj}(hm:BJ (w.alloc o) m F)(hr:w.ownsRow base t 1 v n xs)(hg:(w.alloc o).grownBy w' v.ownBlock):BJ w' m F:=
 hm.kept (hg.block m hm.lt (fun e=>by
  have hb:=(Bi hr e.symm).upd (ub ((Ad w.heap.size w).alloc (Ab _) o)) (fun f=>f);exact hm.BV hb))
theorem ai5(s:T)(w:World)(hs:s.length≤1000000):
  Calls prog 126 #[.string (bs s)] w fun e w'=>UB w s e w':=by
 by_cases h0:s.length < 4
 ·have HN:Hid (Fil.read s=none):=Hi (by unfold Fil.read;rw[Ac h0]);go_enter func126,ntmps126;go_wp2_with fail;go_ret2;exact UC HN rfl (Ad _ _)
 ·have hc4:∀ W,(Instr.slice 9 (.string (bs s)) none (some (.int .i64 4)) none).run prog W=.ok (.string (bs (s.take 4))) W:=fun W=>Ji prog W 9 underlying9 s 4 (by omega)
  have hcf:∀ W,(Instr.slice 9 (.string (bs s)) (some (.int .i64 4)) none none).run prog W=.ok (.string (bs (s.drop 4))) W:=fun W=>Ik prog W 9 underlying9 s 4 (by omega)
  have hl4:(s.take 4).length=4:=by rw[Aw];omega
  have hv:=Crc.Gg (s.take 4);rw[hl4] at hv;have Jj:=Hi (fun(W:World)=>QB (s.take 4) W (by omega) (by omega));have ji:Fil.read s=(readE (Crc.val (s.take 4)) none (s.drop 4)).bind fun r=>if r.2=[] then some r.1 else none:=by unfold Fil.read;rw[Aa h0]
  generalize Crc.val (s.take 4)=v at*;have azX:v < 4294967296:=hv;obtain⟨S0,hS0⟩:=ex (s.drop 4);rw[hS0] at hcf ji;have Fa:=Hi ji;have JJ:=Hi (show S0.length≤1000000 by rw[←hS0,BA];omega);clear hl4 hv ji hS0;have hmm:=@run_makeMap prog;have hb0:Bw w ((w.alloc (.map #[] 0)).alloc (.cells #[] 9)):=((Ad _ _).alloc (Ab _) _).alloc (by simp) _;have hM0:BJ ((w.alloc (.map #[] 0)).alloc (.cells #[] 9)) w.heap.size []:=(BJ.made w).below ((Ad _ _).alloc (Ab _) _);have hR0:((w.alloc (.map #[] 0)).alloc (.cells #[] 9)).ownsRow w.heap.size 9 1 (.slice (some ⟨w.heap.size+1,0,none⟩) 0 0) 0 []:=
   ⟨rfl,.inr ⟨w.heap.size+1,0,#[],rfl,by omega,by have:=Aq (w.alloc (.map #[] 0)) (.cells #[] 9);rwa[Ai] at this,Ab _,Ar _,rfl,rfl⟩⟩
  have HB0:=Hi hb0;have ZJ:=Hi hM0;have Sq:=Hi hR0;clear hb0 hM0 hR0;go_enter func126,ntmps126;go_wp2_with fail;refine(Jj _).mono ?_;rintro e w1⟨rfl,rfl⟩;go_wp2_with fail
  go_loopw [0,7,26] (fun s0 lv i wr=>∃ (j:Nat) (F:M) (S:T) (q:Option Addr) (c:Nat),j≤v∧s0=.string (bs S)∧lv=.slice q F.length c∧i=.int .u64 j∧Reading v S0 j F S∧BJ wr w.heap.size F∧wr.ownsRow w.heap.size 9 1 (.slice q F.length c) F.length (strCells (F.map (·.1)))∧Bw w wr) (fun _ _ i _=>v -(intOf i).toNat)
  case atStart=>exact⟨0,[],S0,_,_,Ar _,rfl,rfl,rfl,Reading.start _ _,ZJ,by rw[List.map_nil,WM];exact Sq.out,HB0⟩
  case round=>
   obtain⟨j,F,S,q,c,hjv,rfl,rfl,rfl,hrd,hm,ast,hb⟩:=hrel;have RX:S.length≤1000000:=(by have:=hrd.rest;have:=JJ.out;omega);have hjb:8*j≤1000000:=(by have:=hrd.rest;have:=JJ.out;omega);have Pt:=Hi hrd;have HM:=Hi hm;have HR:=Hi ast;have HB:=Hi hb;have QP:=hrd.len;have IQ:=Hi QP;clear hrd hm ast hb ZJ Sq HB0 QP hmm;by_cases hj:j < v
   ·cases hc:cut S with
    |none=>
     have HN:Hid (Fil.read s=none):=Hi (by rw[Fa.out,Pt.ai2 hj hc];rfl);have FZ:=Hi hc;clear hc;go_wp2_with fail;refine(vW FZ _ (by omega)).mono ?_;rintro e w2⟨rfl,rfl⟩;go_wp2_with fail;go_ret2;exact UC HN rfl HB.out
    |some ar=>
     obtain⟨a,r⟩:=ar;have hcl:=Pp hc;have FZ:=Hi hc;clear hc;cases hd:cut r with
     |none=>
      have HN:Hid (Fil.read s=none):=Hi (by rw[Fa.out,Pt.ai3 hj FZ hd];rfl);have H9:=Hi hd;clear hd;go_wp2_with fail;refine(ZC FZ _ (by omega)).mono ?_;rintro e w2⟨rfl,hb2⟩;have HB2:=Hi (HB.trans (hb2.mono HB.size));clear hb2;go_wp2_with fail;refine(vW H9 _ (by omega)).mono ?_;rintro e w3⟨rfl,rfl⟩;go_wp2_with fail;go_ret2;exact UC HN rfl HB2.out
     |some dr=>
      obtain⟨d,r2⟩:=dr;have hdl:=Pp hd;have H9:=Hi hd;clear hd;go_wp2_with fail;refine(ZC FZ _ (by omega)).mono ?_;rintro e w2⟨rfl,hb2⟩;have HB2:=Hi hb2;clear hb2;go_wp2_with fail;refine(ZC H9 _ (by omega)).mono ?_;rintro e w3⟨rfl,hb3⟩;have HB3:=Hi (HB2.trans (hb3.mono HB2.size));clear hb3 HB2;go_wp2_with fail;refine(Zz a d false _ (by unfold maxLen;omega) (by unfold maxLen;omega)).mono ?_;rw[show Af.may ⟨a,d,false⟩=E9 a d by unfold Af.may;simp];rintro e w4⟨rfl,hb4⟩;have Ay:=Hi (HB3.trans (hb4.mono HB3.size));clear hb4 HB3;cases hmv:E9 a d with
      |false=>
       have HN:Hid (Fil.read s=none):=Hi (by rw[Fa.out,Pt.xD hj FZ H9 (fun h=>by rw[hmv] at h;cases h.1)];rfl);clear hmv;go_wp2_with fail;go_ret2;exact UC HN rfl (HB.trans (Ay.mono HB.size))
      |true=>
       have Ms:=Hi hmv;have hal:a.length≤32:=(by unfold E9 at hmv;simp at hmv;exact hmv.2.1);have Pv:=Hi (HM.below Ay);have HR4:=Hi (AL HR (ub Ay) (fun _ _ f=>f));clear hmv;rcases List.eq_nil_or_concat F with hF|⟨G,⟨x,y⟩,hF⟩
       ·subst hF;have auC:mayNext (Lx ([]:M)) a=true:=rfl;have Dn:=Hi (Pt.step hj FZ H9 Ms auC);have En:=Hi (jg (v:=d) (jh Pt.up auC));have ai6:=HB.size;have jk:=Ay.size;have hFb:([]:M).length≤1000000:=(by have:=IQ.out;omega);have jl:=Hi (Pv.below ((Ad w4.heap.size w4).alloc (Ab _) (.cells #[.string (bs a)] 9)));clear auC;obtain⟨i0,hi0,hz0,hz1,hz2⟩:=Cz Nr;go_wp2_with (at_builtin;refine wpList_append_own_at _ rfl _ _ 27 rfl w.heap.size 9 i0 _ 1 16 underlying27 hi0 hz0 hz1 hz2 rfl (by decide) _ ([]:M).length _ rfl (HR4.alloc _) ⟨w4.heap.size,0,none⟩ 1 1 [.string (bs a)] rfl rfl (cell_one_new _ _ _) (by simp[Value.oneCell']) (by unfold maxLen;omega) (by omega) (by simp;omega) ?_;intro v' w5 asJ asx _ hat;obtain⟨g',cap',rfl⟩:=ownsRow_succ asJ;have Ei:=Hi (xG jl HR4 asx);obtain⟨w6,hu1,hu2,hu3⟩:=Ei.update a d (by unfold maxLen;omega) (by unfold maxLen;omega);have HO:=Hi asJ;have HG:=Hi asx;have GU:=Hi hu2;have EZ:=Hi hu3;clear asJ asx hat hu2 hu3);have hne:∀ k,(Value.slice (some ⟨g',0,none⟩) (([]:M).length+1) cap').ownBlock=some k→¬ k=w.heap.size:=fun k hk e=>by
         subst e;exact Ei.BV (Bi HO hk)
        have Gu:=AL HO (A7.of_grownBy (F:=fun k=>k=w.heap.size) EZ (fun k e=>by cases e;rfl)) hne;have hb6:Bw w w6:=((HB.trans ((Ay.alloc Ay.size _).mono HB.size)).grown HG (by simp;omega) (fun j hj=>xE HR4 (show(Value.slice q ([]:M).length c).ownBlock=some j from hj))).grown EZ (by have:=HG.size;simp at this;omega) (fun j hj=>by cases hj;exact Ab _);go_roundw
        case rel=>
         refine⟨j+1,_,_,_,_,by omega,rfl,by rw[En.out,Aj];rfl,by simp,Dn,GU,?_,hb6⟩;rw[En.out,Aj,C8]
         show World.ownsRow _ _ _ _ _ (([]:M).length+1) (strCells (([]:M).map (·.1)++[a]))
         rw[Mi];exact Gu
        case measure=>simp[intOf];omega
       ·subst hF;obtain⟨g,rfl⟩:∃ g,q=some ⟨g,0,none⟩:=by
         rcases HR.2 with⟨e1,e2⟩|⟨g,cap,_,e1,_⟩
         ·simp at e2
         ·exact⟨g,by injection e1⟩
        have atE:w4.cell? ⟨g,G.length,none⟩=some (.string (bs x)):=by
         have:=HR4.cells (g:=g) rfl G.length (.string (bs x)) (by rw[List.concat_eq_append,C8,Bg,List.map_nil,Mi,List.getElem?_append_right (by rw[strCells_length];simp),strCells_length];simp);rw[add_plain] at this;exact this
        have UD:(G.concat (x,y)).length=G.length+1:=(by simp);have hix:∀ W,(Instr.indexAt 27 (.slice (some ⟨g,0,none⟩) (G.length+1) c) (.int .i64 (G.length:Int))).run prog W=.ok (.pointer (some ⟨g,G.length,none⟩)) W:=fun W=>by
         have:=Fw prog 27 9 underlying27 1 (by kernel_rfl) ⟨g,0,none⟩ (G.length+1) c G.length (by omega) W;rw[Nat.mul_one,add_plain] at this;exact this
        have hGb:G.length+1≤1000000:=(by have:=IQ.out;rw[UD] at this;omega);have ay4:Lx (G.concat (x,y))=some x:=(by rw[List.concat_eq_append];exact xC G x y);by_cases hxa:x < a
        ·have hbl:Op.bytesLess x a=true:=(by rw[bytesLess_eq];simpa using hxa);have auC:mayNext (Lx (G.concat (x,y))) a=true:=(by rw[ay4];simpa[mayNext] using hxa);clear hxa ay4;have Dn:=Hi (Pt.step hj FZ H9 Ms auC);have En:=Hi (jg (v:=d) (jh Pt.up auC));have ai6:=HB.size;have jk:=Ay.size;have hFb:(G.concat (x,y)).length≤1000000:=(by have:=IQ.out;omega);have jl:=Hi (Pv.below ((Ad w4.heap.size w4).alloc (Ab _) (.cells #[.string (bs a)] 9)));clear auC;obtain⟨i0,hi0,hz0,hz1,hz2⟩:=Cz Nr;have JK:Hid (w4.ownsRow w.heap.size 9 1 (.slice (some ⟨g,0,none⟩) (G.length+1) c) (G.length+1) (strCells ((G.concat (x,y)).map (·.1)))):=Hi (by rw[←UD];exact HR4.out);go_wp2_with (at_builtin;refine wpList_append_own_at _ rfl _ _ 27 rfl w.heap.size 9 i0 _ 1 16 underlying27 hi0 hz0 hz1 hz2 rfl (by decide) _ (G.length+1) _ rfl (JK.alloc _) ⟨w4.heap.size,0,none⟩ 1 1 [.string (bs a)] rfl rfl (cell_one_new _ _ _) (by simp[Value.oneCell']) (by unfold maxLen;omega) (by omega) (by simp;omega) ?_;intro v' w5 asJ asx _ hat;obtain⟨g',cap',rfl⟩:=ownsRow_succ asJ;have Ei:=Hi (xG jl JK asx);obtain⟨w6,hu1,hu2,hu3⟩:=Ei.update a d (by unfold maxLen;omega) (by unfold maxLen;omega);have HO:=Hi asJ;have HG:=Hi asx;have GU:=Hi hu2;have EZ:=Hi hu3;clear asJ asx hat hu2 hu3);have hne:∀ k,(Value.slice (some ⟨g',0,none⟩) (G.length+1+1) cap').ownBlock=some k→¬ k=w.heap.size:=fun k hk e=>by
          subst e;exact Ei.BV (Bi HO hk)
         have Gu:=AL HO (A7.of_grownBy (F:=fun k=>k=w.heap.size) EZ (fun k e=>by cases e;rfl)) hne;have hb6:Bw w w6:=((HB.trans ((Ay.alloc Ay.size _).mono HB.size)).grown HG (by simp;omega) (fun j hj=>xE JK (show(Value.slice (some ⟨g,0,none⟩) (G.length+1) c).ownBlock=some j from hj))).grown EZ (by have:=HG.size;simp at this;omega) (fun j hj=>by cases hj;exact Ab _);go_roundw
         case rel=>
          refine⟨j+1,_,_,_,_,by omega,rfl,by rw[En.out,Aj,UD];rfl,by simp,Dn,GU,?_,hb6⟩;rw[En.out,Aj,UD,C8]
          show World.ownsRow _ _ _ _ _ (G.length+1+1) (strCells ((G.concat (x,y)).map (·.1)++[a]))
          rw[Mi];exact Gu
         case measure=>simp[intOf];omega
        ·have hbl:Op.bytesLess x a=false:=by rw[bytesLess_eq];simpa using hxa
         have HN:Hid (Fil.read s=none):=Hi (by
          rw[Fa.out,Pt.xD hj FZ H9 (fun h=>by have h2:=h.2;rw[ay4] at h2;exact hxa (by simpa[mayNext] using h2))];rfl)
         clear hxa ay4;go_wp2_with fail;go_ret2;exact UC HN rfl (HB.trans (Ay.mono HB.size))
   ·obtain rfl:j=v:=(by omega);have awt:=Pt.done;cases S with
    |nil=>
     have HF:Hid (Fil.read s=some F):=Hi (by rw[Fa.out,awt];rfl);clear awt;go_wp2_with fail;go_ret2;exact ai4 HF rfl HM HB (Ab _)
    |cons u S=>
     have HN:Hid (Fil.read s=none):=Hi (by rw[Fa.out,awt];rfl);clear awt;go_wp2_with fail;go_ret2;exact UC HN rfl HB.out
end
section
open Go.RowKit Go.Maps Go.Sort
open Fil
def Gv(log size Ak b:Nat)(mv:Option Nat)(xv:Option Addr):Array Value:=#[.pointer (some ⟨b,0,none⟩),.int .i64 (log:Int),.int .i64 (size:Int),.int .i64 (Ak:Int),.map mv,.pointer xv,.int .i64 0]
theorem Gw{w:World}{y log size Ak b:Nat}{mv:Option Nat}{xv:Option Addr}(h:w.heap[y]?=some (.cells (Gv log size Ak b mv xv) 113)):
  w.cell? ⟨y,0,none⟩=some (.pointer (some ⟨b,0,none⟩))∧w.cell? ⟨y,1,none⟩=some (.int .i64 (log:Int))∧w.cell? ⟨y,2,none⟩=some (.int .i64 (size:Int))∧w.cell? ⟨y,3,none⟩=some (.int .i64 (Ak:Int))∧
  w.cell? ⟨y,4,none⟩=some (.map mv)∧w.cell? ⟨y,5,none⟩=some (.pointer xv)∧w.cell? ⟨y,6,none⟩=some (.int .i64 0)∧∀ j,w.frozen? ⟨y,j,none⟩=false:=by
 refine⟨?_,?_,?_,?_,?_,?_,?_,fun j=>Cb w y j _ _ h⟩<;>rw[AY w y _ _ _ _ h]<;>rfl
def jm(w:World)(y log size b a num:Nat)(A:M)(e:Ending)(w':World):Prop:=
 ∃ mb,e=.returned (.tuple #[.int .u64 (num:Int),.int .i64 0])∧w'.heap[y]?=some (.cells (Gv log size a b (some mb) none) 113)∧BJ w' mb A∧A7 (fun k=>k=y) w w'∧w.heap.size≤mb
theorem ai8{w:World}{y log size b:Nat}{D:Dsk}{fp:Nat→Prop}(hd:AU w b D fp)(hy:w.heap[y]?=some (.cells (Gv log size 0 b none none) 113))(hup:D.down=false)(h0:D.now 0=Wal.pad [0]):
  Calls prog 52 #[.pointer (some ⟨y,0,none⟩)] w fun e w'=>jm w y log size b 0 0 [] e w':=by
 have jo:=Ae hy;have Ku:=hd.fine;obtain⟨c0,_⟩:=Gw hy;obtain⟨m,lv,hI,_⟩:=hd;have Fa:=Hi (Z9 hI 0 1 hup (by simp[Dsk.inside];have:=Ku.n1;omega));have e1:Dsk.text D.now 0 1=Wal.pad [0]:=by show D.now 0++[]=_;rw[h0,E8]
 rw[e1] at Fa;have HY:=Hi hy;have hmm:=@run_makeMap prog;have hz0:({ data:=#[0] }:ByteArray)=bs [0]:=rfl;clear hI hy Ku h0 e1;go_enter func52,ntmps52;go_wp2_with fail;refine Fa.mono ?_;rintro e w1⟨rfl,hb⟩;have Oe:=Hi ((hb.block y jo).trans HY);obtain⟨_,_,_,_,d4,_,_,df⟩:=Gw Oe.out;have ZO:=df 4;have hy1:=Ae Oe.out;have HB:=Hi hb;clear hb df;go_wp2_with fail;have hss:(w1.setCell ⟨y,4,none⟩ (.map (some w1.heap.size))).heap.size=w1.heap.size:=by simp[World.setCell]
 have hs0:=Bh w1 y 4 _ _ (.map (some w1.heap.size)) Oe.out;have hu0:A7 (fun k=>k=y) w (w1.setCell ⟨y,4,none⟩ (.map (some w1.heap.size))):=(A7.of_below (F:=fun k=>k=y) HB).setCell (p:=⟨y,4,none⟩) (.inl rfl) _;have hm0:=BJ.made (w1.setCell ⟨y,4,none⟩ (.map (some w1.heap.size)));rw[hss] at hm0;have Uz:=Hi hm0;have Bb:=Hi (((Ad _ (w1.setCell ⟨y,4,none⟩ (.map (some w1.heap.size)))).alloc (Ab _) (.map #[] 0)).block y (by rw[hss];exact hy1) |>.trans hs0);have Gx:=Hi (hu0.alloc (.map #[] 0));clear hm0 hs0 hu0 d4 ZO hss;refine(ZB [0] _ (by simp)).mono ?_;rintro e w2⟨rfl,hb2⟩;have HB2:=Hi hb2;clear hb2;go_wp2_with fail;go_ret2;refine⟨w1.heap.size,rfl,(HB2.block y (by simp;omega)).trans Bb,Uz.below HB2,Gx.trans (A7.of_below (F:=fun k=>k=y) HB2) (fun i hi=>.inl hi),HB.size⟩
theorem ai9{w:World}{y log size b:Nat}{D:Dsk}{fp:Nat→Prop}(hd:AU w b D fp)(hy:w.heap[y]?=some (.cells (Gv log size 0 b none none) 113))(hup:D.down=false){a num:Nat}{A:M}{t r:T}(ha:a≤1)(ZP:num < 18446744073709551616)(h0:D.now 0=Fil.mark a num)
  (WC:log≤16384)(aug:size≤8192)(au7:BL log size a+size≤D.n)(hcut:cut (Dsk.text D.now (BL log size a) size)=some (t,r))(azM:Fil.read t=some A):
  Calls prog 52 #[.pointer (some ⟨y,0,none⟩)] w fun e w'=>jm w y log size b a num A e w':=by
 have jo:=Ae hy;have Ku:=hd.fine;obtain⟨c0,_⟩:=Gw hy;have Ha:=Hi hd;obtain⟨m,lv,hI,_⟩:=hd;have Fa:=Hi (Z9 hI 0 1 hup (by simp[Dsk.inside];have:=Ku.n1;omega));have e1:Dsk.text D.now 0 1=Fil.mark a num:=by show D.now 0++[]=_;rw[h0,E8]
 rw[e1] at Fa;have HY:=Hi hy;have hmm:=@run_makeMap prog;have hz0:({ data:=#[0] }:ByteArray)=bs [0]:=rfl;have DU:=Fil.Je a num;have xH:=Fil.vN a num ha;have jq:=Fil.vO a num ZP;have hne:(Fil.mark a num == Wal.pad [0])=false:=by simpa using Fil.Zt a num
 have ahp:∀ W,(Instr.slice 9 (.string (bs (Fil.mark a num))) (some (.int .i64 5)) (some (.int .i64 13)) none).run prog W=.ok (.string (bs (((Fil.mark a num).take 13).drop 5))) W:=fun W=>Um prog W 9 underlying9 (Fil.mark a num) 5 13 (by omega) (by omega)
 have h5l:(((Fil.mark a num).take 13).drop 5).length=8:=by rw[BA,Aw];omega
 have Jj:=Hi (fun(W:World)=>QB (((Fil.mark a num).take 13).drop 5) W (by omega) (by omega));rw[jq] at Jj;have au8:∀ W,(Instr.index 9 (.string (bs (Fil.mark a num))) (.int .i64 4)).run prog W=.ok (.int .u8 (a:Int)) W:=fun W=>by
  have h4:4 < (Fil.mark a num).length:=by omega
  have e4:(Fil.mark a num)[4].toNat=a:=by
   have:=xH.2;rwa[FK,BP h4,Option.getD_some] at this
  rw[run_index_string W 9 (bs (Fil.mark a num)) .i64 4 underlying9,dif_pos ⟨by omega,by simp;omega⟩]
  show Result.ok (Value.int .u8 (((Fil.mark a num)[4]'h4).toNat:Nat)) W=_
  rw[e4]
 have Jk:=Hi (fun(W:World)=>vX a num W ha ZP);have hab:(a:Int)≤1:=by omega
 have HN:=Hi ZP;have jr:=Hi DU;have Nt:=Hi hcut;have Mr:=Hi azM;generalize Fil.mark a num=F0 at*;generalize ((F0.take 13).drop 5)=F5 at*;have aAL:D.inside (BL log size a) size=true:=by simp[Dsk.inside];omega
 have Mj:=Hi (fun(V:World) (h:AU V b D fp)=>(by obtain⟨m2,lv2,hI2,_⟩:=h;exact Z9 hI2 (BL log size a) size hup aAL:Calls prog 120 #[.pointer (some ⟨b,0,none⟩),.int .i64 ((BL log size a:Nat):Int),.int .i64 (size:Int)] V fun e w'=>e=.returned (.tuple #[.string (bs (Dsk.text D.now (BL log size a) size)),.int .i64 0])∧Bw V w'));have htl:(Dsk.text D.now (BL log size a) size).length≤524288:=by rw[Dsk.Wi Ku.now _ _ au7];omega
 have Sr:=Hi (fun(V:World)=>ZC hcut V (by omega));have aib:=Hi (fun(V:World)=>(by have:=ai5 t V (by have:=Pp hcut;omega);unfold UB at this;rw[azM] at this;exact this:Calls prog 126 #[.string (bs t)] V fun e w'=>∃ m,e=.returned (.tuple #[.map (some m),.bool true])∧BJ w' m A∧Bw V w'∧V.heap.size≤m));clear htl aAL;clear hI hy Ku h0 e1 xH jq h5l hcut azM ZP DU;go_enter func52,ntmps52;go_wp2_with fail;refine Fa.mono ?_;rintro e w1⟨rfl,hb⟩;have Oe:=Hi ((hb.block y jo).trans HY);obtain⟨_,_,_,_,d4,_,_,df⟩:=Gw Oe.out;have ZO:=df 4;have hy1:=Ae Oe.out;have HB:=Hi hb;clear hb df;go_wp2_with fail;have hss:(w1.setCell ⟨y,4,none⟩ (.map (some w1.heap.size))).heap.size=w1.heap.size:=by simp[World.setCell]
 have hs0:=Bh w1 y 4 _ _ (.map (some w1.heap.size)) Oe.out;have hu0:A7 (fun k=>k=y) w (w1.setCell ⟨y,4,none⟩ (.map (some w1.heap.size))):=(A7.of_below (F:=fun k=>k=y) HB).setCell (p:=⟨y,4,none⟩) (.inl rfl) _;have Bb:=Hi (show _=some (.cells (Gv log size 0 b (some w1.heap.size) none) 113) from((Ad _ (w1.setCell ⟨y,4,none⟩ (.map (some w1.heap.size)))).alloc (Ab _) (.map #[] 0)).block y (by rw[hss];exact hy1) |>.trans hs0);have Gx:=Hi (hu0.alloc (.map #[] 0));have auP:((w1.setCell ⟨y,4,none⟩ (.map (some w1.heap.size))).alloc (.map #[] 0)).heap.size=w1.heap.size+1:=by rw[Ai,hss]
 have aic:=Hi auP;clear hs0 hu0 d4 ZO hss auP;refine(ZB [0] _ (by simp)).mono ?_;rintro e w2⟨rfl,hb2⟩;have Og:=Hi ((hb2.block y (by rw[aic.out];omega)).trans Bb);have GU:=Hi (Gx.trans (A7.of_below (F:=fun k=>k=y) hb2) (fun i hi=>.inl hi));clear hb2 Bb Gx;obtain⟨_,_,_,d3,_,_,_,df⟩:=Gw Og.out;have Uk:=df 3;clear df;go_wp2_with fail;have hs3:=Bh w2 y 3 _ _ (.int .i64 (a:Int)) Og.out;have hu3:A7 (fun k=>k=y) w (w2.setCell ⟨y,3,none⟩ (.int .i64 (a:Int))):=GU.setCell (p:=⟨y,3,none⟩) (.inl rfl) _;have Mt:=Hi (show _=some (Obj.cells (Gv log size a b (some w1.heap.size) none) 113) from hs3);have EZ:=Hi hu3;clear hs3 hu3 Uk d3 Og GU;generalize w2.setCell ⟨y,3,none⟩ (.int .i64 (a:Int))=w3 at*;refine(Jj _).mono ?_;rintro e w3'⟨rfl,rfl⟩;obtain⟨_,_,_,d3,_⟩:=Gw Mt.out;go_wp2_with fail;refine(Jk _).mono ?_;rintro e w4⟨rfl,hb4⟩;have LA:=Hi ((hb4.block y (Ae Mt)).trans Mt);have Mv:=Hi (EZ.trans (A7.of_below (F:=fun k=>k=y) hb4) (fun i hi=>.inl hi));have HD4:=Hi (Ha.upd Mv (fun k hk e=>by subst e;exact Ha.BV k hk (t:=113) (by decide) (by decide) ⟨_,_,HY⟩));have Oh:=Hi (show w4.drew.heap[y]?=_ from LA.out);have H9:=Hi (HD4.below (Ad w4.heap.size w4).drew);have xI:=Hi (Mv.trans (A7.of_below (F:=fun k=>k=y) (Ad w4.heap.size w4).drew) (fun i hi=>.inl hi))
 have KS:=Hi (fun(V:World) (h:V.heap[y]?=some (Obj.cells (Gv log size a b (some w1.heap.size) none) 113))=>(⟨(Gw h).1,(Gw h).2.1,(Gw h).2.2.1,(Gw h).2.2.2.1⟩:V.cell? ⟨y,0,none⟩=some (.pointer (some ⟨b,0,none⟩))∧V.cell? ⟨y,1,none⟩=some (.int .i64 (log:Int))∧V.cell? ⟨y,2,none⟩=some (.int .i64 (size:Int))∧V.cell? ⟨y,3,none⟩=some (.int .i64 (a:Int))));obtain⟨d0,d1,d2,d3⟩:=KS _ LA.out;clear hb4 EZ Mt;go_wp2_with fail
 go_region_held3 (fun V=>V.cell? ⟨y,0,none⟩=some (.pointer (some ⟨b,0,none⟩))∧V.cell? ⟨y,1,none⟩=some (.int .i64 (log:Int))∧V.cell? ⟨y,2,none⟩=some (.int .i64 (size:Int))∧V.cell? ⟨y,3,none⟩=some (.int .i64 (a:Int)))
  (first|exact KS _ Oh|exact KS _ Fy|exact KS _ JL)
  (first
   |(go_at_call 124;refine(vY _ log size a _ (by omega) (by omega) ha).mono ?_;rintro e w5 ⟨rfl,hb5⟩;have Fy:=Hi ((hb5.block y (Ae Oh)).trans Oh);have HD5:=Hi (H9.below hb5);have QQ:=Hi (xI.trans (A7.of_below (F:=fun k=>k=y) hb5) (fun i hi=>.inl hi));clear hb5)
   |(go_at_call 120;refine(Mj _ HD5).mono ?_;rintro e w6 ⟨rfl,hb6⟩;have JL:=Hi ((hb6.block y (Ae Fy)).trans Fy);have H8:=Hi (QQ.trans (A7.of_below (F:=fun k=>k=y) hb6) (fun i hi=>.inl hi));clear hb6))
 clear d0 d1 d2 d3 Oh H9 xI HD4 LA Mv HD5 Fy QQ KS;go_wp2_with fail;refine(Sr _).mono ?_;rintro e w7⟨rfl,D8⟩;have jv:=Hi ((D8.block y (Ae JL)).trans JL);have UE:=Hi (H8.trans (A7.of_below (F:=fun k=>k=y) D8) (fun i hi=>.inl hi));clear D8 JL H8;go_wp2_with fail;refine(aib _).mono ?_;rintro e w8⟨mb,rfl,Pj,G7,jw⟩;have jy:=Hi ((G7.block y (Ae jv)).trans jv);have WT:=Hi (UE.trans (A7.of_below (F:=fun k=>k=y) G7) (fun i hi=>.inl hi));have Oi:=Hi Pj;have HN8:=Hi (show w.heap.size≤mb from Ah UE.size jw);clear G7 jv UE Pj jw;obtain⟨_,_,_,_,d4,_,_,df⟩:=Gw jy.out;have ZO:=df 4;clear df;go_wp2_with fail;go_ret2;refine⟨mb,rfl,Bh w8 y 4 _ _ _ jy,Oi.upd (A7.setCell (F:=fun k=>k=y) (A7.refl _ _) (p:=⟨y,4,none⟩) (.inl rfl) _) ?_,WT.setCell (p:=⟨y,4,none⟩) (.inl rfl) _,HN8.out⟩;intro e;subst e;exact Oi.BV ⟨_,_,jy⟩
end
end Go.Proofs.YtmbbhdebddbhoaaGreat
