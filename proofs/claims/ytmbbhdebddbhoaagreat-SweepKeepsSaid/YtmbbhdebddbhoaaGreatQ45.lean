/- SwAl SwLaw SwAv SwKe -/
import Derived.Test.YtmbbhdebddbhoaaGreatQ44
set_option maxHeartbeats 8000000
set_option maxRecDepth 100000
set_option linter.all false
namespace Go.Proofs.YtmbbhdebddbhoaaGreat
open Tryz
namespace Hv
open Go.RowKit Go.Maps
open Wal Fil Prs Kp BH Hex Sha Al Mem Dep GL
open Man hiding T
def N7(A:M):M:=(Au A9 A).map fun k=>(k,(getV A9 A k).1)
def Lb(A:M):Us:=(Au A8 A).map fun r=>(r,(getU A r).1)
def Lc(L:List (T×Value)):List Value:=L.flatMap fun x=>[.string (bs x.1),x.2]
theorem apD(L:List (T×Value))(x:T×Value):Lc (L++[x])=Lc L++[.string (bs x.1),x.2]:=by
 unfold Lc;rw[Kk];rfl
theorem apE(L:List (T×Value))(i:Nat)(h:i < L.length):(Lc L)[i*2]?=some (.string (bs L[i].1))∧(Lc L)[i*2+1]?=some L[i].2:=by
 induction L generalizing i with
 |nil=>simp at h
 |cons x L ih=>
  cases i with
  |zero=>exact⟨rfl,rfl⟩
  |succ i=>
   have e:Lc (x :: L)=.string (bs x.1) :: x.2 :: Lc L:=rfl;have h1:=ih i (by simpa using h);rw[e,show(i+1)*2=i*2+1+1 by omega];exact h1
structure Hr(w:World)(base:Nat)(v:Value)(us:Us)(L:List (T×Value)):Prop where
 row:w.ownsRow base 77 2 v L.length (Lc L)
 len:L.length=us.length
 each:∀ i (h:i < L.length) (h2:i < us.length),L[i].1=us[i].1∧Man.AQ w base L[i].2 us[i].2
section
variable {w w':World}{base:Nat}{v:Value}{us:Us}{L:List (T×Value)}
theorem Hr.upd{F:Nat→Prop}(h:Hr w base v us L)(hu:A7 F w w')(h1:∀ k,Ap w k 77→¬ F k)(h2:∀ k,Ap w k 9→¬ F k):Hr w' base v us L:=
 ⟨AL h.row hu (fun k hk e=>h1 k (Bi h.row hk) e),h.len,fun i hi hi2=>⟨(h.each i hi hi2).1,AL (h.each i hi hi2).2 hu (fun k hk e=>h2 k (Bi (h.each i hi hi2).2 hk) e)⟩⟩
theorem Hr.below(h:Hr w base v us L)(hb:Bw w w'):Hr w' base v us L:=h.upd (ub hb) (fun _ _ f=>f) (fun _ _ f=>f)
theorem Hr.at_{q:Option Addr}{n c:Nat}(h:Hr w base (.slice q n c) us L):IJ w q us:=fun i hi=>by
 have hi2:i < L.length:=by rw[h.len];exact hi
 obtain⟨h1,h2⟩:=h.each i hi2 hi;rcases h.row.2 with⟨e0,h0⟩|⟨g,cap,cur,e0,hb,hg,hn,hm,hs,ht⟩
 ·omega
 ·injection e0 with e1 e2 e3
  subst e1;have hc:∀ j,j < 2→∀ v,(Lc L)[i*2+j]?=some v→w.cell? (((⟨g,0,none⟩:Addr).add (i*2)).add j)=some v:=fun j hj v hv=>by
   have e1:(cur.toList.take (L.length*2))[i*2+j]?=(Lc L)[i*2+j]? :=(by rw[ht]);rw[List.getElem?_take,Ac (by omega),CB,hv] at e1;rw[add_plain,Qr];simp only[World.cell?,hg,Fs];simp only[Option.isSome_none,Bool.false_eq_true,if_false];exact e1
  obtain⟨u1,u2⟩:=apE L i hi2;refine⟨_,rfl,?_,?_⟩
  ·have:=hc 0 (by omega) _ u1;rw[add_zero'] at this;rw[←h1];exact this
  ·have h3:=hc 1 (by omega) _ u2;obtain⟨kq,kc,e⟩:=AA h2;rw[add_plain,Qr] at h3;rw[e] at h3 h2;refine⟨kq,kc,?_,CP h2,fun e=>?_⟩
   ·rw[add_plain];exact h3
   ·rcases h2.2 with⟨e4,_⟩|⟨g,cap',cur,e4,_⟩
    ·injection e4
    ·injection e4 with e5 e6 e7
     rw[e] at e5;cases e5
theorem Hr.snoc{w2:World}(h:Hr w base v us L){x:T×Value}{u:T×List T}{v2:Value}(hx:x.1=u.1)(hr:Man.AQ w base x.2 u.2){F:Nat→Prop}(hu:A7 F w w2)(h2:∀ k,Ap w k 9→¬ F k)(ast:w2.ownsRow base 77 2 v2 (L.length+1) (Lc L++[.string (bs x.1),x.2])):Hr w2 base v2 (us++[u]) (L++[x]):=by
 have hk:∀ {s:Value} {l:List T},Man.AQ w base s l→Man.AQ w2 base s l:=fun hs=>AL hs hu (fun k hk e=>h2 k (Bi hs hk) e)
 refine⟨by rw[apD,Aj];exact ast,by rw[Aj,Aj,h.len];rfl,fun i hi hi2=>?_⟩;by_cases e:i < L.length
 ·rw[O3 e,O3 (by rw[←h.len];exact e)];obtain⟨g1,g2⟩:=h.each i e (by rw[←h.len];exact e);exact⟨g1,hk g2⟩
 ·rw[Aj,Ii] at hi;obtain rfl:i=L.length:=by omega
  rw[Qm (Ab _)];have e3:(us++[u])[L.length]'hi2=u:=by
   rw[Qm (by rw[h.len];exact Ab _)];simp[h.len]
  rw[e3];simp only[Nat.sub_self,List.getElem_cons_zero];exact⟨hx,hk hr⟩
end
theorem YL(A:M):(N7 A).length=(Au A9 A).length:=by unfold N7;rw[BQ]
theorem YM(A:M):(Lb A).length=(Au A8 A).length:=by unfold Lb;rw[BQ]
theorem apF(A:M)(k:Nat)(h:k < (Au A9 A).length):(N7 A).take (k+1)=(N7 A).take k++[((Au A9 A)[k],(getV A9 A (Au A9 A)[k]).1)]:=by
 rw[BS (by rw[YL];exact h)]
 congr 2
 unfold N7;rw[List.getElem_map]
theorem apG(A:M)(k:Nat)(h:k < (Au A8 A).length):(Lb A).take (k+1)=(Lb A).take k++[((Au A8 A)[k],(getU A (Au A8 A)[k]).1)]:=by
 rw[BS (by rw[YM];exact h)]
 congr 2
 unfold Lb;rw[List.getElem_map]
theorem apH{w:World}{pm pd y:Nat}{A:M}(hm:DR w pm y)(hd:Ex w pd y)(hf:I8 w y A)(IG:VK A):
  Calls prog 8 #[.pointer (some ⟨pm,0,none⟩),.pointer (some ⟨pd,0,none⟩)] w fun e w'=>∃ v1 v2 L,e=.returned (.tuple #[v1,v2])∧AP w' w.heap.size v1 (N7 A)∧Hr w' w.heap.size v2 (Lb A) L∧Bw w w':=by
 obtain⟨i0,hi0,hz0,hz1,hz2⟩:=Cz LU;obtain⟨j0,hj0,hy0,hy1,hy2⟩:=Cz acU;have HM:=Hi hm;have HD:=Hi hd;have HF:=Hi hf;have Ez:=Hi IG;have FQ:=Hi (show(Au A9 A).length≤1000000 from by rw[JW (K:=A9) hf.up];exact IG.O0);have GX:=Hi (show(Au A8 A).length≤1000000 from by rw[JW (K:=A8) hf.up];exact IG.M6);clear hm hd hf IG;go_enter func8,ntmps8;go_wp2_with fail;refine(bJ HM HF Ez.O0).mono ?_;rintro e w1⟨v1,rfl,hr1,hb1⟩;obtain⟨kq,kc,rfl⟩:=AA hr1;have HR1:=Hi hr1;have HB1:=Hi hb1;clear hr1 hb1;go_wp2_with fail
 go_loopw [6,8] (fun s6 s8 wr=>∃ (k:Nat) (q:Option Addr) (c:Nat),k≤(Au A9 A).length∧s6=.slice q k c∧s8=.int .i64 (k:Int)∧wr.ownsRow w1.heap.size 75 2 (.slice q k c) k (Cj ((N7 A).take k))∧Bw w1 wr) (fun _ s8 _=>(Au A9 A).length -(intOf s8).toNat)
 case atStart=>exact⟨0,none,0,Ar _,rfl,rfl,by rw[FJ,LQ];exact DJ _ _ _ _,Ad _ _⟩
 case round=>
  obtain⟨k,q,c,hk,rfl,rfl,ast,hb⟩:=hrel;have Ce:=Hi ast;have HB:=Hi hb;have HB2:=Hi (HB1.trans (hb.mono HB1.size));have hkl:=FQ.out;clear ast;by_cases hlt:k < (Au A9 A).length
  ·obtain⟨a,hix,c0⟩:=(CP (Bp HR1 hb)).index kc k hlt;have HST:=Hi (apF A k hlt);have axY:=Ez.Y7 _ (BF hlt);have HG:=Hi (mg (HM.below HB2) (HF.below HB2).gets (Au A9 A)[k] (by omega));clear hb;generalize (Au A9 A)[k]=key at*;obtain⟨⟨gv,gis,ge⟩,hgv⟩:=ex (getV A9 A key);rw[hgv] at HST HG;dsimp only at HST HG;clear hgv;go_wp2_with fail;refine HG.mono ?_;rintro e w3⟨rfl,hb3⟩;have c03:=(hb3.cell (Bz c0)).trans c0;have HB3:=Hi (HB.trans (hb3.mono HB.size));have HW3:=Hi (HB2.trans (hb3.mono HB2.size));have Hm:=Hi (AL Ce (ub hb3) (fun _ _ f=>f));clear hb3 c0;go_wp2_with (at_builtin;refine wpList_append_own_at _ rfl _ _ 22 rfl w1.heap.size 75 i0 _ 2 32 underlying22 hi0 hz0 hz1 hz2 rfl (by decide) _ k _ rfl (Hm.alloc _) ⟨w3.heap.size,0,none⟩ 1 1 [.string (bs key),.string (bs gv)] rfl rfl (by intro j u hj;rw[add_plain,CV];exact(CB▸hj)) (by simp[Value.oneCell']) (by unfold maxLen;omega) (by omega) (by have:=HB3.size;simp;omega) ?_;intro v' w4 asJ asx _ hat;obtain⟨g',cap',rfl⟩:=ownsRow_succ asJ;have HO:=Hi asJ;have HG2:=Hi asx;clear asJ asx hat);go_roundw
   case rel=>
    refine⟨k+1,some ⟨g',0,none⟩,cap',by omega,rfl,by go_num,?_,(HB3.alloc HB3.size _).grown HG2 (by rw[Ai];have:=HB3.size;omega) (fun j hj=>CJ Hm hj)⟩;rw[HST.out,NJ];exact HO.out
   case measure=>
    show(Au A9 A).length -((k:Int)+1).toNat < (Au A9 A).length -((k:Int)).toNat
    omega
  ·obtain rfl:k=(Au A9 A).length:=(by omega);have ast:=Ce.out;rw[ET (by rw[YL];exact Ab _)] at ast
   have NR:=Hi (show AP wr w.heap.size (.slice q (Au A9 A).length c) (N7 A) from by
    have h2:=Da ast HB1.size;unfold AP;rw[YL];exact h2)
   clear ast hb Ce;go_wp2_with fail;refine(Y4 (HD.below HB2) (HF.below HB2) Ez.M6).mono ?_;rintro e w5⟨v5,rfl,J5,hb5⟩;obtain⟨rq,rc,rfl⟩:=AA J5;have JK:=Hi J5;have BG:=Hi (HB2.trans (hb5.mono HB2.size));have apJ:=Hi (AL NR (ub hb5) (fun _ _ f=>f));clear J5 hb5 NR HB2 HB;have hrl:=GX.out;go_wp2_with fail
   go_loopw [12,14] (fun s12 qZ wr=>∃ (k:Nat) (q:Option Addr) (c:Nat) (L:List (T×Value)),k≤(Au A8 A).length∧s12=.slice q k c∧qZ=.int .i64 (k:Int)∧Hr wr w5.heap.size (.slice q k c) ((Lb A).take k) L∧Bw w5 wr) (fun _ qZ _=>(Au A8 A).length -(intOf qZ).toNat)
   case atStart=>exact⟨0,none,0,[],Ar _,rfl,rfl,⟨DJ _ _ _ _,by rw[FJ];rfl,fun i hi=>by simp at hi⟩,Ad _ _⟩
   case round=>
    obtain⟨k,q,c,L,hk,rfl,rfl,ast,hb⟩:=hrel;have Ce:=Hi ast;have HB:=Hi hb;have HB2:=Hi (BG.trans (hb.mono BG.size));have JF:=Hi (show L.length=k from by rw[ast.len,Aw,YM];omega);clear ast;by_cases hlt:k < (Au A8 A).length
    ·obtain⟨a,hix,c0⟩:=(CP (Bp JK hb)).index rc k hlt;have HST:=Hi (apG A k hlt);have axY:=Ez.ach _ (BF hlt);have HG:=Hi (abd (HD.below HB2) (HF.below HB2).gets (Au A8 A)[k] (by omega));clear hb;generalize (Au A8 A)[k]=key at*;obtain⟨⟨gv,gis,ge⟩,hgv⟩:=ex (getU A key);rw[hgv] at HST HG;dsimp only at HST HG;clear hgv;go_wp2_with fail;refine HG.mono ?_;rintro e w3⟨kv,rfl,Gz,hb3⟩;obtain⟨r9,ru,rfl⟩:=AA Gz;have c03:=(hb3.cell (Bz c0)).trans c0;have HKV:=Hi (Da Gz HB.size);have HB3:=Hi (HB.trans (hb3.mono HB.size));have Hm:=Hi (Ce.below hb3);have azR:=Hm.row;rw[JF.out] at azR;have VJ:=Hi azR;clear hb3 c0 Gz azR;go_wp2_with (at_builtin;refine wpList_append_own_at _ rfl _ _ 23 rfl w5.heap.size 77 j0 _ 2 40 underlying23 hj0 hy0 hy1 hy2 rfl (by decide) _ k _ rfl (VJ.alloc _) ⟨w3.heap.size,0,none⟩ 1 1 [.string (bs key),.slice r9 gv.length ru] rfl rfl (by intro j u hj;rw[add_plain,CV];exact(CB▸hj)) (by simp[Value.oneCell']) (by unfold maxLen;omega) (by omega) (by have:=HB3.size;simp;omega) ?_;intro v' w4 asJ asx _ hat;obtain⟨g',cap',rfl⟩:=ownsRow_succ asJ;have HO:=Hi asJ;have HG2:=Hi asx;clear asJ asx hat);go_roundw
     case rel=>
      refine⟨k+1,some ⟨g',0,none⟩,cap',L++[(key,.slice r9 gv.length ru)],by omega,rfl,by go_num,?_,(HB3.alloc HB3.size _).grown HG2 (by rw[Ai];have:=HB3.size;omega) (fun j hj=>CJ VJ hj)⟩;rw[HST.out];exact Hm.snoc (x:=(key,.slice r9 gv.length ru)) (u:=(key,gv)) rfl HKV (((A7.refl (fun j=>(Value.slice q k c).ownBlock=some j) w3).alloc _).trans (A7.of_grownBy (F:=fun j=>(Value.slice q k c).ownBlock=some j) HG2 (fun j e=>e)) (fun _ f=>.inl f)) (fun j hj e=>Ap.ne hj (Bi VJ e) (by decide) rfl) (by rw[JF.out];exact HO.out)
     case measure=>
      show(Au A8 A).length -((k:Int)+1).toNat < (Au A8 A).length -((k:Int)).toNat
      omega
    ·obtain rfl:k=(Au A8 A).length:=(by omega);have ast:=Ce.out;rw[ET (by rw[YM];exact Ab _)] at ast
     have HUR:=Hi (show Hr wr w.heap.size (.slice q (Au A8 A).length c) (Lb A) L from
      ⟨Da ast.row BG.size,ast.len,fun i hi hi2=>⟨(ast.each i hi hi2).1,Da (ast.each i hi hi2).2 BG.size⟩⟩)
     have apM:=Hi (AL apJ (ub hb) (fun _ _ f=>f));clear ast hb Ce;go_wp2_with fail;go_ret2;exact⟨_,_,L,rfl,apM,HUR,HB2⟩
end Hv
namespace Hv
open Fil Kp BH Hex Mem Dep GL
open Man hiding T
theorem fq{A:M}{k v:T}(h:Ct A9 A k=some v):getV A9 A k=(v,true,0):=by
 unfold getV;rw[Aa,h];rintro⟨_,h2⟩;unfold Ct at h;cases hf:fileOf A9 A (A9.nm k) with
 |none=>rw[hf] at h;cases h
 |some l=>rw[hf] at h2;cases h2
variable {n:Nat}{A:M}{roots:List T}
theorem apN(hm:BH.May n A)(k:T)(h:FE both A roots k):FE both (CY both A (Au A8 A)) roots k∧mV both (CY both A (Au A8 A)) k=mV both A k:=by
 obtain⟨r,hr,hin,hk⟩:=h;have hr2:r∈Au A8 A:=hr;have hd:dV both (CY both A (Au A8 A)) r=dV both A r:=by rw[aL Ep hm,Ac hr2]
 refine⟨⟨r,?_,hin,?_⟩,?_⟩
 ·rw[aM Ep (MG Ep hm),hd];exact(aM Ep hm r).1 hr
 ·rw[lh hd];exact hk
 ·rw[Rb Ep hm,Ac ⟨r,hr,hr2,hk⟩]
theorem apO(hm:BH.May n A)(k:T)(h:FE both A roots k):mV both (CY both (CY both (CY both A (Au A8 A)) roots) roots) k=mV both A k:=by
 obtain⟨h1,h2⟩:=apN hm k h;have hm1:BH.May n (CY both A (Au A8 A)):=MG Ep hm;have hm2:BH.May n (CY both (CY both A (Au A8 A)) roots):=MG Ep hm1;rw[Rb Ep hm2,Ac ((ll Ep hm1 k).2 h1),Rb Ep hm1,Ac h1,h2]
theorem apP{A':M}(hu:Up A)(ayy:∀ k,FE both A roots k→mV both A' k=mV both A k):∀ u∈Lb A,u.1∈roots→∀ p∈N7 A,p.1∈u.2→getV A9 A' p.1=(p.2,true,0):=by
 intro u hu1 hin p hp hpu;obtain⟨r,hr,rfl⟩:=AV.1 hu1;obtain⟨k,hk,rfl⟩:=AV.1 hp;obtain⟨v,hv⟩:=JD.1 ((LP J3 hu k).1 hk);have h1:FE both A roots k:=⟨r,hr,hin,by rw[←Y8 hu hr];exact hpu⟩;have h2:Ct A9 A' k=some v:=by
  have:=ayy k h1;rw[show mV both A k=some v from hv] at this;exact this
 rw[fq h2]
 show _=((getV A9 A k).1,true,0)
 rw[fq hv]
end Hv
namespace Hv
open Wal Fil Prs Kp BH Hex Sha Al Mem Dep GL
open Man hiding T
theorem apR{l:List T}(h:∀ t∈l,t.length≤65535):∃ a,textsE l=some a:=by
 induction l with
 |nil=>exact⟨[],rfl⟩
 |cons x l ih=>
  obtain⟨a,ha⟩:=ih (fun t ht=>h t (Dh _ ht));have hx:=h x Cc;have e:∃ b,CO x=some b:=by
   unfold CO;rw[Ac hx];exact⟨_,rfl⟩
  obtain⟨b,hb⟩:=e;exact⟨b++a,by simp only[textsE];rw[hb,ha];rfl⟩
theorem Xv{l:M}{t:T}(h:t∈flat l):∃ p∈l,t=p.1∨t=p.2:=by
 unfold flat at h;obtain⟨p,hp,hm⟩:=JE.1 h;refine⟨p,hp,?_⟩;simpa using hm
theorem apS{l:M}(h:BO l≤60000):(Bc l).isSome=true:=by
 have hl:4*l.length+(l.map fun p=>p.2.length).sum≤BO l:=Yf l
 obtain⟨a,ha⟩:=apR (l:=flat l) (fun t ht=>by
  obtain⟨p,hp,e⟩:=Xv ht;have:=pK hp;rcases e with rfl|rfl<;>omega)
 have h2:=Pk ha;rw[dM] at h2;unfold Bc DX;rw[Ac (by omega),ha];simp only[Dm,BI];rw[Ac (by rw[Aj,Crc.Be];omega)];rfl
theorem apT(K:Kind)(l:M)(name:T):BO (AR K l name)≤BO l:=by
 have h:=aee K [name] (by simp) l;simpa using h
theorem ry{K:Kind}{l:M}(h:BO l≤60000):Fits K l:=fun j hj=>
 apS (Ah (apT K _ _) (Ah (qX l (j+1)) h))
theorem aer{K:Kind}(hK:K.Bf){n:Nat}{A l:M}(hu:Up A)(h:BO l≤60000)(hr:used A+(31*l.length+BO l)≤Br n):EG K n A l=(0,made A (DF K l)):=by
 rw[nM hK (ry h),Aa];have h1:=PG hu (DF K l);have h2:=YG hK l;omega
def P7(l:M)(k:T):Option T:=(l.reverse.find? fun p=>p.1 == k).map (·.2)
theorem aes(l:M)(p:T×T)(k:T):P7 (l++[p]) k=if p.1=k then some p.2 else P7 l k:=by
 unfold P7;rw[List.reverse_append,List.reverse_singleton,List.singleton_append,List.find?_cons];by_cases e:p.1=k
 ·rw[Ac e];simp[e]
 ·rw[Aa e];have:(p.1 == k)=false:=Fq.2 e;rw[this]
theorem aet{K:Kind}(l:M)(k:T):Fil.get (AR K l (K.nm k)) k=P7 l k:=by
 induction l using OU with
 |h0=>rfl
 |h1 l p ih=>
  rw[Js,aes];have hu:=NU (K:=K) l (K.nm k);by_cases e:p.1=k
  ·rw[Ac e,Ac (by rw[e]),get_put hu,Ac e.symm]
  ·rw[Aa e];split
   ·rw[get_put hu,Aa (fun h=>e h.symm)];exact ih
   ·exact ih
theorem aeu{K:Kind}{A l:M}(hu:Up A)(hno:∀ k,Fil.get A (K.nm k)=none)(hok:∀ p∈l,K.ok p=true)(hf:Fits K l)(k:T):Ct K (made A (DF K l)) k=P7 l k:=by
 rw[←cz hu];unfold Ct;rw[dP hu hno hok hf];by_cases h:K.nm k∈l.map fun p=>K.nm p.1
 ·rw[Ac h];exact aet l k
 ·rw[Aa h,←aet (K:=K),XY h];rfl
theorem apU{K K':Kind}(hK:∀ k,K.ours (K.nm k)=true)(hK':∀ k,K'.ours (K'.nm k)=true)(hd:∀ x,K.ours x=true→K'.ours x=true→False){A:M}(hu:Up A)(l:M)(k:T):Ct K' (made A (DF K l)) k=Ct K' A k:=by
 have h:K'.nm k∉l.map fun p=>K.nm p.1:=fun hm=>by
  obtain⟨p,_,e⟩:=AV.1 hm;exact hd (K.nm p.1) (hK p.1) (by rw[e];exact hK' k)
 unfold Ct fileOf;rw[nK hu,Aa h]
theorem rz{K:Kind}(hK:K.Bf){A:M}(hu:Up A){L:List T}(hL:GI L)(h:∀ k,k∈L↔(Ct K A k).isSome=true):Au K A=L:=
 LK akl hL (fun k=>by rw[LP hK hu,h])
theorem apV{n:Nat}{A:M}(h:used A≤Br n):DN n A []=A:=by
 unfold DN;split<;>rfl
def Jw:M:=[([97],[]),([98],[]),([99],[]),([100],[52])]
def Jy:Us:=[([114],[[97],[98]]),([115],[[98],[99]])]
def RB:M:=made [] (DF A9 Jw)
def CG:M:=made RB (DF A8 (AJ Jy))
theorem fu:BO Jw=21:=by decide
theorem fw:BO (AJ Jy)≤1000:=Ah (aem Jy) (by decide)
theorem rA:2000≤Br 200:=by decide
theorem YN:Up RB:=Up.made Up.nil _
theorem aev:used RB≤200:=by
 have h1:=PG Up.nil (DF A9 Jw);have h2:=YG J3 Jw;have h3:=fu;have h4:Jw.length=4:=rfl;have h5:used ([]:M)=4:=rfl;unfold RB;omega
theorem aew:EG A9 200 [] Jw=(0,RB):=aer J3 Up.nil (by rw[fu];omega) (by
 have h3:=fu;have h4:Jw.length=4:=rfl;have h5:used ([]:M)=4:=rfl;have:=rA;omega)
theorem fA:J6 Jy:=fun u hu=>by
 have hr:∀ a b:T,a < b→Az [a,b]=[a,b]:=fun a b h=>az (Gd.2 ⟨fun x hx=>by rw[DT.1 hx];exact h,P9 _ _⟩)
 rcases AZ.1 hu with rfl|hu
 ·show(BK (Az [[97],[98]])).2=0
  rw[hr _ _ (by decide)];decide
 ·rcases AZ.1 hu with rfl|hu
  ·show(BK (Az [[98],[99]])).2=0
   rw[hr _ _ (by decide)];decide
  ·cases hu
theorem apW:F9 200 RB Jy=(0,CG):=by
 unfold F9;rw[Ac fA];refine aer FH YN (Ah fw (by omega)) ?_;have h1:=fw;have h2:=aev;have h3:=rA;have h4:(AJ Jy).length=2:=rfl;omega
theorem apX:used CG≤Br 200:=by
 have h1:=PG YN (DF A8 (AJ Jy));have h2:=YG FH (AJ Jy);have h3:=fw;have h4:(AJ Jy).length=2:=rfl;have h5:=aev;have h6:=rA;unfold CG;omega
theorem apY:VR 200 Jw Jy []=CG:=by
 unfold VR;rw[aew]
 show DN 200 (F9 200 RB Jy).2 []=CG
 rw[apW];exact apV apX
theorem fB(k:T):Ct A9 CG k=P7 Jw k:=by
 unfold CG;rw[apU FH.SV J3.SV (fun x h1 h2=>Ep.apart x h2 h1) YN];exact aeu Up.nil (fun _=>rfl) (fun _ _=>rfl) (ry (by rw[fu];omega)) k
theorem rC(r:T):Ct A8 CG r=P7 (AJ Jy) r:=by
 have hno:∀ k,Fil.get RB (A8.nm k)=none:=fun k=>by
  have h:=acN (n:=200) FH J3 (fun x h1 h2=>Ep.apart x h2 h1) Up.nil (fun _=>rfl) Jw k;rw[aew] at h;exact h
 exact aeu YN hno (pQ fA) (ry (Ah fw (by omega))) r
theorem aex:Up CG:=Up.made YN _
theorem rD(l:M)(k:T):(P7 l k).isSome=true↔k∈l.map (·.1):=by
 induction l using OU with
 |h0=>simp[P7]
 |h1 l p ih=>
  rw[aes,C8,Ee];by_cases e:p.1=k
  ·rw[Ac e];simp[e]
  ·rw[Aa e,ih];simp only[Bg,List.map_nil,DT];exact⟨fun h=>.inl h,fun h=>h.elim id (fun h=>absurd h.symm e)⟩
theorem aey:Au A9 CG=[[97],[98],[99],[100]]:=rz J3 aex (by unfold GI;decide) (fun k=>by rw[fB,rD];rfl)
theorem rE:Au A8 CG=[[114],[115]]:=rz FH aex (by unfold GI;decide) (fun k=>by rw[rC,rD];rfl)
theorem aez(a b:T)(h:a < b):Az [a,b]=[a,b]:=az (Gd.2 ⟨fun x hx=>by rw[DT.1 hx];exact h,P9 _ _⟩)
theorem aeA:JX both CG [114]=[[97],[98]]:=by
 have h:dV both CG [114]=some (BK (Az [[97],[98]])).1:=by
  show Ct A8 CG [114]=_
  rw[rC];rfl
 unfold JX;rw[h,BI,pO (fA _ Cc),aez _ _ (by decide)];rfl
theorem aeB:JX both CG [115]=[[98],[99]]:=by
 have h:dV both CG [115]=some (BK (Az [[98],[99]])).1:=by
  show Ct A8 CG [115]=_
  rw[rC];rfl
 unfold JX;rw[h,BI,pO (fA _ (Dh _ Cc)),aez _ _ (by decide)];rfl
theorem fC(roots:List T)(k:T):FE both CG roots k↔(([114]:T)∈roots∧k∈([[97],[98]]:List T))∨(([115]:T)∈roots∧k∈([[98],[99]]:List T)):=by
 have hr:FD both CG=[[114],[115]]:=rE;unfold FE;rw[hr];constructor
 ·rintro⟨r,h1,h2,h3⟩;rcases AZ.1 h1 with rfl|h1
  ·rw[aeA] at h3;exact .inl ⟨h2,h3⟩
  ·rw[DT.1 h1] at h2 h3;rw[aeB] at h3;exact .inr ⟨h2,h3⟩
 ·rintro(⟨h1,h2⟩|⟨h1,h2⟩)
  ·exact⟨[114],by simp,h1,by rw[aeA];exact h2⟩
  ·exact⟨[115],by simp,h1,by rw[aeB];exact h2⟩
theorem aeC{roots:List T}(h:([114]:T)∉roots)(h2:([115]:T)∈roots):F7 both CG roots=[[114]]:=by
 unfold F7;rw[show FD both CG=[[114],[115]] from rE];simp[h,h2]
theorem aeD{roots:List T}(h:([114]:T)∉roots)(h2:([115]:T)∈roots):DY both CG roots=[[97],[100]]:=by
 unfold DY;rw[show Jn both CG=[[97],[98],[99],[100]] from aey];have e:∀ k,decide (¬ FE both CG roots k)=decide (¬ k∈([[98],[99]]:List T)):=fun k=>decide_eq_decide.2 (by rw[fC];simp[h,h2])
 simp only[e];decide
theorem apZ:Ra both CG=[[100]]:=by
 unfold Ra;rw[show Jn both CG=[[97],[98],[99],[100]] from aey];have hu:∀ k,Used both CG k↔k∈([[97],[98],[99]]:List T):=fun k=>by
  have hr:FD both CG=[[114],[115]]:=rE;have h:=fC [[114],[115]] k;have e:Used both CG k↔FE both CG [[114],[115]] k:=by
   unfold Used FE;rw[hr];exact⟨fun⟨r,h1,h2⟩=>⟨r,h1,h1,h2⟩,fun⟨r,h1,_,h2⟩=>⟨r,h1,h2⟩⟩
  rw[e,h];simp;constructor
  ·rintro((h|h)|(h|h))<;>simp[h]
  ·rintro(h|h|h)<;>simp[h]
 have e:∀ k,decide (¬ Used both CG k)=decide (¬ k∈([[97],[98],[99]]:List T)):=fun k=>decide_eq_decide.2 (by rw[hu])
 simp only[e];decide
theorem aq0:GM CG [[97],[100]]=3:=by
 have h1:getV A9 CG [97]=([],true,0):=fq (by rw[fB];rfl);have h2:getV A9 CG [100]=([52],true,0):=fq (by rw[fB];rfl);unfold GM;simp[h1,h2]
theorem aq1{n:Nat}(hm:BH.May n CG){roots:List T}(h:([114]:T)∉roots)(h2:([115]:T)∈roots):Au A9 (CY both CG roots)=[[98],[99]]:=
 rz J3 (MG (roots:=roots) Ep hm).up (by unfold GI;decide) (fun k=>by
  have e:Ct A9 (CY both CG roots) k=if FE both CG roots k then mV both CG k else none:=Rb Ep hm k
  have e2:mV both CG k=P7 Jw k:=fB k;rw[e,e2];by_cases hk:k∈([[98],[99]]:List T)
  ·rw[Ac ((fC roots k).2 (.inr ⟨h2,hk⟩)),rD];simp only[hk,true_iff];rcases AZ.1 hk with rfl|hk
   ·decide
   ·rw[DT.1 hk];decide
  ·rw[Aa (fun g=>by
    rcases(fC roots k).1 g with⟨g1,_⟩|⟨_,g2⟩
    ·exact h g1
    ·exact hk g2)]
   simp[hk])
end Hv
namespace Hv
open Go.RowKit Go.Maps
open Wal Fil Prs Kp BH Hex Sha Al Mem Dep GL
open Man hiding T
theorem rF{w:World}{q:Option Addr}{cap:Nat}{l:List T}(x:T)(h:BB w q l)(hl:l.length≤1000000000):
  Calls prog 12 #[.slice q l.length cap,.string (bs x)] w fun e w'=>e=.returned (.bool (decide (x∈l)))∧w=w':=by
 have H:=Hi h;clear h;go_enter func12,ntmps12;go_wp2_with fail
 go_loop [5] (fun i=>∃ k:Nat,k≤l.length∧i=.int .i64 (k:Int)∧x∉l.take k) (fun i=>l.length -(intOf i).toNat)
 case atStart=>exact⟨0,Ar _,rfl,by simp⟩
 case round=>
  obtain⟨k,hk,rfl,hno⟩:=hrel;have Dc:=Hi hno;clear hno;by_cases hlt:k < l.length
  ·obtain⟨a,hix,c0⟩:=H.index cap k hlt;have HS:=Hi (show l.take (k+1)=l.take k++[l[k]] from BS hlt);have HM:=Hi (BF hlt);generalize l[k]=t at*;by_cases e:t=x
   ·subst e;have hv:=Hi (Gs HM.out);go_wp2_with fail;go_ret;exact⟨by rw[hv.out];rfl,rfl⟩
   ·have Tw:(t == x)=false:=Fq.2 e;go_wp2_with fail
    go_round
    case rel=>exact⟨k+1,by omega,by go_num,by rw[HS.out];intro f;rcases Ee.1 f with f|f;exact Dc f;simp at f;exact e f.symm⟩
    case measure=>simp[intOf];omega
  ·obtain rfl:k=l.length:=(by omega);have hno:=Dc.out;rw[Ck] at hno;have hv:=Hi (Ma hno);clear hno;go_wp2_with fail;go_ret;exact⟨by rw[hv.out];rfl,rfl⟩
theorem aq2{w:World}{qa qu qr:Option Addr}{ca cu cr:Nat}{was:M}{us:Us}{roots:List T}{pm y:Nat}{A:M}(ha:Av w qa was)(hu:IJ w qu us)(hr:BB w qr roots)(hal:was.length≤1000000)(EW:us.length≤1000000)(hrl:roots.length≤1000000)(hkl:∀ u∈us,u.2.length≤1000000)(hwl:∀ p∈was,p.1.length≤1000000)
  (hm:DR w pm y)(hg:Man.JR w y A)(hk:∀ u∈us,u.1∈roots→∀ p∈was,p.1∈u.2→getV A9 A p.1=(p.2,true,0)):
  Calls prog 14 #[.slice qa was.length ca,.slice qu us.length cu,.slice qr roots.length cr,.pointer (some ⟨pm,0,none⟩)] w fun e w'=>e=.returned (.bool true)∧Bw w w':=by
 have HA:=Hi ha;have HU:=Hi hu;have HR:=Hi hr;have FQ:=Hi hkl;have R3:=Hi hwl;have HM:=Hi hm;have HG:=Hi hg;have HK:=Hi hk;clear ha hu hr hkl hwl hm hg hk;go_enter func14,ntmps14;go_wp2_with fail
 go_loopw [9] (fun i wr=>∃ k:Nat,k≤us.length∧i=.int .i64 (k:Int)∧Bw w wr) (fun i _=>us.length -(intOf i).toNat)
 case atStart=>exact⟨0,Ar _,rfl,Ad _ _⟩
 case round=>
  obtain⟨k,hk,rfl,hb⟩:=hrel;have HB:=Hi hb;by_cases hlt:k < us.length
  ·obtain⟨q1,ahZ,hq1⟩:=(HU.below hb).index cu k hlt;obtain⟨kq,kc,d1,hkt,_⟩:=hq1.keys;have d0:=hq1.run;have Wt:=Hi hq1;have auV:=BF hlt;have rG:=Hi (HK _ auV);have Q0:=FQ _ auV;have U7:=Hi (fun(W:World) (hW:Bw w W)=>rF (cap:=cr) us[k].1 (HR.below hW) (by omega));have qp:=Hi hkt;clear hb hkt auV hq1;generalize us[k]=u at*;by_cases hin:u.1∈roots
   ·have aq3:=Hi (rG hin);rw[Gs hin] at U7;clear hin rG;go_wp2_with fail;refine(U7 _ HB).mono ?_;rintro e w2⟨rfl,rfl⟩;go_wp2_with fail;have HHK:=Hi (fun(W:World) (h:Bw wr W) (x:T)=>rF (cap:=kc) x (qp.below h) (by omega))
    go_loopw [10] (fun i wr2=>∃ m:Nat,m≤was.length∧i=.int .i64 (m:Int)∧Bw wr wr2) (fun i _=>was.length -(intOf i).toNat)
    case atStart=>exact⟨0,Ar _,rfl,Ad _ _⟩
    case round=>
     obtain⟨m,hm,rfl,hb2⟩:=hrel;have HB2:=Hi (HB.trans (hb2.mono HB.size));have HB3:=Hi hb2;by_cases hmt:m < was.length
     ·obtain⟨q2,ZK,hq2,-⟩:=(HA.below HB2).index ca m hmt;have auV:=BF hmt;have e0:=hq2.key;have e1:=hq2.val;have d1':=(hb2.cell (p:=⟨q1.block,q1.off+1,none⟩) (Bz d1)).trans d1;have JO:=Hi (aq3 _ auV);have abV:=R3 _ auV;have JV:=Hi (HHK _ (hb2.trans ((Ad _ wr).drew.mono hb2.size)) was[m].1);clear hq2 auV hb2;generalize was[m]=p at*;by_cases awP:p.1∈u.2
      ·have HV:=Hi (JO awP);rw[Gs awP] at JV;clear awP JO;go_wp2_with fail
       go_region_held3 (fun V=>V.cell? q2=some (.string (bs p.1))∧V.cell? ⟨q1.block,q1.off+1,none⟩=some (.slice kq u.2.length kc))
        (exact⟨e0,d1'⟩)
        (first|(go_at_call 12;refine JV.mono ?_;rintro e wb ⟨rfl,rfl⟩))
       have EB:=Hi (HB2.trans ((Ad _ wr).drew.mono HB2.size));have NH:=Hi (HB3.trans ((Ad _ wr).drew.mono HB3.size));have UK:=Hi (mg (HM.below EB) (Mem.OJ HG EB) p.1 abV);rw[HV.out] at UK;dsimp only at UK;go_wp2_with fail;refine UK.mono ?_;rintro e w5⟨rfl,hb5⟩;have e1':=(hb5.cell (p:=⟨q2.block,q2.off+1,none⟩) (Bz e1)).trans e1;have BG:=Hi (NH.trans (hb5.mono NH.size));have hqq:(p.2 == p.2)=true:=beq_self_eq_true _;clear hb5 e1;go_wp2_with fail;go_roundw
       case rel=>exact⟨m+1,by omega,by go_num,BG⟩
       case measure=>simp[intOf];omega
      ·rw[Ma awP] at JV;clear awP JO;go_wp2_with fail
       go_region_held3 (fun V=>V.cell? q2=some (.string (bs p.1))∧V.cell? ⟨q1.block,q1.off+1,none⟩=some (.slice kq u.2.length kc))
        (exact⟨e0,d1'⟩)
        (first|(go_at_call 12;refine JV.mono ?_;rintro e wb ⟨rfl,rfl⟩))
       go_wp2_with fail;go_roundw
       case rel=>exact⟨m+1,by omega,by go_num,HB3.trans ((Ad _ wr).drew.mono HB3.size)⟩
       case measure=>simp[intOf];omega
     ·obtain rfl:m=was.length:=(by omega);clear hb2;go_wp2_with fail;go_roundw
      case rel=>exact⟨k+1,by omega,by go_num,HB2⟩
      case measure=>simp[intOf];omega
   ·rw[Ma hin] at U7;clear hin rG;go_wp2_with fail;refine(U7 _ HB).mono ?_;rintro e w2⟨rfl,rfl⟩;go_wp2_with fail;go_roundw
    case rel=>exact⟨k+1,by omega,by go_num,HB⟩
    case measure=>simp[intOf];omega
  ·obtain rfl:k=us.length:=(by omega);clear hb;go_wp2_with fail;go_ret;exact⟨rfl,HB⟩
end Hv
end Go.Proofs.YtmbbhdebddbhoaaGreat
