/- SwAl SwLaw SwAv SwKe SwK SwNil SwAvW -/
import Derived.Test.YtmbbhdebddbhoaaGreatR42
import Derived.IntWalk
set_option maxHeartbeats 8000000
set_option maxRecDepth 100000
set_option linter.all false
namespace Go.Proofs.YtmbbhdebddbhoaaGreat
open Tryz
namespace Hv
open Go.RowKit Go.Maps
open Wal Fil Prs Kp Cm Hex Sha Al Mem Dep IE
open Man hiding T
def Ur(A:M):M:=(Bj Ae A).map fun k=>(k,(getV Ae A k).1)
def Uq(A:M):Us:=(Bj A9 A).map fun r=>(r,(getU A r).1)
def Pn(L:List (T×Value)):List Value:=L.flatMap fun x=>[.string (bs x.1),x.2]
theorem azX(L:List (T×Value))(x:T×Value):Pn (L++[x])=Pn L++[.string (bs x.1),x.2]:=by
 unfold Pn;rw[NA];rfl
theorem azW(L:List (T×Value))(i:Nat)(h:i < L.length):(Pn L)[i*2]?=some (.string (bs L[i].1))∧(Pn L)[i*2+1]?=some L[i].2:=by
 induction L generalizing i with
 |nil=>simp at h
 |cons x L ih=>
  cases i with
  |zero=>exact⟨rfl,rfl⟩
  |succ i=>
   have e:Pn (x :: L)=.string (bs x.1) :: x.2 :: Pn L:=rfl;have h1:=ih i (by simpa using h);rw[e,show(i+1)*2=i*2+1+1 by omega];exact h1
structure Jp(w:World)(base:Nat)(v:Value)(us:Us)(L:List (T×Value)):Prop where
 row:w.ownsRow base 77 2 v L.length (Pn L)
 len:L.length=us.length
 each:∀ i (h:i < L.length) (h2:i < us.length),L[i].1=us[i].1∧Man.Bp w base L[i].2 us[i].2
section
variable {w w':World}{base:Nat}{v:Value}{us:Us}{L:List (T×Value)}
theorem Jp.upd{F:Nat→Prop}(h:Jp w base v us L)(hu:A7 F w w')(h1:∀ k,AA w k 77→¬ F k)(h2:∀ k,AA w k 9→¬ F k):Jp w' base v us L:=
 ⟨Bh h.row hu (fun k hk e=>h1 k (BQ h.row hk) e),h.len,fun i hi Ja=>⟨(h.each i hi Ja).1,Bh (h.each i hi Ja).2 hu (fun k hk e=>h2 k (BQ (h.each i hi Ja).2 hk) e)⟩⟩
theorem Jp.below(h:Jp w base v us L)(hb:Bw w w'):Jp w' base v us L:=h.upd (ub hb) (fun _ _ f=>f) (fun _ _ f=>f)
theorem Jp.at_{q:Option Addr}{n c:Nat}(h:Jp w base (.slice q n c) us L):Ls w q us:=fun i hi=>by
 have Ja:i < L.length:=by rw[h.len];exact hi
 obtain⟨h1,h2⟩:=h.each i Ja hi;rcases h.row.2 with⟨e0,h0⟩|⟨g,cap,cur,e0,hb,hg,hn,hm,hs,ht⟩
 ·omega
 ·injection e0 with e1 e2 e3
  subst e1;have hc:∀ j,j < 2→∀ v,(Pn L)[i*2+j]?=some v→w.cell? (((⟨g,0,none⟩:Addr).add (i*2)).add j)=some v:=fun j hj v hv=>by
   have e1:(cur.toList.take (L.length*2))[i*2+j]?=(Pn L)[i*2+j]? :=(by rw[ht]);rw[List.getElem?_take,Ab (by omega),Dn,hv] at e1;rw[add_plain,WC];simp only[World.cell?,hg,GJ];simp only[Option.isSome_none,Bool.false_eq_true,if_false];exact e1
  obtain⟨u1,u2⟩:=azW L i Ja;refine⟨_,rfl,?_,?_⟩
  ·have:=hc 0 (by omega) _ u1;rw[add_zero'] at this;rw[←h1];exact this
  ·have h3:=hc 1 (by omega) _ u2;obtain⟨kq,kc,e⟩:=Bg h2;rw[add_plain,WC] at h3;rw[e] at h3 h2;refine⟨kq,kc,?_,Ea h2,fun e=>?_⟩
   ·rw[add_plain];exact h3
   ·rcases h2.2 with⟨e4,_⟩|⟨g,cap',cur,e4,_⟩
    ·injection e4
    ·injection e4 with e5 e6 e7
     rw[e] at e5;cases e5
theorem Jp.snoc{w2:World}(h:Jp w base v us L){x:T×Value}{u:T×List T}{v2:Value}(hx:x.1=u.1)(hr:Man.Bp w base x.2 u.2){F:Nat→Prop}(hu:A7 F w w2)(h2:∀ k,AA w k 9→¬ F k)(Ah:w2.ownsRow base 77 2 v2 (L.length+1) (Pn L++[.string (bs x.1),x.2])):Jp w2 base v2 (us++[u]) (L++[x]):=by
 have hk:∀ {s:Value} {l:List T},Man.Bp w base s l→Man.Bp w2 base s l:=fun hs=>Bh hs hu (fun k hk e=>h2 k (BQ hs hk) e)
 refine⟨by rw[azX,Au];exact Ah,by rw[Au,Au,h.len];rfl,fun i hi Ja=>?_⟩;by_cases e:i < L.length
 ·rw[Rp e,Rp (by rw[←h.len];exact e)];obtain⟨g1,g2⟩:=h.each i e (by rw[←h.len];exact e);exact⟨g1,hk g2⟩
 ·rw[Au,Kq] at hi;obtain rfl:i=L.length:=by omega
  rw[Ux (Ac _)];have e3:(us++[u])[L.length]'Ja=u:=by
   rw[Ux (by rw[h.len];exact Ac _)];simp[h.len]
  rw[e3];simp only[Nat.sub_self,List.getElem_cons_zero];exact⟨hx,hk hr⟩
end
theorem uN(A:M):(Ur A).length=(Bj Ae A).length:=by unfold Ur;rw[Cf]
theorem uK(A:M):(Uq A).length=(Bj A9 A).length:=by unfold Uq;rw[Cf]
theorem aAr(A:M)(k:Nat)(h:k < (Bj Ae A).length):(Ur A).take (k+1)=(Ur A).take k++[((Bj Ae A)[k],(getV Ae A (Bj Ae A)[k]).1)]:=by
 rw[Cw (by rw[uN];exact h)]
 congr 2
 unfold Ur;rw[List.getElem_map]
theorem aA6(A:M)(k:Nat)(h:k < (Bj A9 A).length):(Uq A).take (k+1)=(Uq A).take k++[((Bj A9 A)[k],(getU A (Bj A9 A)[k]).1)]:=by
 rw[Cw (by rw[uK];exact h)]
 congr 2
 unfold Uq;rw[List.getElem_map]
theorem apS{w:World}{pm pd y:Nat}{A:M}(hm:Fb w pm y)(hd:GM w pd y)(hf:Lf w y A)(LC:ZW A):
  Calls prog 8 #[.pointer (some ⟨pm,0,none⟩),.pointer (some ⟨pd,0,none⟩)] w fun e w'=>∃ v1 v2 L,e=.returned (.tuple #[v1,v2])∧Bo w' w.heap.size v1 (Ur A)∧Jp w' w.heap.size v2 (Uq A) L∧Bw w w':=by
 obtain⟨i0,Ba,AQ,AU,AV⟩:=Du Qu;obtain⟨j0,hj0,rQ,Uh,kz⟩:=Du anG;have HM:=Hi hm;have HD:=Hi hd;have HF:=Hi hf;have FO:=Hi LC;have Ih:=Hi (show(Bj Ae A).length≤1000000 from by rw[Re (K:=Ae) hf.up];exact LC.VK);have JQ:=Hi (show(Bj A9 A).length≤1000000 from by rw[Re (K:=A9) hf.up];exact LC.WK);clear hm hd hf LC;go_enter func8,ntmps8;go_wp2_with fail;refine(sD HM HF FO.VK).mono ?_;rintro e w1⟨v1,rfl,Kk,Ad⟩;obtain⟨kq,kc,rfl⟩:=Bg Kk;have Ew:=Hi Kk;have HB1:=Hi Ad;clear Kk Ad;go_wp2_with fail
 go_loopw [6,8] (fun s6 s8 wr=>∃ (k:Nat) (q:Option Addr) (c:Nat),k≤(Bj Ae A).length∧s6=.slice q k c∧s8=.int .i64 (k:Int)∧wr.ownsRow w1.heap.size 75 2 (.slice q k c) k (Da ((Ur A).take k))∧Bw w1 wr) (fun _ s8 _=>(Bj Ae A).length -(intOf s8).toNat)
 case atStart=>exact⟨0,none,0,AB _,rfl,rfl,by rw[GZ,PV];exact EI _ _ _ _,Af _ _⟩
 case round=>
  obtain⟨k,q,c,hk,rfl,rfl,Ah,hb⟩:=hrel;have CZ:=Hi Ah;have HB:=Hi hb;have Ag:=Hi (HB1.trans (hb.mono HB1.size));have Db:=Ih.out;clear Ah;by_cases hlt:k < (Bj Ae A).length
  ·obtain⟨a,Cu,c0⟩:=(Ea (C9 Ew hb)).index kc k hlt;have AR:=Hi (aAr A k hlt);have bS:=FO.dG _ (Ci hlt);have HG:=Hi (ac7 (HM.below Ag) (HF.below Ag).gets (Bj Ae A)[k] (by omega));clear hb;generalize (Bj Ae A)[k]=key at*;obtain⟨⟨gv,gis,ge⟩,Mm⟩:=ex (getV Ae A key);rw[Mm] at AR HG;dsimp only at AR HG;clear Mm;go_wp2_with fail;refine HG.mono ?_;rintro e w3⟨rfl,Ak⟩;have c03:=(Ak.cell (BS c0)).trans c0;have Am:=Hi (HB.trans (Ak.mono HB.size));have UO:=Hi (Ag.trans (Ak.mono Ag.size));have JR:=Hi (Bh CZ (ub Ak) (fun _ _ f=>f));clear Ak c0;go_wp2_with (at_builtin;refine wpList_append_own_at _ rfl _ _ 22 rfl w1.heap.size 75 i0 _ 2 32 underlying22 Ba AQ AU AV rfl (by decide) _ k _ rfl (JR.alloc _) ⟨w3.heap.size,0,none⟩ 1 1 [.string (bs key),.string (bs gv)] rfl rfl (by intro j u hj;rw[add_plain,DF];exact(Dn▸hj)) (by simp[Value.oneCell']) (by unfold maxLen;omega) (by omega) (by have:=Am.size;simp;omega) ?_;intro v' w4 BB Az _ hat;obtain⟨g',cap',rfl⟩:=ownsRow_succ BB;have HO:=Hi BB;have CS:=Hi Az;clear BB Az hat);go_roundw
   case rel=>
    refine⟨k+1,some ⟨g',0,none⟩,cap',by omega,rfl,by go_num,?_,(Am.alloc Am.size _).grown CS (by rw[Aq];have:=Am.size;omega) (fun j hj=>DC JR hj)⟩;rw[AR.out,RY];exact HO.out
   case measure=>
    show(Bj Ae A).length -((k:Int)+1).toNat < (Bj Ae A).length -((k:Int)).toNat
    omega
  ·obtain rfl:k=(Bj Ae A).length:=(by omega);have Ah:=CZ.out;rw[Gn (by rw[uN];exact Ac _)] at Ah
   have RI:=Hi (show Bo wr w.heap.size (.slice q (Bj Ae A).length c) (Ur A) from by
    have h2:=E9 Ah HB1.size;unfold Bo;rw[uN];exact h2)
   clear Ah hb CZ;go_wp2_with fail;refine(ag5 (HD.below Ag) (HF.below Ag) FO.WK).mono ?_;rintro e w5⟨v5,rfl,Mx,Bf⟩;obtain⟨rq,rc,rfl⟩:=Bg Mx;have NN:=Hi Mx;have Ck:=Hi (Ag.trans (Bf.mono Ag.size));have ap7:=Hi (Bh RI (ub Bf) (fun _ _ f=>f));clear Mx Bf RI Ag HB;have Gi:=JQ.out;go_wp2_with fail
   go_loopw [12,14] (fun s12 l7 wr=>∃ (k:Nat) (q:Option Addr) (c:Nat) (L:List (T×Value)),k≤(Bj A9 A).length∧s12=.slice q k c∧l7=.int .i64 (k:Int)∧Jp wr w5.heap.size (.slice q k c) ((Uq A).take k) L∧Bw w5 wr) (fun _ l7 _=>(Bj A9 A).length -(intOf l7).toNat)
   case atStart=>exact⟨0,none,0,[],AB _,rfl,rfl,⟨EI _ _ _ _,by rw[GZ];rfl,fun i hi=>by simp at hi⟩,Af _ _⟩
   case round=>
    obtain⟨k,q,c,L,hk,rfl,rfl,Ah,hb⟩:=hrel;have CZ:=Hi Ah;have HB:=Hi hb;have Ag:=Hi (Ck.trans (hb.mono Ck.size));have NK:=Hi (show L.length=k from by rw[Ah.len,AL,uK];omega);clear Ah;by_cases hlt:k < (Bj A9 A).length
    ·obtain⟨a,Cu,c0⟩:=(Ea (C9 NN hb)).index rc k hlt;have AR:=Hi (aA6 A k hlt);have bS:=FO.ag3 _ (Ci hlt);have HG:=Hi (afR (HD.below Ag) (HF.below Ag).gets (Bj A9 A)[k] (by omega));clear hb;generalize (Bj A9 A)[k]=key at*;obtain⟨⟨gv,gis,ge⟩,Mm⟩:=ex (getU A key);rw[Mm] at AR HG;dsimp only at AR HG;clear Mm;go_wp2_with fail;refine HG.mono ?_;rintro e w3⟨kv,rfl,Jv,Ak⟩;obtain⟨kkq,kkc,rfl⟩:=Bg Jv;have c03:=(Ak.cell (BS c0)).trans c0;have HKV:=Hi (E9 Jv HB.size);have Am:=Hi (HB.trans (Ak.mono HB.size));have JR:=Hi (CZ.below Ak);have abd:=JR.row;rw[NK.out] at abd;have aF:=Hi abd;clear Ak c0 Jv abd;go_wp2_with (at_builtin;refine wpList_append_own_at _ rfl _ _ 23 rfl w5.heap.size 77 j0 _ 2 40 underlying23 hj0 rQ Uh kz rfl (by decide) _ k _ rfl (aF.alloc _) ⟨w3.heap.size,0,none⟩ 1 1 [.string (bs key),.slice kkq gv.length kkc] rfl rfl (by intro j u hj;rw[add_plain,DF];exact(Dn▸hj)) (by simp[Value.oneCell']) (by unfold maxLen;omega) (by omega) (by have:=Am.size;simp;omega) ?_;intro v' w4 BB Az _ hat;obtain⟨g',cap',rfl⟩:=ownsRow_succ BB;have HO:=Hi BB;have CS:=Hi Az;clear BB Az hat);go_roundw
     case rel=>
      refine⟨k+1,some ⟨g',0,none⟩,cap',L++[(key,.slice kkq gv.length kkc)],by omega,rfl,by go_num,?_,(Am.alloc Am.size _).grown CS (by rw[Aq];have:=Am.size;omega) (fun j hj=>DC aF hj)⟩;rw[AR.out];exact JR.snoc (x:=(key,.slice kkq gv.length kkc)) (u:=(key,gv)) rfl HKV (((A7.refl (fun j=>(Value.slice q k c).ownBlock=some j) w3).alloc _).trans (A7.of_grownBy (F:=fun j=>(Value.slice q k c).ownBlock=some j) CS (fun j e=>e)) (fun _ f=>.inl f)) (fun j hj e=>AA.ne hj (BQ aF e) (by decide) rfl) (by rw[NK.out];exact HO.out)
     case measure=>
      show(Bj A9 A).length -((k:Int)+1).toNat < (Bj A9 A).length -((k:Int)).toNat
      omega
    ·obtain rfl:k=(Bj A9 A).length:=(by omega);have Ah:=CZ.out;rw[Gn (by rw[uK];exact Ac _)] at Ah
     have HUR:=Hi (show Jp wr w.heap.size (.slice q (Bj A9 A).length c) (Uq A) L from
      ⟨E9 Ah.row Ck.size,Ah.len,fun i hi Ja=>⟨(Ah.each i hi Ja).1,E9 (Ah.each i hi Ja).2 Ck.size⟩⟩)
     have ap8:=Hi (Bh ap7 (ub hb) (fun _ _ f=>f));clear Ah hb CZ;go_wp2_with fail;go_ret2;exact⟨_,_,L,rfl,ap8,HUR,Ag⟩
end Hv
namespace Hv
open Fil Kp Cm Hex Mem Dep IE
open Man hiding T
theorem pg{A:M}{k v:T}(h:Dk Ae A k=some v):getV Ae A k=(v,true,0):=by
 unfold getV;rw[Aa,h];rintro⟨_,h2⟩;unfold Dk at h;cases hf:fileOf Ae A (Ae.nm k) with
 |none=>rw[hf] at h;cases h
 |some l=>rw[hf] at h2;cases h2
variable {n:Nat}{A:M}{roots:List T}
theorem akr{A':M}(hu:Up A)(jy:∀ k,Gs both A roots k→mV both A' k=mV both A k):∀ u∈Uq A,u.1∈roots→∀ p∈Ur A,p.1∈u.2→getV Ae A' p.1=(p.2,true,0):=by
 intro u F8 Be p hp hpu;obtain⟨r,hr,rfl⟩:=Bz.1 F8;obtain⟨k,hk,rfl⟩:=Bz.1 hp;obtain⟨v,hv⟩:=MN.1 ((Qs MI hu k).1 hk);have h1:Gs both A roots k:=⟨r,hr,Be,by rw[←iD hu hr];exact hpu⟩;have h2:Dk Ae A' k=some v:=by
  have:=jy k h1;rw[show mV both A k=some v from hv] at this;exact this
 rw[pg h2]
 show _=((getV Ae A k).1,true,0)
 rw[pg hv]
end Hv
namespace Hv
open Wal Fil Prs Kp Cm Hex Sha Al Mem Dep IE
open Man hiding T
theorem azx{l:List T}(h:∀ t∈l,t.length≤65535):∃ a,textsE l=some a:=by
 induction l with
 |nil=>exact⟨[],rfl⟩
 |cons x l ih=>
  obtain⟨a,ha⟩:=ih (fun t ht=>h t (DT _ ht));have hx:=h x Dg;have e:∃ b,DJ x=some b:=by
   unfold DJ;rw[Ab hx];exact⟨_,rfl⟩
  obtain⟨b,hb⟩:=e;exact⟨b++a,by simp only[textsE];rw[hb,ha];rfl⟩
theorem iC{l:M}{t:T}(h:t∈flat l):∃ p∈l,t=p.1∨t=p.2:=by
 unfold flat at h;obtain⟨p,hp,hm⟩:=MM.1 h;refine⟨p,hp,?_⟩;simpa using hm
theorem aqH{l:M}(h:Ct l≤60000):(BG l).isSome=true:=by
 have hl:4*l.length+(l.map fun p=>p.2.length).sum≤Ct l:=iy l
 obtain⟨a,ha⟩:=azx (l:=flat l) (fun t ht=>by
  obtain⟨p,hp,e⟩:=iC ht;have:=ze hp;rcases e with rfl|rfl<;>omega)
 have h2:=VP ha;rw[oN] at h2;unfold BG Fh;rw[Ab (by omega),ha];simp only[Ej,Cj];rw[Ab (by rw[Au,Crc.BK];omega)];rfl
theorem asU(K:Kind)(l:M)(name:T):Ct (Bv K l name)≤Ct l:=by
 have h:=ahb K [name] (by simp) l;simpa using h
theorem zt{K:Kind}{l:M}(h:Ct l≤60000):Fits K l:=fun j hj=>
 aqH (Ap (asU K _ _) (Ap (zg l (j+1)) h))
theorem alO{K:Kind}(hK:K.BM){n:Nat}{A l:M}(hu:Up A)(h:Ct l≤60000)(hr:used A+(31*l.length+Ct l)≤C8 n):Gl K n A l=(0,made A (ET K l)):=by
 rw[acw hK (zt h),Aa];have h1:=VQ hu (ET K l);have h2:=lU hK l;omega
def Ul(l:M)(k:T):Option T:=(l.reverse.find? fun p=>p.1 == k).map (·.2)
theorem akB(l:M)(p:T×T)(k:T):Ul (l++[p]) k=if p.1=k then some p.2 else Ul l k:=by
 unfold Ul;rw[List.reverse_append,List.reverse_singleton,List.singleton_append,List.find?_cons];by_cases e:p.1=k
 ·rw[Ab e];simp[e]
 ·rw[Aa e];have:(p.1 == k)=false:=H9.2 e;rw[this]
theorem ah8{K:Kind}(l:M)(k:T):Fil.get (Bv K l (K.nm k)) k=Ul l k:=by
 induction l using Uo with
 |h0=>rfl
 |h1 l p ih=>
  rw[Nf,akB];have hu:=Sb (K:=K) l (K.nm k);by_cases e:p.1=k
  ·rw[Ab e,Ab (by rw[e]),get_put hu,Ab e.symm]
  ·rw[Aa e];split
   ·rw[get_put hu,Aa (fun h=>e h.symm)];exact ih
   ·exact ih
theorem alF{K:Kind}{A l:M}(hu:Up A)(CO:∀ k,Fil.get A (K.nm k)=none)(Cb:∀ p∈l,K.ok p=true)(hf:Fits K l)(k:T):Dk K (made A (ET K l)) k=Ul l k:=by
 rw[←tN hu];unfold Dk;rw[oM hu CO Cb hf];by_cases h:K.nm k∈l.map fun p=>K.nm p.1
 ·rw[Ab h];exact ah8 l k
 ·rw[Aa h,←ah8 (K:=K),iH h];rfl
theorem axv{K K':Kind}(hK:∀ k,K.ours (K.nm k)=true)(iO:∀ k,K'.ours (K'.nm k)=true)(hd:∀ x,K.ours x=true→K'.ours x=true→False){A:M}(hu:Up A)(l:M)(k:T):Dk K' (made A (ET K l)) k=Dk K' A k:=by
 have h:K'.nm k∉l.map fun p=>K.nm p.1:=fun hm=>by
  obtain⟨p,_,e⟩:=Bz.1 hm;exact hd (K.nm p.1) (hK p.1) (by rw[e];exact iO k)
 unfold Dk fileOf;rw[zH hu,Aa h]
theorem abO{K:Kind}(hK:K.BM){A:M}(hu:Up A){L:List T}(hL:Jq L)(h:∀ k,k∈L↔(Dk K A k).isSome=true):Bj K A=L:=
 Qw avE hL (fun k=>by rw[Qs hK hu,h])
theorem aqE{n:Nat}{A:M}(h:used A≤C8 n):F9 n A []=A:=by
 unfold F9;split<;>rfl
def Na:M:=[([97],[]),([98],[]),([99],[]),([100],[52])]
def Nb:Us:=[([114],[[97],[98]]),([115],[[98],[99]])]
def WM:M:=made [] (ET Ae Na)
def Dw:M:=made WM (ET A9 (Bi Nb))
theorem oF:Ct Na=21:=by decide
theorem oG:Ct (Bi Nb)≤1000:=Ap (anM Nb) (by decide)
theorem acH:2000≤C8 200:=by decide
theorem iB:Up WM:=Up.made Up.nil _
theorem aga:used WM≤200:=by
 have h1:=VQ Up.nil (ET Ae Na);have h2:=lU MI Na;have h3:=oF;have h4:Na.length=4:=rfl;have h5:used ([]:M)=4:=rfl;unfold WM;omega
theorem agf:Gl Ae 200 [] Na=(0,WM):=alO MI Up.nil (by rw[oF];omega) (by
 have h3:=oF;have h4:Na.length=4:=rfl;have h5:used ([]:M)=4:=rfl;have:=acH;omega)
theorem oJ:Md Nb:=fun u hu=>by
 have hr:∀ a b:T,a < b→AX [a,b]=[a,b]:=fun a b h=>tQ (Iw.2 ⟨fun x hx=>by rw[EX.1 hx];exact h,Tf _ _⟩)
 rcases Bt.1 hu with rfl|hu
 ·show(Cq (AX [[97],[98]])).2=0
  rw[hr _ _ (by decide)];decide
 ·rcases Bt.1 hu with rfl|hu
  ·show(Cq (AX [[98],[99]])).2=0
   rw[hr _ _ (by decide)];decide
  ·cases hu
theorem arK:GX 200 WM Nb=(0,Dw):=by
 unfold GX;rw[Ab oJ];refine alO I5 iB (Ap oG (by omega)) ?_;have h1:=oG;have h2:=aga;have h3:=acH;have h4:(Bi Nb).length=2:=rfl;omega
theorem arC:used Dw≤C8 200:=by
 have h1:=VQ iB (ET A9 (Bi Nb));have h2:=lU I5 (Bi Nb);have h3:=oG;have h4:(Bi Nb).length=2:=rfl;have h5:=aga;have h6:=acH;unfold Dw;omega
theorem arJ:dD 200 Na Nb []=Dw:=by
 unfold dD;rw[agf]
 show F9 200 (GX 200 WM Nb).2 []=Dw
 rw[arK];exact aqE arC
theorem oH(k:T):Dk Ae Dw k=Ul Na k:=by
 unfold Dw;rw[axv I5.ZA MI.ZA (fun x h1 h2=>Mf.apart x h2 h1) iB];exact alF Up.nil (fun _=>rfl) (fun _ _=>rfl) (zt (by rw[oF];omega)) k
theorem zl(r:T):Dk A9 Dw r=Ul (Bi Nb) r:=by
 have CO:∀ k,Fil.get WM (A9.nm k)=none:=fun k=>by
  have h:=alc (n:=200) I5 MI (fun x h1 h2=>Mf.apart x h2 h1) Up.nil (fun _=>rfl) Na k;rw[agf] at h;exact h
 exact alF iB CO (ado oJ) (zt (Ap oG (by omega))) r
theorem agb:Up Dw:=Up.made iB _
theorem abR(l:M)(k:T):(Ul l k).isSome=true↔k∈l.map (·.1):=by
 induction l using Uo with
 |h0=>simp[Ul]
 |h1 l p ih=>
  rw[akB,CF,Fp];by_cases e:p.1=k
  ·rw[Ab e];simp[e]
  ·rw[Aa e,ih];simp only[BL,List.map_nil,EX];exact⟨fun h=>.inl h,fun h=>h.elim id (fun h=>absurd h.symm e)⟩
theorem age:Bj Ae Dw=[[97],[98],[99],[100]]:=abO MI agb (by unfold Jq;decide) (fun k=>by rw[oH,abR];rfl)
theorem zm:Bj A9 Dw=[[114],[115]]:=abO I5 agb (by unfold Jq;decide) (fun k=>by rw[zl,abR];rfl)
theorem ame(a b:T)(h:a < b):AX [a,b]=[a,b]:=tQ (Iw.2 ⟨fun x hx=>by rw[EX.1 hx];exact h,Tf _ _⟩)
theorem agh:Oj both Dw [114]=[[97],[98]]:=by
 have h:dV both Dw [114]=some (Cq (AX [[97],[98]])).1:=by
  show Dk A9 Dw [114]=_
  rw[zl];rfl
 unfold Oj;rw[h,Cj,acM (oJ _ Dg),ame _ _ (by decide)];rfl
theorem agi:Oj both Dw [115]=[[98],[99]]:=by
 have h:dV both Dw [115]=some (Cq (AX [[98],[99]])).1:=by
  show Dk A9 Dw [115]=_
  rw[zl];rfl
 unfold Oj;rw[h,Cj,acM (oJ _ (DT _ Dg)),ame _ _ (by decide)];rfl
theorem oI(roots:List T)(k:T):Gs both Dw roots k↔(([114]:T)∈roots∧k∈([[97],[98]]:List T))∨(([115]:T)∈roots∧k∈([[98],[99]]:List T)):=by
 have hr:N9 both Dw=[[114],[115]]:=zm;unfold Gs;rw[hr];constructor
 ·rintro⟨r,h1,h2,h3⟩;rcases Bt.1 h1 with rfl|h1
  ·rw[agh] at h3;exact .inl ⟨h2,h3⟩
  ·rw[EX.1 h1] at h2 h3;rw[agi] at h3;exact .inr ⟨h2,h3⟩
 ·rintro(⟨h1,h2⟩|⟨h1,h2⟩)
  ·exact⟨[114],by simp,h1,by rw[agh];exact h2⟩
  ·exact⟨[115],by simp,h1,by rw[agi];exact h2⟩
theorem agd{roots:List T}(h:([114]:T)∉roots)(h2:([115]:T)∈roots):Nc both Dw roots=[[114]]:=by
 unfold Nc;rw[show N9 both Dw=[[114],[115]] from zm];simp[h,h2]
theorem agc{roots:List T}(h:([114]:T)∉roots)(h2:([115]:T)∈roots):I6 both Dw roots=[[97],[100]]:=by
 unfold I6;rw[show VJ both Dw=[[97],[98],[99],[100]] from age];have e:∀ k,decide (¬ Gs both Dw roots k)=decide (¬ k∈([[98],[99]]:List T)):=fun k=>decide_eq_decide.2 (by rw[oI];simp[h,h2])
 simp only[e];decide
theorem arI:Xz both Dw=[[100]]:=by
 unfold Xz;rw[show VJ both Dw=[[97],[98],[99],[100]] from age];have hu:∀ k,Used both Dw k↔k∈([[97],[98],[99]]:List T):=fun k=>by
  have hr:N9 both Dw=[[114],[115]]:=zm;have h:=oI [[114],[115]] k;have e:Used both Dw k↔Gs both Dw [[114],[115]] k:=by
   unfold Used Gs;rw[hr];exact⟨fun⟨r,h1,h2⟩=>⟨r,h1,h1,h2⟩,fun⟨r,h1,_,h2⟩=>⟨r,h1,h2⟩⟩
  rw[e,h];simp;constructor
  ·rintro((h|h)|(h|h))<;>simp[h]
  ·rintro(h|h|h)<;>simp[h]
 have e:∀ k,decide (¬ Used both Dw k)=decide (¬ k∈([[97],[98],[99]]:List T)):=fun k=>decide_eq_decide.2 (by rw[hu])
 simp only[e];decide
theorem arE:KG Dw [[97],[100]]=3:=by
 have h1:getV Ae Dw [97]=([],true,0):=pg (by rw[oH];rfl);have h2:getV Ae Dw [100]=([52],true,0):=pg (by rw[oH];rfl);unfold KG;simp[h1,h2]
theorem arG{n:Nat}(hm:Cm.May n Dw){roots:List T}(h:([114]:T)∉roots)(h2:([115]:T)∈roots):Bj Ae (Iu both Dw roots)=[[98],[99]]:=
 abO MI (uz (roots:=roots) Mf hm).up (by unfold Jq;decide) (fun k=>by
  have e:Dk Ae (Iu both Dw roots) k=if Gs both Dw roots k then mV both Dw k else none:=uy Mf hm k
  have e2:mV both Dw k=Ul Na k:=oH k;rw[e,e2];by_cases hk:k∈([[98],[99]]:List T)
  ·rw[Ab ((oI roots k).2 (.inr ⟨h2,hk⟩)),abR];simp only[hk,true_iff];rcases Bt.1 hk with rfl|hk
   ·decide
   ·rw[EX.1 hk];decide
  ·rw[Aa (fun g=>by
    rcases(oI roots k).1 g with⟨g1,_⟩|⟨_,g2⟩
    ·exact h g1
    ·exact hk g2)]
   simp[hk])
end Hv
namespace Hv
open Go.RowKit Go.Maps
open Wal Fil Prs Kp Cm Hex Sha Al Mem Dep IE
open Man hiding T
theorem ahL{w:World}{q:Option Addr}{cap:Nat}{l:List T}(x:T)(h:Cg w q l)(hl:l.length≤1000000000):
  Calls prog 12 #[.slice q l.length cap,.string (bs x)] w fun e w'=>e=.returned (.bool (decide (x∈l)))∧w=w':=by
 have H:=Hi h;clear h;go_enter func12,ntmps12;go_wp2_with fail
 go_loop [5] (fun i=>∃ k:Nat,k≤l.length∧i=.int .i64 (k:Int)∧x∉l.take k) (fun i=>l.length -(intOf i).toNat)
 case atStart=>exact⟨0,AB _,rfl,by simp⟩
 case round=>
  obtain⟨k,hk,rfl,CO⟩:=hrel;have Eb:=Hi CO;clear CO;by_cases hlt:k < l.length
  ·obtain⟨a,Cu,c0⟩:=H.index cap k hlt;have HS:=Hi (show l.take (k+1)=l.take k++[l[k]] from Cw hlt);have HM:=Hi (Ci hlt);generalize l[k]=t at*;by_cases e:t=x
   ·subst e;have hv:=Hi (Kr HM.out);go_wp2_with fail;go_ret;exact⟨by rw[hv.out];rfl,rfl⟩
   ·have Ze:(t == x)=false:=H9.2 e;go_wp2_with fail
    go_round
    case rel=>exact⟨k+1,by omega,by go_num,by rw[HS.out];intro f;rcases Fp.1 f with f|f;exact Eb f;simp at f;exact e f.symm⟩
    case measure=>simp[intOf];omega
  ·obtain rfl:k=l.length:=(by omega);have CO:=Eb.out;rw[CY] at CO;have hv:=Hi (Pp CO);clear CO;go_wp2_with fail;go_ret;exact⟨by rw[hv.out];rfl,rfl⟩
theorem akp{w:World}{qa qu qr:Option Addr}{ca cu cr:Nat}{was:M}{us:Us}{roots:List T}{pm y:Nat}{A:M}(ha:AO w qa was)(hu:Ls w qu us)(hr:Cg w qr roots)(Vd:was.length≤1000000)(I9:us.length≤1000000)(Gi:roots.length≤1000000)(Db:∀ u∈us,u.2.length≤1000000)(Qk:∀ p∈was,p.1.length≤1000000)
  (hm:Fb w pm y)(hg:Man.ND w y A)(hk:∀ u∈us,u.1∈roots→∀ p∈was,p.1∈u.2→getV Ae A p.1=(p.2,true,0)):
  Calls prog 14 #[.slice qa was.length ca,.slice qu us.length cu,.slice qr roots.length cr,.pointer (some ⟨pm,0,none⟩)] w fun e w'=>e=.returned (.bool true)∧Bw w w':=by
 have HA:=Hi ha;have HU:=Hi hu;have HR:=Hi hr;have Ih:=Hi Db;have RP:=Hi Qk;have HM:=Hi hm;have HG:=Hi hg;have HK:=Hi hk;clear ha hu hr Db Qk hm hg hk;go_enter func14,ntmps14;go_wp2_with fail
 go_loopw [9] (fun i wr=>∃ k:Nat,k≤us.length∧i=.int .i64 (k:Int)∧Bw w wr) (fun i _=>us.length -(intOf i).toNat)
 case atStart=>exact⟨0,AB _,rfl,Af _ _⟩
 case round=>
  obtain⟨k,hk,rfl,hb⟩:=hrel;have HB:=Hi hb;by_cases hlt:k < us.length
  ·obtain⟨q1,aum,Ef⟩:=(HU.below hb).index cu k hlt;obtain⟨kq,kc,d1,jA,_⟩:=Ef.keys;have d0:=Ef.run;have gK:=Hi Ef;have Ms:=Ci hlt;have wy:=Hi (HK _ Ms);have Vo:=Ih _ Ms;have mG:=Hi (fun(W:World) (hW:Bw w W)=>ahL (cap:=cr) us[k].1 (HR.below hW) (by omega));have wu:=Hi jA;clear hb jA Ms Ef;generalize us[k]=u at*;by_cases Be:u.1∈roots
   ·have aoN:=Hi (wy Be);rw[Kr Be] at mG;clear Be wy;go_wp2_with fail;refine(mG _ HB).mono ?_;rintro e w2⟨rfl,rfl⟩;go_wp2_with fail;have HHK:=Hi (fun(W:World) (h:Bw wr W) (x:T)=>ahL (cap:=kc) x (wu.below h) (by omega))
    go_loopw [10] (fun i wr2=>∃ m:Nat,m≤was.length∧i=.int .i64 (m:Int)∧Bw wr wr2) (fun i _=>was.length -(intOf i).toNat)
    case atStart=>exact⟨0,AB _,rfl,Af _ _⟩
    case round=>
     obtain⟨m,hm,rfl,A8⟩:=hrel;have Ag:=Hi (HB.trans (A8.mono HB.size));have Am:=Hi A8;by_cases Qe:m < was.length
     ·obtain⟨q2,qN,CV,-⟩:=(HA.below Ag).index ca m Qe;have Ms:=Ci Qe;have e0:=CV.key;have e1:=CV.val;have d1':=(A8.cell (p:=⟨q1.block,q1.off+1,none⟩) (BS d1)).trans d1;have PG:=Hi (aoN _ Ms);have aj1:=RP _ Ms;have NI:=Hi (HHK _ (A8.trans ((Af _ wr).drew.mono A8.size)) was[m].1);clear CV Ms A8;generalize was[m]=p at*;by_cases Vn:p.1∈u.2
      ·have HV:=Hi (PG Vn);rw[Kr Vn] at NI;clear Vn PG;go_wp2_with fail
       go_region_held3 (fun V=>V.cell? q2=some (.string (bs p.1))∧V.cell? ⟨q1.block,q1.off+1,none⟩=some (.slice kq u.2.length kc))
        (exact⟨e0,d1'⟩)
        (first|(go_at_call 12;refine NI.mono ?_;rintro e wb ⟨rfl,rfl⟩))
       have G8:=Hi (Ag.trans ((Af _ wr).drew.mono Ag.size));have VX:=Hi (Am.trans ((Af _ wr).drew.mono Am.size));have ag:=Hi (ac7 (HM.below G8) (Mem.TQ HG G8) p.1 aj1);rw[HV.out] at ag;dsimp only at ag;go_wp2_with fail;refine ag.mono ?_;rintro e w5⟨rfl,Bf⟩;have e1':=(Bf.cell (p:=⟨q2.block,q2.off+1,none⟩) (BS e1)).trans e1;have Ck:=Hi (VX.trans (Bf.mono VX.size));have hqq:(p.2 == p.2)=true:=beq_self_eq_true _;clear Bf e1;go_wp2_with fail;go_roundw
       case rel=>exact⟨m+1,by omega,by go_num,Ck⟩
       case measure=>simp[intOf];omega
      ·rw[Pp Vn] at NI;clear Vn PG;go_wp2_with fail
       go_region_held3 (fun V=>V.cell? q2=some (.string (bs p.1))∧V.cell? ⟨q1.block,q1.off+1,none⟩=some (.slice kq u.2.length kc))
        (exact⟨e0,d1'⟩)
        (first|(go_at_call 12;refine NI.mono ?_;rintro e wb ⟨rfl,rfl⟩))
       go_wp2_with fail;go_roundw
       case rel=>exact⟨m+1,by omega,by go_num,Am.trans ((Af _ wr).drew.mono Am.size)⟩
       case measure=>simp[intOf];omega
     ·obtain rfl:m=was.length:=(by omega);clear A8;go_wp2_with fail;go_roundw
      case rel=>exact⟨k+1,by omega,by go_num,Ag⟩
      case measure=>simp[intOf];omega
   ·rw[Pp Be] at mG;clear Be wy;go_wp2_with fail;refine(mG _ HB).mono ?_;rintro e w2⟨rfl,rfl⟩;go_wp2_with fail;go_roundw
    case rel=>exact⟨k+1,by omega,by go_num,HB⟩
    case measure=>simp[intOf];omega
  ·obtain rfl:k=us.length:=(by omega);clear hb;go_wp2_with fail;go_ret;exact⟨rfl,HB⟩
structure DU(w w':World):Prop where
 XG:∀ base v l,Bo w base v l→Bo w' base v l
 uses:∀ base v us L,Jp w base v us L→Jp w' base v us L
 row:Oz w w'
section
variable {w w' w1:World}{B:Nat}{w0:World}{b y n N pm pd:Nat}{A A':M}{L:List (Nat×Obj)}
theorem DU.upd{bl:Nat→Prop}(hu:A7 (Gt w bl) w w'):DU w w':=
 ⟨fun _ _ _ h=>Bh h hu (fun _ hg e=>e.not (BQ h hg) (by decide)),fun _ _ _ _ h=>h.upd hu (fun k hk e=>e.not hk (by decide)) (fun k hk e=>e.not hk (by decide)),Oz.upd hu⟩
theorem DU.below(hb:Bw w w'):DU w w':=
 ⟨fun _ _ _ h=>Bh h (ub hb) (fun _ _ f=>f),fun _ _ _ _ h=>h.below hb,Oz.below hb⟩
theorem DU.trans(h:DU w w1)(k:DU w1 w'):DU w w':=
 ⟨fun a v l r=>k.XG a v l (h.XG a v l r),fun a v l L r=>k.uses a v l L (h.uses a v l L r),h.row.trans k.row⟩
theorem acI{n:Nat}(h:n≤200):C8 n≤100000:=by unfold C8 sz lg;omega
theorem Zx(h:D9 B w0 w b y n N A L):Lf w y A:=by
 obtain⟨bl,h1,_,_⟩:=h.pick;exact agz h1
theorem kK(h:D9 B w0 w b y n N A L)(hn:n≤200):ZW A:=agr (Ap (dH h).2.2 (acI hn))
theorem al9{q:Option Addr}{cap:Nat}{roots:List T}(h:D9 B w0 w b y n N A L)(hN:N+2 < 1000000000)(hn:n≤200)(hm:(pm,ES y)∈L)(hd:(pd,Fq y)∈L)(hr:Cg w q roots)(Gi:roots.length≤1000000):
  Calls prog 9 #[.pointer (some ⟨pm,0,none⟩),.pointer (some ⟨pd,0,none⟩),.slice q roots.length cap] w fun e w'=>e=.returned (.tuple #[.agg #[.int .i64 ((Nc both A roots).length:Int),.int .i64 ((I6 both A roots).length:Int),.int .i64 (KG A (I6 both A roots):Int)],.int .i64 0])∧D9 B w0 w' b y n (N+2) (Iu both A roots) L∧DU w w':=by
 obtain⟨bl,h1,h2,h3⟩:=h.pick;refine(agI h1 h2 hN (Ap (dH h).2.2 (acI hn)) (h.at_ _ _ hm) (h.at_ _ _ hd) hr Gi).mono ?_;rintro e w'⟨c,Bu,rfl,⟨hu,LJ⟩,hs⟩;rcases LJ with⟨rfl,Cb⟩|⟨e,_⟩
 ·exact⟨by unfold VO;rw[Ab rfl],(h3 ⟨Bu,Cb,hu,hs⟩).1,DU.upd hu⟩
 ·cases e
end
theorem D9.put{B:Nat}{w0 w w':World}{b y n N k:Nat}{A:M}{L:List (Nat×Obj)}{cs:Array Value}{t:TypeId}{o':Obj}(h:D9 B w0 w b y n N A ((k,.cells cs t) :: L))(ht:t≠9)(hne:∀ o,(k,o)∉L)(hB:B≤k)(hu:A7 (fun j=>j=k) w w')(ho:w'.heap[k]?=some o'):D9 B w0 w' b y n N A ((k,o') :: L):=by
 obtain⟨⟨h1,h2,hx,bl,h3,h4⟩,ha⟩:=h;have hk:=ha k _ Dg;refine⟨⟨Ca h1 hu (fun j hj=>by subst hj;exact hB) h2,Ap h2 hu.size,fun j ⟨o,hj⟩=>?_,bl,h3.upd hu (fun j hj e=>?_) (fun j hj e=>(h4 j hj).2 (by subst e;exact⟨_,Dg⟩)),fun j hj=>⟨(h4 j hj).1,fun⟨o,hm⟩=>?_⟩⟩,fun j o hj=>?_⟩
 ·rcases Bt.1 hj with e|e
  ·cases e;exact(CR.1 ho).1
  ·exact DK (hx j ⟨o,DT _ e⟩) hu.size
 ·subst e;exact AA.ne hj ⟨_,_,hk⟩ (fun e=>ht e.symm) rfl
 ·rcases Bt.1 hm with e|e
  ·cases e;exact(h4 _ hj).2 ⟨_,Dg⟩
  ·exact(h4 j hj).2 ⟨o,DT _ e⟩
 ·rcases Bt.1 hj with e|e
  ·cases e;exact ho
  ·have KN:=ha j o (DT _ e);exact(hu.block j (CR.1 KN).1 (fun f=>by subst f;exact hne o e)).trans KN
def Tc(a b c:Int):Obj:=.cells #[.int .i64 a,.int .i64 b,.int .i64 c] 42
theorem D9.swB{B:Nat}{w0 w:World}{b y n N k:Nat}{A:M}{L:List (Nat×Obj)}{x1 x2 x3:Int}(h:D9 B w0 w b y n N A L)(Be:(k,Tc x1 x2 x3)∈L):w.cell? ⟨k,0,none⟩=some (.int .i64 x1)∧w.cell? ⟨k,1,none⟩=some (.int .i64 x2)∧w.cell? ⟨k,2,none⟩=some (.int .i64 x3)∧w.frozen? ⟨k,0,none⟩=false∧w.frozen? ⟨k,1,none⟩=false∧w.frozen? ⟨k,2,none⟩=false:=by
 have hk:=h.at_ k _ Be;exact⟨h.cell Be 0,h.cell Be 1,h.cell Be 2,CJ _ _ 0 _ _ hk,CJ _ _ 1 _ _ hk,CJ _ _ 2 _ _ hk⟩
theorem uw{w:World}{k:Nat}{x1 x2 x3 y1 y2 y3:Int}(h:w.heap[k]?=some (Tc x1 x2 x3)):
  A7 (fun j=>j=k) w (((w.setCell ⟨k,0,none⟩ (.int .i64 y1)).setCell ⟨k,1,none⟩ (.int .i64 y2)).setCell ⟨k,2,none⟩ (.int .i64 y3))∧(((w.setCell ⟨k,0,none⟩ (.int .i64 y1)).setCell ⟨k,1,none⟩ (.int .i64 y2)).setCell ⟨k,2,none⟩ (.int .i64 y3)).heap[k]?=some (Tc y1 y2 y3):=by
 refine⟨(((A7.refl (fun j=>j=k) w).setCell (p:=⟨k,0,none⟩) (.inl rfl) _).setCell (p:=⟨k,1,none⟩) (.inl rfl) _).setCell (p:=⟨k,2,none⟩) (.inl rfl) _,?_⟩;have h1:=BU w k 0 _ _ (.int .i64 y1) h;have h2:=BU _ k 1 _ _ (.int .i64 y2) h1;exact BU _ k 2 _ _ (.int .i64 y3) h2
theorem DU.box{w w':World}{k:Nat}{o:Int×Int×Int}(hk:w.heap[k]?=some (Tc o.1 o.2.1 o.2.2))(hu:A7 (fun j=>j=k) w w'):DU w w':=
 ⟨fun _ _ _ h=>Bh h hu (fun j hj e=>by subst e;exact AA.ne (BQ h hj) ⟨_,_,hk⟩ (by decide) rfl),fun _ _ _ _ h=>h.upd hu (fun j hj e=>by subst e;exact AA.ne hj ⟨_,_,hk⟩ (by decide) rfl) (fun j hj e=>by subst e;exact AA.ne hj ⟨_,_,hk⟩ (by decide) rfl),fun _ _ _ h=>Bh h hu (fun j hj e=>by subst e;exact AA.ne (BQ h hj) ⟨_,_,hk⟩ (by decide) rfl)⟩
def aeZ:Prop:=∀ w,Calls prog 6 #[] w fun e w'=>e=.returned (.bool true)∧Bw w w'
end Hv
namespace IE
open Go.RowKit Go.Maps
open Wal Fil Man Prs Kp Cm Hex Sha Al Mem Dep
theorem ayC(d:Nat)(w:World):Calls prog 43 #[.pointer none,.pointer (some ⟨d,0,none⟩)] w fun e w'=>e=.returned (.int .i64 1)∧w=w':=by
 go_enter func43,ntmps43;go_wp2_with fail;go_ret;exact⟨rfl,rfl⟩
theorem axe(d:Nat)(w:World):Calls prog 23 #[.pointer none,.pointer (some ⟨d,0,none⟩),.slice none 0 0] w fun e w'=>e=.returned (.tuple #[.slice none 0 0,.slice none 0 0,.int .i64 1])∧Bw w w':=by
 go_enter func23,ntmps23;go_wp2_with fail;refine(ayC _ _).mono ?_;rintro e w1⟨rfl,rfl⟩;go_wp2_with fail;go_ret3;exact⟨rfl,Af _ _⟩
theorem azm(pd:Nat)(w:World):Calls prog 9 #[.pointer none,.pointer (some ⟨pd,0,none⟩),.slice none 0 0] w fun e w'=>e=.returned (.tuple #[.agg #[.int .i64 0,.int .i64 0,.int .i64 0],.int .i64 1])∧Bw w w':=by
 obtain⟨U,hU⟩:=ex (((w.alloc (.cells #[.pointer none] 36)).alloc (.cells #[.pointer (some ⟨pd,0,none⟩)] 37)).alloc (.cells #[.int .i64 0,.int .i64 0,.int .i64 0] 42));obtain⟨u0,u1,u2,Vi,jS⟩:U.heap[w.heap.size]?=some (.cells #[.pointer none] 36)∧U.heap[w.heap.size+1]?=some (.cells #[.pointer (some ⟨pd,0,none⟩)] 37)∧U.heap[w.heap.size+1+1]?=some (.cells #[.int .i64 0,.int .i64 0,.int .i64 0] 42)∧Bw w U∧U.heap.size=w.heap.size+3:=by
  have Mt:=AJ w (.cells #[.pointer none] 36);have Bq:=Aw w (.cells #[.pointer none] 36);have KX:=Aq w (.cells #[.pointer none] 36);generalize w.alloc (.cells #[.pointer none] 36)=V at*;have DI:=AJ V (.cells #[.pointer (some ⟨pd,0,none⟩)] 37);have Ad:=Aw V (.cells #[.pointer (some ⟨pd,0,none⟩)] 37);have MB:=Aq V (.cells #[.pointer (some ⟨pd,0,none⟩)] 37);generalize V.alloc (.cells #[.pointer (some ⟨pd,0,none⟩)] 37)=V1 at*;have EP:=AJ V1 (.cells #[.int .i64 0,.int .i64 0,.int .i64 0] 42);have A8:=Aw V1 (.cells #[.int .i64 0,.int .i64 0,.int .i64 0] 42);have Kl:=Aq V1 (.cells #[.int .i64 0,.int .i64 0,.int .i64 0] 42);rw[hU] at EP A8 Kl;rw[MB,KX] at EP;rw[KX] at DI;have jG:=(A8.block _ (Ai DI)).trans DI;have aaL:=(A8.block _ (DK (Ai Mt) Ad.size)).trans ((Ad.block _ (Ai Mt)).trans Mt);exact⟨aaL,jG,EP,Bq.trans ((Ad.trans (A8.mono Ad.size)).mono Bq.size),by omega⟩
 have JV:=Hi u2;have D8:=Hi Vi;have yT:U.cell? ⟨w.heap.size,0,none⟩=some (.pointer none):=cr u0;have o7:U.cell? ⟨w.heap.size+1,0,none⟩=some (.pointer (some ⟨pd,0,none⟩)):=cr u1;have Jn:=Hi (axe pd U);clear u0 u1 u2 Vi jS;go_enter func9,ntmps9;go_wp2_with fail;clear hU;refine Jn.mono ?_;rintro e w1⟨rfl,Ad⟩;have OM:Bw U ((w1.alloc (.cells #[.slice none 0 0] 27)).alloc (.cells #[.slice none 0 0] 27)):=(Ad.alloc Ad.size _).alloc (by rw[Aq];have:=Ad.size;omega) _;have h2:=(OM.block _ (Ai JV)).trans JV.out;have HB1:=Hi (D8.trans (OM.mono D8.size));have hlt:w.heap.size+1+1 < w1.heap.size:=DK (Ai JV) Ad.size;have c0:((w1.alloc (.cells #[.slice none 0 0] 27)).alloc (.cells #[.slice none 0 0] 27)).cell? ⟨w.heap.size+1+1,0,none⟩=some (.int .i64 0):=cr h2;have c1:((w1.alloc (.cells #[.slice none 0 0] 27)).alloc (.cells #[.slice none 0 0] 27)).cell? ⟨w.heap.size+1+1,1,none⟩=some (.int .i64 0):=cr h2;have c2:((w1.alloc (.cells #[.slice none 0 0] 27)).alloc (.cells #[.slice none 0 0] 27)).cell? ⟨w.heap.size+1+1,2,none⟩=some (.int .i64 0):=cr h2;have f0:=CJ _ _ 0 _ _ h2;have f1:=CJ _ _ 1 _ _ h2;have f2:=CJ _ _ 2 _ _ h2;have hz:=rG (a2:=0) (b2:=0) (c2:=0) h2;have HZ:=Hi (show Bw w (((((w1.alloc (.cells #[.slice none 0 0] 27)).alloc (.cells #[.slice none 0 0] 27)).setCell ⟨w.heap.size+1+1,0,none⟩ (.int .i64 0)).setCell ⟨w.heap.size+1+1,1,none⟩ (.int .i64 0)).setCell ⟨w.heap.size+1+1,2,none⟩ (.int .i64 0)) from Ca HB1 hz.2 (fun i e=>by rw[e];omega) HB1.size);have KZ:=hz.1
 have YC:(((((w1.alloc (.cells #[.slice none 0 0] 27)).alloc (.cells #[.slice none 0 0] 27)).setCell ⟨w.heap.size+1+1,0,none⟩ (.int .i64 0)).setCell ⟨w.heap.size+1+1,1,none⟩ (.int .i64 0)).setCell ⟨w.heap.size+1+1,2,none⟩ (.int .i64 0)).cell? ⟨w.heap.size+1+1,0,none⟩=some (.int .i64 0):=cr KZ;have YD:(((((w1.alloc (.cells #[.slice none 0 0] 27)).alloc (.cells #[.slice none 0 0] 27)).setCell ⟨w.heap.size+1+1,0,none⟩ (.int .i64 0)).setCell ⟨w.heap.size+1+1,1,none⟩ (.int .i64 0)).setCell ⟨w.heap.size+1+1,2,none⟩ (.int .i64 0)).cell? ⟨w.heap.size+1+1,1,none⟩=some (.int .i64 0):=cr KZ;have YE:(((((w1.alloc (.cells #[.slice none 0 0] 27)).alloc (.cells #[.slice none 0 0] 27)).setCell ⟨w.heap.size+1+1,0,none⟩ (.int .i64 0)).setCell ⟨w.heap.size+1+1,1,none⟩ (.int .i64 0)).setCell ⟨w.heap.size+1+1,2,none⟩ (.int .i64 0)).cell? ⟨w.heap.size+1+1,2,none⟩=some (.int .i64 0):=cr KZ;clear Ad h2 OM hz KZ;go_wp2_with fail;refine El (v:=.tuple #[.agg #[.int .i64 0,.int .i64 0,.int .i64 0],.int .i64 1]) (uA results9 _ _ (w.heap.size+1+1) 0 0 0 (by rfl) YC YD YE) rfl ?_;exact⟨rfl,HZ⟩
end IE
namespace Hv
open Go.RowKit Go.Maps
open Wal Fil Prs Kp Cm Hex Sha Al Mem Dep IE
open Man hiding T
theorem arH:nN 200 Na Nb []:=
 ⟨by decide,by decide,by decide,by decide,by decide,by decide,by decide,by decide,by decide,by decide⟩
theorem axr{w:World}(l:M)(hl:l.length≤1000){cs:Array Value}(hc:cs=(Da l).toArray){g:Nat}(hg:w.heap.size=g):Bo (w.alloc (.cells cs 75)) w.heap.size (.slice (some ⟨g,0,none⟩) l.length l.length) l:=by
 subst hc hg;have:=World.ownsRow_lit (base:=w.heap.size) (e:=75) (size:=2) w (Da l).toArray l.length (Ac _) (by unfold maxLen;omega) (by simp[bf]);exact this
theorem aAa{w:World}(L:List (T×Value))(us:Us)(hl:L.length≤1000)(hlen:L.length=us.length)(he:∀ i (h:i < L.length) (h2:i < us.length),L[i].1=us[i].1∧Man.Bp w 0 L[i].2 us[i].2){cs:Array Value}(hc:cs=(Pn L).toArray){g:Nat}(hg:w.heap.size=g)(BH:(Pn L).length=L.length*2):Jp (w.alloc (.cells cs 77)) 0 (.slice (some ⟨g,0,none⟩) L.length L.length) us L:=by
 subst hc hg;have:=World.ownsRow_lit (base:=0) (e:=77) (size:=2) w (Pn L).toArray L.length (AB _) (by unfold maxLen;omega) (by simp[BH]);exact⟨this,hlen,fun i h h2=>⟨(he i h h2).1,C9 (he i h h2).2 (Aw w _)⟩⟩
end Hv
end Go.Proofs.YtmbbhdebddbhoaaGreat
