/- KeepP SwpP FckP HexP LinP HexW RefFil PrsW PrsX PrsY PrsPut -/
import Derived.Test.YtkmninbcgipliaaGreatDoorV7
import Derived.Lib.SplitLaws
set_option maxHeartbeats 4000000
set_option maxRecDepth 100000
set_option linter.all false
namespace Go.Proofs.YtkmninbcgipliaaGreatDoor
open Tryz
namespace Kp
open Go.Lib Ag Ar Av Bt
structure Kind where
 nm:T→T
 ours:T→Bool
 ok:T×T→Bool
structure Kind.BO(K:Kind):Prop where
 Nq:∀ k,K.ours (K.nm k)=true
 len:∀ k,(K.nm k).length=17
section
variable {K:Kind}{A:M}
def Kind.CB(K:Kind)(name data:T):Option M:=aL K.nm (fun p=>K.ok p=true) name data
def fileOf(K:Kind)(A:M)(name:T):Option M:=(get A name).bind (K.CB name)
def Cq(K:Kind)(A:M)(k:T):Option T:=(fileOf K A (K.nm k)).bind fun l=>get l k
def EG(K:Kind)(A:M):M:=A.flatMap fun p=>if K.ours p.1=true then(K.CB p.1 p.2).getD [] else[]
def Bn(K:Kind)(A:M):List T:=E8 (EG K A)
theorem Nr{name data:T}{l:M}(h:K.CB name data=some l):l≠[]∧Up l∧(∀ p∈l,K.nm p.1=name∧K.ok p=true)∧∃ s,FO l=some s∧data=A9.Fx s:=azA h
theorem fI(hK:K.BO)(hu:Up A)(k v:T):(k,v)∈EG K A↔Cq K A k=some v:=by
 unfold EG;rw[Nv];constructor
 ·rintro⟨p,hp,hm⟩;split at hm
  ·cases hr:K.CB p.1 p.2 with
   |none=>rw[hr] at hm;simp at hm
   |some l=>
    rw[hr] at hm;simp only[Option.getD_some] at hm;obtain⟨_,h2,h3,_⟩:=Nr hr;have hn:K.nm k=p.1:=(h3 _ hm).1;unfold Cq fileOf;rw[hn,get_mem hu (show(p.1,p.2)∈A from hp)];simp only[CL];rw[hr];simp only[CL];exact get_mem h2 hm
  ·simp at hm
 ·intro h;unfold Cq fileOf at h;cases hg:get A (K.nm k) with
  |none=>rw[hg] at h;cases h
  |some d=>
   rw[hg] at h;simp only[CL] at h;cases hr:K.CB (K.nm k) d with
   |none=>rw[hr] at h;cases h
   |some l=>
    rw[hr] at h;simp only[CL] at h;refine⟨(K.nm k,d),get_some hg,?_⟩;rw[Ad (hK.Nq k),hr];exact get_some h
theorem Sd(hK:K.BO)(hu:Up A)(k:T):k∈Bn K A↔(Cq K A k).isSome=true:=by
 unfold Bn E8;rw[Ee,Bz];constructor
 ·rintro⟨p,hp,rfl⟩;rw[(fI hK hu p.1 p.2).1 hp];rfl
 ·intro h;obtain⟨v,hv⟩:=Lh.1 h;exact⟨(k,v),(fI hK hu k v).2 hv,rfl⟩
theorem acn:Lv (Bn K A):=JQ _
theorem al3{A':M}(hK:K.BO)(hu:Up A)(Wx:Up A')(h:∀ k,(Cq K A k).isSome=(Cq K A' k).isSome):Bn K A=Bn K A':=
 Re acn acn fun k=>by rw[Sd hK hu,Sd hK Wx,h k]
theorem zU:∀ {A:M},Up A→((EG K A).map (·.1)).Nodup
 |[],_=>by simp[EG]
 |p :: A,h=>by
  obtain⟨h1,h2⟩:=JV.1 h;have ih:=zU h2;unfold EG at ih ⊢;rw[Qg,CK,List.nodup_append];refine⟨?_,ih,fun a ha b hb=>?_⟩
  ·split
   ·cases hr:K.CB p.1 p.2 with
    |none=>simp
    |some l=>exact(Nr hr).2.1.nodup
   ·simp
  ·rintro rfl;obtain⟨x,hx,rfl⟩:=Bz.1 ha;obtain⟨y,hy,e⟩:=Bz.1 hb;have n1:K.nm x.1=p.1:=by
    split at hx
    ·cases hr:K.CB p.1 p.2 with
     |none=>rw[hr] at hx;simp at hx
     |some l=>rw[hr] at hx;exact((Nr hr).2.2.1 _ hx).1
    ·simp at hx
   obtain⟨q,hq,hy⟩:=Nv.1 hy;have n2:K.nm y.1=q.1:=by
    split at hy
    ·cases hr:K.CB q.1 q.2 with
     |none=>rw[hr] at hy;simp at hy
     |some l=>rw[hr] at hy;exact((Nr hr).2.2.1 _ hy).1
    ·simp at hy
   have:=h1 q hq;rw[←n1,←n2,e] at this;exact Sc _ this
theorem av(hu:Up A):(Bn K A).length=(EG K A).length:=by
 have:=(amZ ((EG K A).map (·.1))).2 (zU hu);rw[BP] at this;exact this
def J6(K:Kind)(A:M)(ks:List T)(name:T):M:=((fileOf K A name).getD []).filter fun p=>decide (p.1∉ks)
def Uv(K:Kind)(A:M)(ks:List T)(name:T):Am:=if J6 K A ks name=[] then⟨name,[],true⟩ else⟨name,(BV (J6 K A ks name)).getD [],false⟩
def Fj(K:Kind)(A:M)(ks:List T):List Am:=(Bi (ks.map K.nm)).map (Uv K A ks)
theorem jm(ks:List T)(name:T):(Uv K A ks name).name=name:=by unfold Uv;split<;>rfl
theorem ao7{l k:M}(h:k.Sublist l):∀ {a:T},BK (flat l)=some a→∃ b,BK (flat k)=some b∧b.length≤a.length:=by
 induction h with
 |slnil=>exact fun {a} h=>⟨a,h,Ae _⟩
 | @cons k' l' x h ih=>
  intro a ha;rw[Xx] at ha;simp only[BK] at ha;cases h1:Eg x.1 with
  |none=>rw[h1] at ha;cases ha
  |some u=>
   cases h2:Eg x.2 with
   |none=>rw[h1,h2] at ha;cases ha
   |some v=>
    cases h3:BK (flat l') with
    |none=>rw[h1,h2,h3] at ha;cases ha
    |some c=>
     rw[h1,h2,h3] at ha;simp only[CL,EK,Ci] at ha;subst ha;obtain⟨b,hb,hl⟩:=ih h3;exact⟨b,hb,by simp only[AA];omega⟩
 | @cons_cons k' l' x h ih=>
  intro a ha;rw[Xx] at ha ⊢;simp only[BK] at ha ⊢;cases h1:Eg x.1 with
  |none=>rw[h1] at ha;cases ha
  |some u=>
   cases h2:Eg x.2 with
   |none=>rw[h1,h2] at ha;cases ha
   |some v=>
    cases h3:BK (flat l') with
    |none=>rw[h1,h2,h3] at ha;cases ha
    |some c=>
     rw[h1,h2,h3] at ha;simp only[CL,EK,Ci] at ha;subst ha;obtain⟨b,hb,hl⟩:=ih h3;rw[hb];simp only[CL,EK];exact⟨_,rfl,by simp only[AA];omega⟩
theorem arE{l k:M}(h:k.Sublist l){s:T}(hs:FO l=some s)(hl:s.length+4≤65535):∃ d,BV k=some d∧d.length≤s.length+4:=by
 unfold FO at hs;split at hs
 ·rename_i hn
  cases h1:BK (flat l) with
  |none=>rw[h1] at hs;cases hs
  |some a=>
   rw[h1] at hs;simp only[EK,Ci] at hs;subst hs;obtain⟨b,hb,CP⟩:=ao7 h h1;have Dw:=h.length_le;rw[AA,A9.C9] at hl;unfold BV FO;rw[Ad (by omega),hb];simp only[EK,CL];rw[Ad (by rw[AA,A9.C9];omega)];exact⟨_,rfl,by rw[A9.Sl,AA,AA,A9.C9,A9.C9];omega⟩
 ·cases hs
def There(K:Kind)(A:M)(ks:List T):Prop:=∀ k∈ks,(Cq K A k).isSome=true
theorem ah2{ks:List T}(h:There K A ks){name:T}(hn:name∈Bi (ks.map K.nm)):∃ d l,get A name=some d∧K.CB name d=some l∧fileOf K A name=some l:=by
 rw[Ee] at hn;obtain⟨k,hk,rfl⟩:=Bz.1 hn;have h1:=h k hk;unfold Cq at h1;cases hf:fileOf K A (K.nm k) with
 |none=>rw[hf] at h1;simp at h1
 |some l=>
  have hf':=hf;unfold fileOf at hf;cases hg:get A (K.nm k) with
  |none=>rw[hg] at hf;cases hf
  |some d=>
   rw[hg] at hf;exact⟨d,l,rfl,hf,rfl⟩
theorem dm(hg:Ag.Good A){ks:List T}(h:There K A ks){name:T}(hn:name∈Bi (ks.map K.nm)):
  ∃ d l,get A name=some d∧K.CB name d=some l∧fileOf K A name=some l∧(Uv K A ks name).data.length≤d.length∧
   ((l.filter (fun p=>decide (p.1∉ks))=[]∧Uv K A ks name=⟨name,[],true⟩)∨
    ∃ s,l.filter (fun p=>decide (p.1∉ks))≠[]∧BV (l.filter fun p=>decide (p.1∉ks))=some s∧Uv K A ks name=⟨name,s,false⟩∧s.length≤65535):=by
 obtain⟨d,l,h1,h2,h3⟩:=ah2 h hn;obtain⟨_,hu,Jm,s,hs,hd⟩:=Nr h2;have Ms:d.length≤65535:=by
  have:=hg _ (get_some h1);unfold Fu at this;simp at this;exact this.2.2
 have CG:s.length+4=d.length:=by rw[hd,A9.Sl]
 obtain⟨c,hc,BN⟩:=arE (List.filter_sublist (p:=fun p:T×T=>decide (p.1∉ks)) (l:=l)) hs (by omega);refine⟨d,l,h1,h2,h3,?_,?_⟩
 ·unfold Uv J6;rw[h3];simp only[Option.getD_some];split
  ·exact AV _
  ·rw[hc];simp only[Option.getD_some];omega
 ·unfold Uv J6;rw[h3];simp only[Option.getD_some];split
  ·rename_i e
   exact .inl ⟨e,rfl⟩
  ·rename_i e
   exact .inr ⟨c,e,hc,by rw[hc];rfl,by omega⟩
theorem aC6{F:M}(hu:Up F)(c:Am){d:T}(hg:get F c.name=some d)(hl:c.data.length≤d.length):used (Am.on F c)≤used F:=by
 have hm:=get_some hg;have rR:(del c.name F |>.map cost).sum+cost (c.name,d)=(F.map cost).sum:=by
  have e:(put c.name d F)=F:=aU (hu.put _ _) hu fun p=>by
   rw[TQ hu];constructor
   ·rintro(rfl|⟨h,_⟩)
    ·exact hm
    ·exact h
   ·intro hp;by_cases e:p.1=c.name
    ·refine .inl ?_;have h1:=get_mem hu (show(p.1,p.2)∈F from hp);rw[e,hg] at h1;injection h1 with h1
     rw[←e,h1]
    ·exact .inr ⟨hp,e⟩
  have:=((aK (v:=d) hu c.name).map cost).sum_nat;rw[e,Ca,DR] at this;omega
 unfold Am.on used;split
 ·omega
 ·have hp:=((aK (v:=c.data) hu c.name).map cost).sum_nat;rw[hp,Ca,DR];unfold cost at rR ⊢;simp only at rR ⊢;omega
theorem adR:∀ {l:List Am} {F:M},Up F→(l.map (·.name)).Nodup→(∀ c∈l,∃ d,get F c.name=some d∧c.data.length≤d.length)→used (made F l)≤used F
 |[],F,_,_,_=>Ae _
 |c :: l,F,hu,hn,h=>by
  obtain⟨n1,n2⟩:=Js.1 hn;obtain⟨d,h1,h2⟩:=h c (by simp);refine Aw (adR (F:=Am.on F c) (hu.on c) n2 fun x hx=>?_) (aC6 hu c h1 h2);obtain⟨e,h3,h4⟩:=h x (F9 _ hx);have hne:x.name≠c.name:=fun e=>n1 (show c.name∈l.map (·.name) from by rw[←e];exact Hu hx)
  refine⟨e,?_,h4⟩;unfold Am.on;split
  ·rw[jA hu,Ab hne,h3]
  ·rw[get_put hu,Ab hne,h3]
theorem VU(ks:List T):(Fj K A ks).map (·.name)=Bi (ks.map K.nm):=by
 unfold Fj;rw[Kq]
 conv=>rhs;rw[←List.map_id (Bi (ks.map K.nm))]
 exact P8 fun x _=>jm ks x
theorem WM(l:List T):(Bi l).Nodup:=by
 rw[List.nodup_iff_pairwise_ne];exact(JQ l).imp fun h=>KZ h
theorem agH(hK:K.BO){n:Nat}(hu:Up A)(hg:Ag.Good A)(hr:used A≤Co n){ks:List T}(h:There K A ks):FC n A (Fj K A ks)=0∧En n A (Fj K A ks)=made A (Fj K A ks)∧used (made A (Fj K A ks))≤used A∧(∀ c∈Fj K A ks,c.may=true):=by
 have Mv:∀ c∈Fj K A ks,c.may=true:=by
  intro c hc;unfold Fj at hc;obtain⟨name,hn,rfl⟩:=Bz.1 hc;obtain⟨d,l,h1,h2,h3,h4,h5⟩:=dm hg h hn;have hl:name.length=17:=by
   rw[Ee] at hn;obtain⟨k,_,rfl⟩:=Bz.1 hn;exact hK.len k
  have hne:name≠[]:=fun e=>by rw[e] at hl;cases hl
  rcases h5 with⟨_,e⟩|⟨s,_,_,e,CG⟩
  ·rw[e];unfold Am.may Fu;simp[hne,hl]
  ·rw[e];unfold Am.may Fu;simp[hne,hl,CG]
 have FM:used (made A (Fj K A ks))≤used A:=adR hu (by rw[VU];exact WM _) fun c hc=>by
  unfold Fj at hc;obtain⟨name,hn,rfl⟩:=Bz.1 hc;obtain⟨d,l,h1,h2,h3,h4,h5⟩:=dm hg h hn;exact⟨d,by rw[jm];exact h1,h4⟩
 have hall:(Fj K A ks).all Am.may=true:=by rw[MH];exact Mv
 refine⟨?_,?_,FM,Mv⟩
 ·unfold FC;rw[hall,Ab (by simp),Ab (by omega)]
 ·unfold En;rw[Ad ⟨hall,by omega⟩]
theorem asZ{l:List Am}(hn:(l.map (·.name)).Nodup){c:Am}(hc:c∈l):l.reverse.find? (fun x=>x.name == c.name)=some c:=by
 have hr:(l.reverse.map (·.name)).Nodup:=by rw[List.map_reverse];exact(List.reverse_perm _).nodup_iff.2 hn
 have NP:c∈l.reverse:=List.mem_reverse.2 hc;generalize l.reverse=r at*
 induction r with
 |nil=>simp at NP
 |cons x r ih=>
  obtain⟨n1,n2⟩:=Js.1 hr;rcases Cc.1 NP with e|e
  ·subst e;simp
  ·have:x.name≠c.name:=fun e'=>n1 (show x.name∈r.map (·.name) from by rw[e'];exact Hu e)
   rw[List.find?_cons_of_neg (by simpa using this)];exact ih n2 e
theorem aaf{F:M}(hu:Up F){l:List Am}(hn:(l.map (·.name)).Nodup){c:Am}(hc:c∈l):get (made F l) c.name=if c.gone then none else some c.data:=by
 rw[ahM hu,asZ hn hc]
theorem jB{F:M}(hu:Up F){l:List Am}{k:T}(h:k∉l.map (·.name)):get (made F l) k=get F k:=by
 have:l.reverse.find? (fun c=>c.name == k)=none:=by
  rw[List.find?_eq_none];intro x hx;have:x.name≠k:=fun e=>h (by rw[←e];exact Hu (List.mem_reverse.1 hx))
  simpa using this
 rw[ahM hu,this]
theorem get_filter{l:M}(hu:Up l)(p:T×T→Bool)(k:T):get (l.filter p) k=(get l k).bind fun v=>if p (k,v) then some v else none:=by
 cases hg:get l k with
 |none=>
  rw[get_none] at hg;exact get_none.2 fun x hx=>hg x ((FZ.1 hx).1)
 |some v=>
  have hm:=get_some hg;simp only[CL];split
  ·rename_i hp
   exact get_mem (hu.filter _) (FZ.2 ⟨hm,hp⟩)
  ·rename_i hp
   refine get_none.2 fun x hx e=>?_
   obtain⟨h1,h2⟩:=FZ.1 hx;have:=get_mem hu (show(x.1,x.2)∈l from h1);rw[e,hg] at this;injection this with this
   rw[this,←e] at hp;exact hp h2
theorem ah0{l:List Am}(hu:Up A){name:T}(h:name∉l.map (·.name)):fileOf K (made A l) name=fileOf K A name:=by
 unfold fileOf;rw[jB hu h]
theorem asg(hu:Up A)(hg:Ag.Good A){ks:List T}(h:There K A ks)(k:T):Cq K (made A (Fj K A ks)) k=if k∈ks then none else Cq K A k:=by
 have eO:((Fj K A ks).map (·.name)).Nodup:=by rw[VU];exact WM _
 by_cases hn:K.nm k∈Bi (ks.map K.nm)
 ·obtain⟨d,l,h1,h2,h3,h4,h5⟩:=dm hg h hn;obtain⟨_,I9,Jm,_⟩:=Nr h2;have NV:Uv K A ks (K.nm k)∈Fj K A ks:=Hu hn;have Jk:=aaf hu eO NV;rw[jm] at Jk;have hv:Cq K A k=get l k:=by unfold Cq;rw[h3];rfl
  rw[hv];have aja:get (l.filter fun p=>decide (p.1∉ks)) k=if k∈ks then none else get l k:=by
   rw[get_filter I9];cases get l k with
   |none=>simp
   |some v=>by_cases e:k∈ks<;>simp[e]
  rw[←aja];rcases h5 with⟨e1,e2⟩|⟨s,e0,e1,e2,_⟩
  ·rw[e2] at Jk;unfold Cq fileOf;rw[Jk,e1];rfl
  ·rw[e2] at Jk;simp only[Bool.false_eq_true,if_false] at Jk;unfold Cq fileOf;rw[Jk];simp only[CL];rw[show K.CB (K.nm k) s=some (l.filter fun p=>decide (p.1∉ks)) from ad3 e1 e0 (I9.filter _) fun p hp=>Jm p ((FZ.1 hp).1)];rfl
 ·have hk:k∉ks:=fun e=>hn ((Ee _ _).2 (Hu e))
  rw[Ab hk];unfold Cq;rw[ah0 hu (by rw[VU];exact hn)]
theorem asf{K':Kind}(hK:K.BO)(jI:K'.BO)(hd:∀ x,K.ours x=true→K'.ours x=true→False)(hu:Up A)(ks:List T)(k:T):Cq K' (made A (Fj K A ks)) k=Cq K' A k:=by
 unfold Cq;rw[ah0 hu];rw[VU,Ee];intro hm;obtain⟨j,_,e⟩:=Bz.1 hm;exact hd _ (hK.Nq j) (by rw[e];exact jI.Nq k)
end
end Kp
namespace BI
open Go.Lib Ag Ar Av Bt Kp
structure Jf where
 m:Kind
 d:Kind
structure Jf.BO(P:Jf):Prop where
 m:P.m.BO
 d:P.d.BO
 apart:∀ x,P.m.ours x=true→P.d.ours x=true→False
structure May(n:Nat)(A:M):Prop where
 up:Up A
 good:Ag.Good A
 room:used A≤Co n
section
variable {P:Jf}{n:Nat}{A:M}{roots:List T}
def mV(P:Jf)(A:M)(k:T):Option T:=Cq P.m A k
def dV(P:Jf)(A:M)(r:T):Option T:=Cq P.d A r
def alv(P:Jf)(A:M):List T:=Bn P.m A
def Xt(P:Jf)(A:M):List T:=Bn P.d A
def Ko(P:Jf)(A:M)(r:T):List T:=((dV P A r).bind Dp).getD []
def Used(P:Jf)(A:M)(k:T):Prop:=∃ r∈Xt P A,k∈Ko P A r
instance (P:Jf) (A:M) (k:T):Decidable (Used P A k):=inferInstanceAs (Decidable (∃ r∈Xt P A,_))
def R8(P:Jf)(A:M):List T:=(alv P A).filter fun k=>decide (¬ Used P A k)
theorem axT{K:Kind}(hK:K.BO)(h:May n A){ks:List T}(ht:There K A ks):May n (made A (Fj K A ks)):=by
 obtain⟨_,_,h3,h4⟩:=agH hK h.up h.good h.room ht;exact⟨h.up.made _,h.good.made h.up h4,Aw h3 h.room⟩
theorem alJ(hP:P.BO)(h:May n A)(r:T):r∈Xt P A↔(dV P A r).isSome=true:=Sd hP.d h.up r
theorem aom{A':M}{r:T}(h:dV P A' r=dV P A r):Ko P A' r=Ko P A r:=by unfold Ko;rw[h]
end
end BI
namespace EX
open Go.Lib Ag Ar Av Bt Kp BI
section
variable {K:Kind}{P:Jf}{n:Nat}{A:M}
def CR(K:Kind)(A:M):List T:=(A.filter fun p=>K.ours p.1 && (K.CB p.1 p.2).isNone).map (·.1)
theorem J8(hu:Up A)(name:T):name∈CR K A↔K.ours name=true∧∃ d,get A name=some d∧K.CB name d=none:=by
 unfold CR;rw[Bz];constructor
 ·rintro⟨p,hp,rfl⟩;obtain⟨h1,h2⟩:=FZ.1 hp;simp only[Bool.and_eq_true,Option.isNone_iff_eq_none] at h2;exact⟨h2.1,p.2,get_mem hu (show(p.1,p.2)∈A from h1),h2.2⟩
 ·rintro⟨h1,d,h2,h3⟩;exact⟨(name,d),FZ.2 ⟨get_some h2,by simp[h1,h3]⟩,rfl⟩
def Nu(P:Jf)(A:M):List (T×T):=(Xt P A).flatMap fun r=>((Ko P A r).filter fun k=>(mV P A k).isNone).map fun k=>(r,k)
theorem um(r k:T):(r,k)∈Nu P A↔r∈Xt P A∧k∈Ko P A r∧mV P A k=none:=by
 unfold Nu;rw[Nv];constructor
 ·rintro⟨x,hx,hm⟩;obtain⟨y,hy,e⟩:=Bz.1 hm;obtain⟨h1,h2⟩:=FZ.1 hy;obtain⟨rfl,rfl⟩:=Prod.mk.inj e;exact⟨hx,h1,by simpa using h2⟩
 ·rintro⟨h1,h2,h3⟩;exact⟨r,h1,Bz.2 ⟨k,FZ.2 ⟨h2,by simp[h3]⟩,rfl⟩⟩
def UA(P:Jf)(A:M):List T:=CR P.m A++CR P.d A
def Hg(P:Jf)(A:M):List Am:=(UA P A).map fun x=>⟨x,[],true⟩
def J9(P:Jf)(A:M):M:=made A (Hg P A)
def M3(P:Jf)(A:M):List T:=Bi ((Nu P A).map (·.1))
def Iw(P:Jf)(A:M):M:=made (J9 P A) (Fj P.d (J9 P A) (M3 P A))
theorem ads{α:Type}{p:List α→Prop}(h0:p [])(h1:∀ l x,p l→p (l++[x]))(l:List α):p l:=by
 have key:∀ k:List α,p k.reverse:=fun k=>by
  induction k with
  |nil=>exact h0
  |cons x k ih=>rw[List.reverse_cons];exact h1 _ _ ih
 have:=key l.reverse;rwa[List.reverse_reverse] at this
theorem au3(hu:Up A)(l:List T)(x:T):get (made A (l.map fun x=>(⟨x,[],true⟩:Am))) x=if x∈l then none else get A x:=by
 induction l using ads with
 |h0=>rfl
 |h1 l y ih=>
  rw[CK,List.map_singleton,ug]
  show get (del y _) x=_
  rw[jA (Up.made hu _),ih];by_cases e:x=y
  ·rw[Ad e,Ad (by simp[e])]
  ·rw[Ab e];by_cases h:x∈l
   ·rw[Ad h,Ad (by simp[h])]
   ·rw[Ab h,Ab (by simp[h,e])]
theorem aag(hu:Up A)(x:T):get (J9 P A) x=if x∈UA P A then none else get A x:=au3 hu _ x
theorem uu(hu:Up A):Up (J9 P A):=Up.made hu _
theorem asS(hP:P.BO)(hu:Up A){K:Kind}(hK:K=P.m∨K=P.d){x:T}(hx:K.ours x=true):fileOf K (J9 P A) x=fileOf K A x:=by
 unfold fileOf;rw[aag hu];split
 ·rename_i h
  rcases Eh.1 h with h|h
  ·obtain⟨h1,d,h2,h3⟩:=(J8 hu x).1 h;rcases hK with rfl|rfl
   ·rw[h2];exact h3.symm
   ·exact absurd hx (by intro e;exact hP.apart x h1 e)
  ·obtain⟨h1,d,h2,h3⟩:=(J8 hu x).1 h;rcases hK with rfl|rfl
   ·exact absurd h1 (by intro e;exact hP.apart x hx e)
   ·rw[h2];exact h3.symm
 ·rfl
theorem wz(hP:P.BO)(hu:Up A){K:Kind}(hK:K=P.m∨K=P.d)(k:T):Cq K (J9 P A) k=Cq K A k:=by
 have hf:K.BO:=by rcases hK with rfl|rfl;exact hP.m;exact hP.d
 unfold Cq;rw[asS hP hu hK (hf.Nq k)]
theorem aqP(hu:Up A){K:Kind}(hK:K=P.m∨K=P.d):CR K (J9 P A)=[]:=by
 refine Vm.2 fun x hx=>?_
 obtain⟨h1,d,h2,h3⟩:=(J8 (uu hu) x).1 hx;rw[aag hu] at h2;split at h2
 ·cases h2
 ·rename_i h
  refine h (Eh.2 ?_);rcases hK with rfl|rfl
  ·exact .inl ((J8 hu x).2 ⟨h1,d,h2,h3⟩)
  ·exact .inr ((J8 hu x).2 ⟨h1,d,h2,h3⟩)
theorem vH(hP:P.BO)(hu:Up A):There P.d (J9 P A) (M3 P A):=fun r hr=>by
 unfold M3 at hr;rw[Ee] at hr;obtain⟨p,hp,rfl⟩:=Bz.1 hr;obtain⟨h1,_⟩:=(um p.1 p.2).1 hp;rw[wz hP hu (.inr rfl)];exact(Sd hP.d hu p.1).1 h1
theorem aqO(hu:Up A)(hg:Ag.Good A){ks:List T}(ht:There K A ks)(name:T):name∈CR K (made A (Fj K A ks))↔name∈CR K A:=by
 have Et:Up (made A (Fj K A ks)):=Up.made hu _;have eO:((Fj K A ks).map (·.name)).Nodup:=by rw[VU];exact WM _
 by_cases hn:name∈Bi (ks.map K.nm)
 ·obtain⟨d,l,h1,h2,h3,h4,h5⟩:=dm hg ht hn;obtain⟨_,I9,Jm,_⟩:=Nr h2;have hb:name∉CR K A:=fun h=>by
   obtain⟨_,d',e1,e2⟩:=(J8 hu name).1 h;rw[h1] at e1;cases e1;rw[h2] at e2;cases e2
  have NV:Uv K A ks name∈Fj K A ks:=Hu hn;have Jk:=aaf hu eO NV;rw[jm] at Jk;refine⟨fun h=>?_,fun h=>absurd h hb⟩;obtain⟨_,d',e1,e2⟩:=(J8 Et name).1 h;rcases h5 with⟨x1,x2⟩|⟨s,x0,x1,x2,_⟩
  ·rw[x2] at Jk;rw[Jk] at e1;cases e1
  ·rw[x2] at Jk;simp only[Bool.false_eq_true,if_false] at Jk;rw[Jk] at e1;have e3:d'=s:=by injection e1 with e1;exact e1.symm
   rw[e3] at e2;rw[show K.CB name s=some (l.filter fun p=>decide (p.1∉ks)) from ad3 x1 x0 (I9.filter _) fun p hp=>Jm p ((FZ.1 hp).1)] at e2;cases e2
 ·have Ef:get (made A (Fj K A ks)) name=get A name:=jB hu (by rw[VU];exact hn);rw[J8 Et,J8 hu,Ef]
theorem aqQ{K':Kind}(hK:K.BO)(hd:∀ x,K.ours x=true→K'.ours x=true→False)(hu:Up A)(ks:List T)(name:T):name∈CR K' (made A (Fj K A ks))↔name∈CR K' A:=by
 rw[J8 (Up.made hu _),J8 hu];by_cases ho:K'.ours name=true
 ·rw[jB hu];rw[VU,Ee];intro hm;obtain⟨j,_,e⟩:=Bz.1 hm;exact hd _ (hK.Nq j) (by rw[e];exact ho)
 ·simp[ho]
theorem yZ(hu:Up A):(CR K A).Nodup:=by
 unfold CR;have h:List.Pairwise (fun a b:T×T=>a.1 < b.1) (A.filter fun p=>K.ours p.1 && (K.CB p.1 p.2).isNone):=(show List.Pairwise (fun a b:T×T=>a.1 < b.1) A from hu).filter _;exact List.nodup_iff_pairwise_ne.2 (List.pairwise_map.2 (h.imp fun {a b} hab e=>KZ hab e))
theorem ahO(hP:P.BO)(hu:Up A):(UA P A).Nodup:=by
 unfold UA;refine List.nodup_append.2 ⟨yZ hu,yZ hu,fun x hx y hy e=>?_⟩;subst e;exact hP.apart x ((J8 hu x).1 hx).1 ((J8 hu x).1 hy).1
theorem aah(hu:Up A){x:T}(hx:x∈UA P A):∃ d,get A x=some d:=by
 rcases Eh.1 hx with h|h
 ·obtain⟨_,d,h2,_⟩:=(J8 hu x).1 h;exact⟨d,h2⟩
 ·obtain⟨_,d,h2,_⟩:=(J8 hu x).1 h;exact⟨d,h2⟩
theorem aaj(hP:P.BO)(h:BI.May n A):FC n A (Hg P A)=0∧En n A (Hg P A)=J9 P A∧used (J9 P A)≤used A∧∀ c∈Hg P A,c.may=true:=by
 have Mv:∀ c∈Hg P A,c.may=true:=fun c hc=>by
  unfold Hg at hc;obtain⟨x,hx,rfl⟩:=Bz.1 hc;obtain⟨d,hd⟩:=aah h.up hx;have hg:=h.good _ (get_some hd);unfold Fu at hg;unfold Am.may Fu;simp only[decide_eq_true_eq] at hg;simp[hg.1,hg.2.1]
 have hn:(Hg P A).map (·.name)=UA P A:=by
  unfold Hg;rw[Kq];exact List.map_id _
 have FM:used (J9 P A)≤used A:=adR h.up (by rw[hn];exact ahO hP h.up) fun c hc=>by
  unfold Hg at hc;obtain⟨x,hx,rfl⟩:=Bz.1 hc;obtain⟨d,hd⟩:=aah h.up hx;exact⟨d,hd,AV _⟩
 have hall:(Hg P A).all Am.may=true:=by rw[MH];exact Mv
 have hr:=h.room;refine⟨?_,?_,FM,Mv⟩
 ·unfold FC;rw[hall,Ab (by simp),Ab (by unfold J9 at FM;omega)]
 ·unfold En;rw[Ad ⟨hall,by unfold J9 at FM;omega⟩];rfl
theorem uo(hP:P.BO)(h:BI.May n A):BI.May n (J9 P A):=by
 obtain⟨_,_,h3,h4⟩:=aaj hP h;exact⟨uu h.up,h.good.made h.up h4,Aw h3 h.room⟩
theorem uy(hP:P.BO)(h:BI.May n A):BI.May n (Iw P A):=axT hP.d (uo hP h) (vH hP h.up)
theorem uw(hP:P.BO)(h:BI.May n A)(k:T):mV P (Iw P A) k=mV P A k:=by
 have h1:=asf (K:=P.d) (K':=P.m) hP.d hP.m (fun x h1 h2=>hP.apart x h2 h1) (uu h.up) (M3 P A) k (A:=J9 P A);exact h1.trans (wz hP h.up (.inl rfl) k)
theorem alL(hP:P.BO)(h:BI.May n A)(r:T):dV P (Iw P A) r=if r∈M3 P A then none else dV P A r:=by
 have hm:=uo hP h;have h1:=asg hm.up hm.good (vH hP h.up) r;have h2:=wz hP h.up (K:=P.d) (.inr rfl) r;rw[h2] at h1;exact h1
theorem pI(hP:P.BO)(h:BI.May n A){K:Kind}(hK:K=P.m∨K=P.d):CR K (Iw P A)=[]:=by
 have hm:=uo hP h;refine Vm.2 fun x hx=>?_
 have Ec:x∈CR K (J9 P A):=by
  rcases hK with rfl|rfl
  ·exact(aqQ hP.d (fun x h1 h2=>hP.apart x h2 h1) hm.up (M3 P A) x).1 hx
  ·exact(aqO hm.up hm.good (vH hP h.up) x).1 hx
 rw[aqP h.up hK] at Ec;cases Ec
theorem aCx(hP:P.BO)(h:BI.May n A):Nu P (Iw P A)=[]:=by
 have LJ:=uy hP h;refine Vm.2 fun p hp=>?_
 obtain⟨h1,h2,h3⟩:=(um p.1 p.2).1 hp;have hd:=alL hP h p.1;have Zl:=(alJ hP LJ p.1).1 h1;rw[hd] at Zl;split at Zl
 ·cases Zl
 ·rename_i hn
  refine hn ?_;unfold M3;rw[Ee];refine Bz.2 ⟨p,(um p.1 p.2).2 ⟨(alJ hP h p.1).2 Zl,?_,by rw[←uw hP h];exact h3⟩,rfl⟩;rw[←aom (A':=Iw P A) (by rw[hd,Ab hn])];exact h2
def Ur(P:Jf)(A:M):Prop:=CR P.m A=[]∧CR P.d A=[]∧Nu P A=[]
theorem alM(hP:P.BO)(h:BI.May n A):Ur P (Iw P A):=⟨pI hP h (.inl rfl),pI hP h (.inr rfl),aCx hP h⟩
def N7(P:Jf)(A:M):List (Nat×T×T):=
 ((CR P.m A).map fun x=>(1,x,[]))++((CR P.d A).map fun x=>(2,x,[]))++((Nu P A).map fun p=>(3,p.1,p.2))++((R8 P A).map fun k=>(4,[],k))
theorem aAY:Ur P A↔∀ b∈N7 P A,b.1=4:=by
 unfold Ur N7;constructor
 ·rintro⟨h1,h2,h3⟩ b hb;rw[h1,h2,h3] at hb;simp only[Kr,Ei,Bz] at hb;obtain⟨k,_,rfl⟩:=hb;rfl
 ·intro h;refine⟨Vm.2 fun x hx=>?_,Vm.2 fun x hx=>?_,Vm.2 fun x hx=>?_⟩
  ·have:=h (1,x,[]) (by simp;exact hx);cases this
  ·have:=h (2,x,[]) (by simp;exact hx);cases this
  ·have:=h (3,x.1,x.2) (by simp;exact hx);cases this
def Uq(P:Jf)(A X:M):Prop:=X=A∨X=J9 P A∨X=Iw P A
theorem Uq.may(hP:P.BO)(h:BI.May n A){X:M}(hX:Uq P A X):BI.May n X:=by
 rcases hX with rfl|rfl|rfl
 ·exact h
 ·exact uo hP h
 ·exact uy hP h
theorem Uq.m(hP:P.BO)(h:BI.May n A){X:M}(hX:Uq P A X)(k:T):mV P X k=mV P A k:=by
 rcases hX with rfl|rfl|rfl
 ·rfl
 ·exact wz hP h.up (.inl rfl) k
 ·exact uw hP h k
theorem Uq.mended(hP:P.BO)(h:BI.May n A){X:M}(hX:Uq P A X)(k:T):mV P (Iw P X) k=mV P A k:=by
 rw[uw hP (hX.may hP h),hX.m hP h]
end
end EX
namespace Hex
open Go.Lib Ag Ar Av Bt Kp BI
def Gj(k:Nat):UInt8:=UInt8.ofNat (if k < 10 then 48+k else 87+k)
def Ew(s:T):T:=s.flatMap fun b=>[Gj (b.toNat / 16),Gj (b.toNat % 16)]
def val(c:UInt8):Option Nat:=if 48≤c.toNat∧c.toNat≤57 then some (c.toNat -48) else if 97≤c.toNat∧c.toNat≤102 then some (c.toNat -87) else none
def Gs:T→Option T
 |[]=>some []
 |a :: b :: s=>match val a,val b with
  |some x,some y=>(Gs s).map (UInt8.ofNat (16*x+y) :: ·)
  |_,_=>none
 |_=>none
theorem as4{k:Nat}(h:k < 16):(Gj k).toNat=if k < 10 then 48+k else 87+k:=by
 unfold Gj;have:∀ n,n < 256→(UInt8.ofNat n).toNat=n:=fun n hn=>by rw[UInt8.toNat_ofNat'];exact Nat.mod_eq_of_lt hn
 split
 ·exact this _ (by omega)
 ·exact this _ (by omega)
theorem aov{k:Nat}(h:k < 16):val (Gj k)=some k:=by
 unfold val;rw[as4 h];by_cases e:k < 10
 ·rw[Ad e,Ad ⟨by omega,by omega⟩];congr 1;omega
 ·rw[Ab e,Ab (by omega),Ad ⟨by omega,by omega⟩];congr 1;omega
theorem ab1(b:UInt8)(s:T):Ew (b :: s)=Gj (b.toNat / 16) :: Gj (b.toNat % 16) :: Ew s:=rfl
theorem aj5(a b:T):Ew (a++b)=Ew a++Ew b:=by unfold Ew;rw[MJ]
theorem UN(s:T):(Ew s).length=2*s.length:=by
 induction s with
 |nil=>rfl
 |cons b s ih=>rw[ab1,BG,BG,ih,BG];omega
theorem adM:∀ s:T,Gs (Ew s)=some s
 |[]=>rfl
 |b :: s=>by
  have hb:=b.toNat_lt;rw[ab1,Gs,aov (by omega),aov (by omega)];simp only;rw[adM s,EK]
  congr 2
  have:16*(b.toNat / 16)+b.toNat % 16=b.toNat:=by omega
  rw[this];exact UInt8.ofNat_toNat
def Np(c:UInt8)(name:T):Bool:=name.length == 17 && (name.head? == some c) && (Gs (name.drop 1)).isSome
def ma(c:UInt8)(k:T):T:=c :: Ew ((BH.EJ k).take 8)
theorem acG(c:UInt8)(k:T):(ma c k).length=17:=by
 unfold ma;rw[BG,UN,AZ,BH.TU];rfl
theorem am9(c:UInt8)(k:T):Np c (ma c k)=true:=by
 unfold Np;rw[acG]
 show(true && (some c == some c) && (Gs (Ew ((BH.EJ k).take 8))).isSome)=true
 rw[adM];simp
def rowOk(p:T×T):Bool:=match Dp p.2 with
 |none=>false
 |some l=>decide (Bi l=l)
def Ah:Kind:=⟨ma 109,Np 109,fun _=>true⟩
def Aa:Kind:=⟨ma 117,Np 117,rowOk⟩
def both:BI.Jf:=⟨Ah,Aa⟩
theorem JL:Ah.BO:=⟨am9 109,acG 109⟩
theorem GD:Aa.BO:=⟨am9 117,acG 117⟩
theorem Jz:both.BO:=⟨JL,GD,fun x h1 h2=>by
 have a:Np 109 x=true:=h1;have b:Np 117 x=true:=h2;unfold Np at a b;simp only[Bool.and_eq_true,beq_iff_eq] at a b;have:=a.1.2.symm.trans b.1.2;simp at this⟩
end Hex
namespace EX
open Go.Lib Ag Ar Av Bt Kp BI Hex
abbrev Br:=Nat×T×T
theorem agz{c:UInt8}{x:Nat}(h:val c=some x):x < 16∧Gj x=c:=by
 unfold val at h;have hc:=c.toNat_lt;split at h
 ·injection h with h
  subst h;refine⟨by omega,?_⟩;unfold Gj;rw[Ad (by omega)];apply UInt8.toNat_inj.1;rw[UInt8.toNat_ofNat',Nat.mod_eq_of_lt (by omega)];omega
 ·split at h
  ·injection h with h
   subst h;refine⟨by omega,?_⟩;unfold Gj;rw[Ab (by omega)];apply UInt8.toNat_inj.1;rw[UInt8.toNat_ofNat',Nat.mod_eq_of_lt (by omega)];omega
  ·cases h
theorem aj6:∀ (s t:T),Gs s=some t→Ew t=s
 |[],t,h=>by
  simp only[Gs,Ci] at h;subst h;rfl
 |[a],t,h=>by simp[Gs] at h
 |a :: b :: s,t,h=>by
  rw[Gs] at h;cases ha:val a with
  |none=>rw[ha] at h;simp at h
  |some x=>
   cases hb:val b with
   |none=>rw[ha,hb] at h;simp at h
   |some y=>
    rw[ha,hb] at h;simp only[SA] at h;obtain⟨u,hu,rfl⟩:=h;obtain⟨hx,ex⟩:=agz ha;obtain⟨hy,ey⟩:=agz hb;have e:(UInt8.ofNat (16*x+y)).toNat=16*x+y:=(by rw[UInt8.toNat_ofNat'];exact Nat.mod_eq_of_lt (by omega));rw[ab1,e,aj6 s u hu,show(16*x+y) / 16=x by omega,show(16*x+y) % 16=y by omega,ex,ey]
def JF(s:T):T:=if s=[] then[45] else Ew s
def L9(s:T):Option T:=if s=[45] then some [] else if s=[] then none else Gs s
def word:Nat→T
 |1=>[109,101,109,111]
 |2=>[117,115,101]
 |3=>[119,97,110,116]
 |4=>[108,111,111,115,101]
 |_=>[63]
def tZ(b:Br):T:=word b.1++[32]++JF b.2.1++[32]++JF b.2.2
def Ox(st:List T×T)(c:UInt8):List T×T:=if c=32 then(st.1++[st.2],[]) else(st.1,st.2++[c])
def Xm(s:T):List T×T:=s.foldl Ox ([],[])
def parts(s:T):List T:=(Xm s).1++[(Xm s).2]
theorem aqU(s:T)(c:UInt8):Xm (s++[c])=Ox (Xm s) c:=by unfold Xm;rw[List.foldl_append];rfl
def kindOf(a:T):Option Nat:=if a=word 1 then some 1 else if a=word 2 then some 2 else if a=word 3 then some 3 else if a=word 4 then some 4 else none
def adF(k:Option Nat)(x y:Option T):Option Br:=match k,x,y with
 |some k,some x,some y=>some (k,x,y)
 |_,_,_=>none
def Fv(s:T):Option Br:=match parts s with
 |[a,b,c]=>adF (kindOf a) (L9 b) (L9 c)
 |_=>none
theorem azN{s a b c x y:T}{k:Nat}(h:parts s=[a,b,c])(h1:kindOf a=some k)(h2:L9 b=some x)(h3:L9 c=some y):Fv s=some (k,x,y):=by
 unfold Fv;rw[h]
 show adF _ _ _=_
 rw[h1,h2,h3];rfl
theorem azI{s a b c:T}(h:parts s=[a,b,c])(h1:kindOf a=none∨L9 b=none∨L9 c=none):Fv s=none:=by
 unfold Fv;rw[h]
 show adF _ _ _=_
 rcases h1 with h1|h1|h1
 ·rw[h1];rfl
 ·rw[h1];cases kindOf a<;>rfl
 ·rw[h1];cases kindOf a<;>cases L9 b<;>rfl
theorem atl(s:T):∀ st:List T×T,(s.foldl Ox st).1=st.1++((s.foldl Ox ([],st.2)).1)∧(s.foldl Ox st).2=(s.foldl Ox ([],st.2)).2:=by
 induction s with
 |nil=>intro st;simp
 |cons c s ih=>
  rintro⟨l,x⟩;simp only[List.foldl_cons];by_cases h:c=32
  ·have e1:Ox (l,x) c=(l++[x],[]):=Ad h;have e2:Ox ([],x) c=([x],[]):=Ad h;rw[e1,e2];obtain⟨a1,a2⟩:=ih (l++[x],[]);obtain⟨b1,b2⟩:=ih ([x],[]);exact⟨by rw[a1,b1,Dz],by rw[a2,b2]⟩
  ·have e1:Ox (l,x) c=(l,x++[c]):=Ab h;have e2:Ox ([],x) c=([],x++[c]):=Ab h;rw[e1,e2];exact ih (l,x++[c])
theorem ahd(a:T)(ha:(32:UInt8)∉a):∀ (l:List T) (x:T),a.foldl Ox (l,x)=(l,x++a):=by
 induction a with
 |nil=>intro l x;simp
 |cons c a ih=>
  intro l x;rw[List.foldl_cons,show Ox (l,x) c=(l,x++[c]) from Ab (fun e=>ha (by simp[e])),ih (fun h=>ha (by simp[h]))];simp
theorem ayS(a:T)(ha:(32:UInt8)∉a):parts a=[a]:=by
 unfold parts Xm;rw[ahd a ha];simp
theorem ayR(a b:T)(ha:(32:UInt8)∉a):parts (a++32 :: b)=a :: parts b:=by
 unfold parts Xm;rw[List.foldl_append,ahd a ha,List.foldl_cons,show Ox ([],[]++a) 32=([a],[]) from by simp[Ox]];obtain⟨h1,h2⟩:=atl b ([a],[]);rw[h1,h2];rfl
def OV:List T→T
 |[]=>[]
 |[a]=>a
 |a :: b :: l=>a++32 :: OV (b :: l)
theorem ax0(l:List T)(x:T)(c:UInt8):OV (l++[x++[c]])=OV (l++[x])++[c]:=by
 induction l with
 |nil=>rfl
 |cons a l ih=>
  cases l with
  |nil=>simp[OV]
  |cons b l=>
   show a++32 :: OV ((b :: l)++[x++[c]])=(a++32 :: OV ((b :: l)++[x]))++[c]
   rw[ih];simp
theorem awZ(l:List T)(x:T):OV (l++[x]++[[]])=OV (l++[x])++[32]:=by
 induction l with
 |nil=>simp[OV]
 |cons a l ih=>
  cases l with
  |nil=>simp[OV]
  |cons b l=>
   show a++32 :: OV ((b :: l)++[x]++[[]])=(a++32 :: OV ((b :: l)++[x]))++[32]
   rw[ih];simp
theorem ax1(s:T):OV (parts s)=s∧∀ a∈parts s,(32:UInt8)∉a:=by
 induction s using ads with
 |h0=>exact⟨rfl,by simp[parts,Xm]⟩
 |h1 s c ih=>
  obtain⟨h1,h2⟩:=ih;unfold parts at h1 h2 ⊢;rw[aqU];unfold Ox;by_cases hc:c=32
  ·subst hc;rw[Ad rfl];refine⟨by rw[awZ,h1],fun a ha=>?_⟩;rcases Eh.1 ha with h|h
   ·exact h2 a h
   ·rw[FJ.1 h];simp
  ·rw[Ab hc];refine⟨by rw[ax0,h1],fun a ha=>?_⟩;rcases Eh.1 ha with h|h
   ·exact h2 a (U2 _ h)
   ·rw[FJ.1 h,Eh];rintro(e|e)
    ·exact h2 _ (List.mem_append_right _ (by simp)) e
    ·exact hc (FJ.1 e).symm
theorem akW:∀ (l:List T),∀ a∈l,a.length≤(OV l).length
 |[],a,h=>by simp at h
 |[x],a,h=>by rw[FJ.1 h];exact Ae _
 |x :: y :: l,a,h=>by
  show a.length≤(x++32 :: OV (y :: l)).length
  rw[AA,BG];rcases Cc.1 h with rfl|h
  ·omega
  ·have:=akW (y :: l) a h;omega
theorem ayQ{s a:T}(h:a∈parts s):a.length≤s.length:=by
 have:=akW _ a h;rwa[(ax1 s).1] at this
theorem avs{s:T}(h:Ew s=[]):s=[]:=by
 have:=UN s;rw[h] at this;refine Ld.1 ?_;rw[Ht] at this;omega
theorem aBN(s:T):L9 (JF s)=some s:=by
 unfold JF;by_cases h:s=[]
 ·rw[Ad h,h];rfl
 ·rw[Ab h];unfold L9;have h2:=UN s;rw[Ab (fun e=>by rw[e] at h2;simp at h2;omega),Ab (fun e=>h (avs e)),adM]
theorem adL(a x:T):L9 a=some x↔JF x=a:=by
 constructor
 ·intro h;unfold L9 at h;split at h
  ·rename_i e
   injection h with h
   subst h;rw[e];rfl
  ·split at h
   ·cases h
   ·rename_i h1 h2
    have:=aj6 _ _ h;unfold JF;rw[Ab (fun e=>h2 (by rw[←this,e];rfl)),this]
 ·rintro rfl;exact aBN x
def UB(a:T):T:=if a=[45] then[] else(Gs a).getD []
theorem aul(a:T):JF (UB a)=a↔(L9 a).isSome=true:=by
 constructor
 ·intro h;rw[(adL a _).2 h];rfl
 ·intro h;obtain⟨x,hx⟩:=Lh.1 h;have e:=(adL a x).1 hx;have:UB a=x:=by
   unfold UB;unfold L9 at hx;split at hx
   ·rename_i h1
    rw[Ad h1];injection hx
   ·rename_i h1
    rw[Ab h1];split at hx
    ·cases hx
    ·rw[hx];rfl
  rw[this,e]
theorem ahY{a x:T}(h:L9 a=some x):UB a=x:=by
 have h1:=(aul a).2 (by rw[h];rfl);have h2:=(adL a (UB a)).2 h1;rw[h] at h2;injection h2 with h2
 exact h2.symm
theorem azG{s:T}(h:(parts s).length≠3):Fv s=none:=by
 unfold Fv;split
 ·rename_i e;rw[e] at h;exact absurd rfl h
 ·rfl
theorem awV(s:T)(h:(32:UInt8)∈s):∃ a b:T,s=a++32 :: b∧(32:UInt8)∉a:=by
 induction s with
 |nil=>simp at h
 |cons c s ih=>
  by_cases hc:c=32
  ·exact⟨[],s,by rw[hc];rfl,by simp⟩
  ·obtain⟨a,b,e,ha⟩:=ih ((Cc.1 h).resolve_left (fun e=>hc e.symm));exact⟨c :: a,b,by rw[e];rfl,by simp only[Cc,not_or];exact⟨fun e=>hc e.symm,ha⟩⟩
theorem awU(a b:T)(ha:(32:UInt8)∉a):Go.Lib.index (a++32 :: b) [32]=(a.length:Int):=by
 induction a with
 |nil=>simp[Go.Lib.index,List.isPrefixOf]
 |cons c a ih=>
  have hc:c≠32:=fun e=>ha (by simp[e])
  have ih:=ih (fun h=>ha (by simp[h]));have hp:([32]:List UInt8).isPrefixOf (c :: (a++32 :: b))=false:=by simp[List.isPrefixOf,Ne.symm hc]
  rw[Gt,Go.Lib.index,hp,ih];have:((a.length:Int) == -1)=false:=FQ.2 (by omega);rw[this];simp
theorem anM:∀ (k:Nat) (s:T),s.count 32=k→Go.Lib.splitK [32] 0 k s=parts s
 |0,s,h=>by rw[ayS s (fun hm=>by have:=List.count_pos_iff.2 hm;omega)];rfl
 |k+1,s,h=>by
  obtain⟨a,b,rfl,ha⟩:=awV s (List.count_pos_iff.1 (by omega));have hb:b.count 32=k:=by
   rw[List.count_append,List.count_cons_self,List.count_eq_zero.2 ha] at h;omega
  have hi:=awU a b ha;have:((a.length:Int) == -1)=false:=FQ.2 (by omega);rw[Go.Lib.splitK,hi,this,ayR a b ha];simp only[Bool.false_eq_true,if_false,Int.toNat_natCast,Nat.add_zero];rw[List.take_append_of_le_length (Ae _),Da,show([32]:List UInt8).length=1 from rfl,show a.length+1=(a++[32]).length by simp,show a++32 :: b=(a++[32])++b by simp,List.drop_append_of_le_length (Ae _),List.drop_length,Ei,anM k b hb]
theorem aB0(s:T):Go.Lib.split s [32]=parts s:=by
 unfold Go.Lib.split;rw[Go.Lib.count_one];exact anM _ s rfl
end EX
namespace Hex
open Go.RowKit Go.Maps
open Ag Ar
theorem zl{w:World}{b:Nat}{l:List UInt8}{fp:Nat→Prop}(h:Ej w b l fp)(x:UInt8)(hlen:l.length+1≤1099511627776):
  Calls prog 127 #[.pointer (some ⟨b,0,none⟩),.int .u8 (x.toNat:Int)] w fun e w'=>e=.returned .nilIface∧∃ fp',Ej w' b (l++[x]) fp'∧A7 fp w w'∧Dj fp fp' w:=by
 obtain⟨p,v,hb,hp,hown,hne,Y8,rfl⟩:=h;have oh:=Hi Y8;clear Y8;obtain⟨i0,hi,AY,Ba,Be⟩:=DC cZ
 go_in
 go_wp2_with fail;refine(zB b p v _ hb hp).mono ?_;rintro e w1⟨rfl,Aj,FY⟩;have jZ:b < w.heap.size:=(Dq.1 hb).1;have av2:b < w1.heap.size:=Hw jZ FY.size;have KY:w1.ownsRow 0 5 1 v l.length (Cj l):=Bv hown FY (fun q hq e=>hne (by rw[hq,e]));have c1:w1.cell? ⟨b,1,none⟩=some v:=by rw[Lib.cell_of_heap Aj];rfl
 have D5:=Hi KY;have HB1:=Hi Aj;have ha:=AU w1 (.cells #[.int .u8 (x.toNat:Int)] 5);have Aq:=Hi ha;have Gb:=E5 w1 #[.int .u8 (x.toNat:Int)] 5 0;have WX:=Hi Gb;clear KY ha Gb
 go_wp2_with (at_builtin;refine wpList_append_own_at _ rfl _ _ 54 rfl 0 5 i0 (.int .u8 0) 1 1 underlying54 hi AY Ba Be rfl (by decide) _ _ _ rfl (D5.alloc _) ⟨w1.heap.size,0,none⟩ 1 1 (Cj [x]) rfl (by rw[Nt];rfl) (by
   intro j u hj;rw[mZ,gN] at hj
   match j,hj with
   |0,hj=>
    rw[add_plain,WX.out];simpa using hj
   |j+1,hj=>simp at hj) (nk [x]) (by unfold maxLen;omega) (by omega) (by omega) ?_;intro v' w2 Cb AJ OM hat;have Ac:w2.heap[b]?=some (.cells #[.pointer (some ⟨b,0,none⟩),v] 210):=(AJ.block b (by rw[Ay];omega) (fun e=>hne e.symm)).trans ((Aq.block b av2).trans HB1);have d1:w2.cell? ⟨b,1,none⟩=some v:=(by rw[Lib.cell_of_heap Ac];rfl);have f1:w2.frozen? ⟨b,1,none⟩=false:=Lib.frozen_of_heap Ac 1;obtain⟨ao,cap,rfl⟩:=ownsRow_succ Cb;have Pn:=Hi Cb;have Dg:=Hi AJ;have IV:=Hi hat;have Ak:=Hi Ac;clear Cb AJ OM hat Ac)
 go_ret;have JK:(Value.slice (some ⟨ao,0,none⟩) (l.length+1) cap).ownBlock≠some b:=by
  rcases IV.out with hat|hat
  ·rw[hat];exact hne
  ·rw[hat];intro e;have:=GQ e;rw[Ay] at this;omega
 have Et:A7 (fun k=>k=b∨v.ownBlock=some k) w w2:=((FY.mono (fun i e=>Or.inl e)).trans (A7.of_below (F:=fun k=>k=b∨v.ownBlock=some k) Aq) (fun i e=>.inl e)).trans (A7.of_grownBy (F:=fun k=>k=b∨v.ownBlock=some k) Dg (fun q e=>.inr e)) (fun i e=>.inl e);have De:=Et.setCell (p:=⟨b,1,none⟩) (.inl (.inl rfl)) (.slice (some ⟨ao,0,none⟩) (l.length+1) cap);refine⟨rfl,fun q=>q=b∨(Value.slice (some ⟨ao,0,none⟩) (l.length+1) cap).ownBlock=some q,⟨some ⟨b,0,none⟩,.slice (some ⟨ao,0,none⟩) (l.length+1) cap,Cu w2 b 1 _ _ _ Ak,.inr rfl,?_,JK,fun e=>by simp at e,rfl⟩,De,?_⟩
 ·rw[AA,aT];exact Bv Pn ((A7.refl (fun q=>q=b) w2).setCell (p:=⟨b,1,none⟩) (.inl rfl) _) (fun q hq e=>JK (by rw[hq,e]))
 ·rintro q (rfl|hq)
  ·exact .inl (.inl rfl)
  ·rcases IV.out with hat|hat
   ·exact .inl (.inr ((show _=v.ownBlock from hat).symm.trans hq))
   ·rw[hat] at hq;have:=GQ hq;rw[Ay] at this;exact .inr (by have:=FY.size;omega)
def digits:T:=[48,49,50,51,52,53,54,55,56,57,97,98,99,100,101,102]
theorem as5:∀ k:Fin 16,digits[k.val]'k.isLt=Gj k.val:=by decide
theorem zJ(k:Nat)(hk:k < 16)(h:k < ({ data:=#[48,49,50,51,52,53,54,55,56,57,97,98,99,100,101,102] }:ByteArray).size):({ data:=#[48,49,50,51,52,53,54,55,56,57,97,98,99,100,101,102] }:ByteArray)[k]'h=Gj k:=as5 ⟨k,hk⟩
theorem ab2(s:T)(w:World)(hs:s.length≤1000000000):Calls prog 50 #[.string (bs s)] w fun e w'=>e=.returned (.string (bs (Ew s)))∧Bw w w':=by
 have AR:=Hi ((Ai w.heap.size w).alloc (Ae _) (.cells #[.pointer none,.slice none 0 0] 210));have DV:=Hi (Ej.made w)
 go_in
 go_wp2
 go_loopw [7] (fun i wr=>∃ (k:Nat) (fp:Nat→Prop),k≤s.length∧i=.int .i64 (k:Int)∧Ej wr w.heap.size (Ew (s.take k)) fp∧(∀ q,fp q→w.heap.size≤q)∧Bw w wr) (fun i _=>s.length -(intOf i).toNat)
 case atStart=>exact⟨0,_,AV _,rfl,by rw[Gg];exact DV.out,fun q hq=>by
  rcases hq with h|h
  ·omega
  ·simp[Value.ownBlock] at h,AR⟩
 case round=>
  clear DV AR;obtain⟨k,fp,hk,rfl,Fq,GI,hb⟩:=hrel;have DV:=Hi Fq;have Fe:=Hi GI;have HB:=Hi hb;clear Fq GI hb;by_cases hlt:k < s.length
  ·have HT:=Hi (show Ew (s.take (k+1))=Ew (s.take k)++[Gj (s[k].toNat / 16)]++[Gj (s[k].toNat % 16)] from by rw[Cx hlt,aj5];simp[Ew]);have hlen:(Ew (s.take k)).length≤2000000000:=(by rw[UN,AZ];omega);have PY:=s[k].toNat_lt;have VX:s[k].toNat / 16 < 16:=(by omega);have aan:s[k].toNat % 16 < 16:=(by omega);go_wp2_with fail;refine(zl DV _ (by omega)).mono ?_;rintro e w1⟨rfl,EO,h1,h2,h3⟩;rw[zJ _ VX] at h1;have Qj:=Hi h1;have aev:=Hi (show ∀ q,EO q→w.heap.size≤q from fun q hq=>(h3 q hq).elim (Fe q) (fun e=>Aw HB.size e));have HB1:=Hi (Cy HB h2 Fe HB.size);clear h1 h2 h3;go_wp2_with fail;refine(zl Qj _ (by simp;omega)).mono ?_;rintro e w2⟨rfl,fp2,h1,h2,h3⟩;rw[zJ _ aan] at h1;have Pf:=Hi h1;have iI:=Hi (show ∀ q,fp2 q→w.heap.size≤q from fun q hq=>(h3 q hq).elim (aev q) (fun e=>Aw HB1.size e));have Ak:=Hi (Cy HB1 h2 aev HB1.size);clear h1 h2 h3;go_wp2;go_roundw
   case rel=>exact⟨k+1,fp2,by omega,by go_num,by rw[HT.out];exact Pf.out,iI,Ak⟩
   case measure=>simp[intOf];omega
  ·obtain rfl:k=s.length:=(by omega);rw[Da] at DV;go_wp2_with fail;refine(Xp DV).mono ?_;rintro e w1⟨rfl,hu⟩;have HB1:=Hi (Cy HB hu Fe HB.size);clear hu;go_wp2;go_ret;exact⟨rfl,HB1⟩
theorem agA(c:UInt8)(w:World):Calls prog 173 #[.int .u8 (c.toNat:Int)] w fun e w'=>e=.returned (.tuple #[.int .u8 (((val c).getD 0:Nat):Int),.bool (val c).isSome])∧w=w':=by
 have hc:=c.toNat_lt;by_cases h1:48≤c.toNat∧c.toNat≤57
 ·have hv:Hid (val c=some (c.toNat -48)):=Hi (by unfold val;rw[Ad h1]);have a1:(48:Int)≤(c.toNat:Int):=by omega
  have a2:(c.toNat:Int)≤57:=by omega
  have a3:IntKind.u8.wrap ((c.toNat:Int) -48)=((c.toNat -48:Nat):Int):=by rw[show IntKind.u8.wrap ((c.toNat:Int) -48)=((c.toNat:Int) -48) % 256 by simp[IntKind.wrap,IntKind.bits,IntKind.signed]];omega
  rw[hv.out];clear h1
  go_in
  go_wp2;go_ret2;exact⟨rfl,rfl⟩
 ·by_cases h2:97≤c.toNat∧c.toNat≤102
  ·have hv:Hid (val c=some (c.toNat -87)):=Hi (by unfold val;rw[Ab h1,Ad h2]);have a1:(48:Int)≤(c.toNat:Int):=(by omega);have a2:¬ (c.toNat:Int)≤57:=(by omega);have a4:(97:Int)≤(c.toNat:Int):=(by omega);have a5:(c.toNat:Int)≤102:=(by omega);rw[hv.out];clear h1 h2
   go_in
   go_wp2;go_ret2;refine⟨?_,rfl⟩
   show Ending.returned (.tuple #[.int .u8 ((c.toNat:Int) -97+10),.bool true])=_
   rw[show((c.toNat:Int) -97+10)=((c.toNat -87:Nat):Int) by omega];try rfl
  ·have hv:Hid (val c=none):=Hi (by unfold val;rw[Ab h1,Ab h2]);rw[hv.out];by_cases b1:48≤c.toNat
   ·have a1:(48:Int)≤(c.toNat:Int):=(by omega);have a2:¬ (c.toNat:Int)≤57:=(by omega);by_cases b2:97≤c.toNat
    ·have a4:(97:Int)≤(c.toNat:Int):=(by omega);have a5:¬ (c.toNat:Int)≤102:=(by omega);clear h1 h2 b1 b2
     go_in
     go_wp2;go_ret2;exact⟨rfl,rfl⟩
    ·have a4:¬ (97:Int)≤(c.toNat:Int):=(by omega);clear h1 h2 b1 b2
     go_in
     go_wp2;go_ret2;exact⟨rfl,rfl⟩
   ·have a1:¬ (48:Int)≤(c.toNat:Int):=(by omega);have a4:¬ (97:Int)≤(c.toNat:Int):=(by omega);clear h1 h2 b1
    go_in
    go_wp2;go_ret2;exact⟨rfl,rfl⟩
theorem aoi:∀ (n:Nat) (s:T),s.length≤n→s.length % 2=1→Gs s=none
 |_,[],_,h=>by simp at h
 |_,[a],_,_=>rfl
 |0,_ :: _ :: _,h,_=>by simp at h
 |n+1,a :: b :: s,h,h2=>by
  rw[Gs,aoi n s (by simp at h;omega) (by simp at h2 ⊢;omega)];cases val a<;>cases val b<;>rfl
theorem aBO{s:T}{k:Nat}{S:T}(h:k+1 < s.length)(hS:Gs s=(Gs (s.drop k)).map (S++ ·)):Gs s=match val (s[k]'(by omega)),val s[k+1] with
  |some x,some y=>(Gs (s.drop (k+2))).map ((S++[UInt8.ofNat (16*x+y)])++ ·)
  |_,_=>none:=by
 have e1:s.drop k=(s[k]'(by omega)) :: s[k+1] :: s.drop (k+2):=by
  rw[Rk (by omega),Rk h]
 rw[hS,e1,Gs];cases val (s[k]'(by omega)) with
 |none=>rfl
 |some x=>
  cases val s[k+1] with
  |none=>rfl
  |some y=>
   simp only[Option.map_map]
   congr 1
   funext z
   simp
theorem JS{c:UInt8}{x:Nat}(h:val c=some x):x < 16:=by
 unfold val at h;split at h
 ·simp only[Ci] at h;omega
 ·split at h
  ·simp only[Ci] at h;omega
  ·cases h
theorem avu:∀ x:Fin 16,∀ y:Fin 16,bits BinOp.or IntKind.u8 ((x.val:Int)*16) (y.val:Int)=((UInt8.ofNat (16*x.val+y.val)).toNat:Int):=by decide+kernel
theorem avt(x y:Nat)(hx:x < 16)(hy:y < 16):bits BinOp.or IntKind.u8 ((x:Int)*16) (y:Int)=((UInt8.ofNat (16*x+y)).toNat:Int):=avu ⟨x,hx⟩ ⟨y,hy⟩
def MG(s:T):T×Int:=match Gs s with|none=>([],7)|some t=>(t,0)
theorem adN(s:T)(w:World)(hs:s.length≤1000000000):Calls prog 86 #[.string (bs s)] w fun e w'=>e=.returned (.tuple #[.string (bs (MG s).1),.int .i64 (MG s).2])∧Bw w w':=by
 by_cases Y9:s.length % 2=1
 ·have hR:Hid (MG s=([],7)):=Hi (by unfold MG;rw[aoi _ s (Ae _) Y9]);have hm:(s.length:Int).tmod 2=1:=by rw[Int.tmod_eq_emod_of_nonneg (by omega)];omega
  have LJ:(s.length:Int) % 2=1:=by omega
  rw[hR.out];clear Y9
  go_in
  go_wp2;go_ret2;exact⟨rfl,Ai _ _⟩
 ·have hm:(s.length:Int).tmod 2=0:=by rw[Int.tmod_eq_emod_of_nonneg (by omega)];omega
  have LJ:(s.length:Int) % 2=0:=by omega
  have AR:=Hi ((Ai w.heap.size w).alloc (Ae _) (.cells #[.pointer none,.slice none 0 0] 210));have DV:=Hi (Ej.made w);have HEV:=Hi Y9;clear Y9
  go_in
  go_wp2
  go_loopw [5] (fun i wr=>∃ (m:Nat) (S:T) (fp:Nat→Prop),m % 2=0∧m≤s.length∧i=.int .i64 (m:Int)∧2*S.length=m∧Gs s=(Gs (s.drop m)).map (S++ ·)∧Ej wr w.heap.size S fp∧(∀ q,fp q→w.heap.size≤q)∧Bw w wr) (fun i _=>s.length -(intOf i).toNat)
  case atStart=>exact⟨0,[],_,rfl,AV _,rfl,rfl,by simp,DV,fun q hq=>by
   rcases hq with h|h
   ·omega
   ·simp[Value.ownBlock] at h,AR⟩
  case round=>
   clear DV AR;obtain⟨m,S,fp,ZM,hk,rfl,Zr,UG,Fq,GI,hb⟩:=hrel;have DV:=Hi Fq;have Fe:=Hi GI;have HB:=Hi hb;have Oo:=Hi Zr;have HM:=Hi ZM;clear Fq GI hb Zr ZM;by_cases hlt:m+1 < s.length
   ·have Bc:=aBO hlt UG;have kR:(m:Int)+1 < (s.length:Int):=(by omega);have Mt:m < s.length:=(by omega);have kT:(0:Int)≤(m:Int)+1:=(by omega);have Qm:=Hi (fun(W:World)=>agA (s[m]'Mt) W);have Ny:=Hi (fun(W:World)=>agA (s[m+1]'hlt) W);have Bh:=Hi Bc;clear Bc UG;cases Q8:val (s[m]'Mt) with
    |none=>
     have hR:Hid (MG s=([],7)):=Hi (by unfold MG;rw[Bh.out,Q8]);rw[Q8] at Qm;clear Q8 Bh;go_wp2_with fail;refine(Qm _).mono ?_;rintro e w1⟨rfl,rfl⟩;go_wp2_with fail;refine(Ny _).mono ?_;rintro e w2⟨rfl,rfl⟩;go_wp2;go_ret2;rw[hR.out];exact⟨rfl,HB⟩
    |some x=>
     cases J4:val (s[m+1]'hlt) with
     |none=>
      have hR:Hid (MG s=([],7)):=Hi (by unfold MG;rw[Bh.out,Q8,J4]);rw[Q8] at Qm;rw[J4] at Ny;clear Q8 J4 Bh;go_wp2_with fail;refine(Qm _).mono ?_;rintro e w1⟨rfl,rfl⟩;go_wp2_with fail;refine(Ny _).mono ?_;rintro e w2⟨rfl,rfl⟩;go_wp2;go_ret2;rw[hR.out];exact⟨rfl,HB⟩
     |some y=>
      have hx:x < 16:=JS Q8;have hy:y < 16:=JS J4;have BZ:=Hi (show Gs s=(Gs (s.drop (m+2))).map ((S++[UInt8.ofNat (16*x+y)])++ ·) from by rw[Bh.out,Q8,J4]);have OO:bits BinOp.or IntKind.u8 ((x:Int)*16) (y:Int)=((UInt8.ofNat (16*x+y)).toNat:Int):=avt x y hx hy;have CG:S.length+1≤1099511627776:=(by have:=Oo.out;omega);rw[Q8] at Qm;rw[J4] at Ny;clear Q8 J4 Bh;go_wp2_with fail;refine(Qm _).mono ?_;rintro e w1⟨rfl,rfl⟩;go_wp2_with fail;refine(Ny _).mono ?_;rintro e w2⟨rfl,rfl⟩;go_wp2_with fail;refine(zl DV (UInt8.ofNat (16*x+y)) CG).mono ?_;rintro e w3⟨rfl,dA,h1,h2,h3⟩;have U6:=Hi h1;have apg:=Hi (show ∀ q,dA q→w.heap.size≤q from fun q hq=>(h3 q hq).elim (Fe q) (fun e=>Aw HB.size e));have Au:=Hi (Cy HB h2 Fe HB.size);clear h1 h2 h3;go_wp2;go_roundw
      case rel=>exact⟨m+2,S++[UInt8.ofNat (16*x+y)],dA,by have:=HM.out;omega,by omega,by go_num,by have:=Oo.out;simp;omega,BZ,U6,apg,Au⟩
      case measure=>simp[intOf];omega
   ·obtain rfl:m=s.length:=(by have:=HM.out;have:=HEV.out;omega);have hR:Hid (MG s=(S,0)):=Hi (by unfold MG;rw[UG,List.drop_length];simp[Gs]);have kR:¬ (s.length:Int)+1 < (s.length:Int):=(by omega);clear UG hlt;go_wp2_with fail;refine(Xp DV).mono ?_;rintro e w1⟨rfl,hu⟩;have HB1:=Hi (Cy HB hu Fe HB.size);clear hu;go_wp2;go_ret2;rw[hR.out];exact⟨rfl,HB1⟩
end Hex
section
open Go.RowKit Go.Maps
open Ag Ar
@[irreducible] def Dm (A:M):List Value:=A.flatMap fun p=>[.string (bs p.1),.string (bs p.2)]
theorem QC:Dm []=[]:=by unfold Dm;rfl
theorem Td(A:M)(p:T×T):Dm (A++[p])=Dm A++[.string (bs p.1),.string (bs p.2)]:=by unfold Dm;simp
theorem qy(A:M)(k:Nat)(hk:k < A.length)(j:Nat)(hj:j < 2):(Dm A)[k*2+j]?=([.string (bs A[k].1),.string (bs A[k].2)]:List Value)[j]? :=by
 unfold Dm
 induction A generalizing k with
 |nil=>simp at hk
 |cons c l ih=>
  rw[Qg];cases k with
  |zero=>
   rw[Nat.zero_mul,Ha,List.getElem?_append_left (by simp;omega)];rfl
  |succ k=>
   rw[List.getElem?_append_right (by simp;omega),show(k+1)*2+j -([Value.string (bs c.1),.string (bs c.2)]:List Value).length=k*2+j by simp;omega];exact ih k (by simpa using hk)
abbrev Mc(w:World)(base:Nat)(v:Value)(A:M):Prop:=w.ownsRow base 274 2 v A.length (Dm A)
theorem asU:(prog.info? 274).map (fun i=>(i.zero,i.size,i.bytes))=some (some (.agg #[.string ByteArray.empty,.string ByteArray.empty]),2,32):=by kernel_rfl
theorem Mc.index{w:World}{base cap k:Nat}{q:Option Addr}{A:M}(h:Mc w base (.slice q A.length cap) A)(hk:k < A.length):
  ∃ p:Addr,(∀ W,(Instr.indexAt 172 (.slice q A.length cap) (.int .i64 (k:Int))).run prog W=.ok (.pointer (some p)) W)∧w.cell? p=some (.string (bs A[k].1))∧w.cell? ⟨p.block,p.off+1,none⟩=some (.string (bs A[k].2)):=by
 rcases h.2 with⟨e1,e2⟩|⟨g,cap',cur,e1,_⟩
 ·omega
 ·have e2:q=some ⟨g,0,none⟩:=by injection e1
  subst e2;have hc:∀ j,j < 2→∀ v,([.string (bs A[k].1),.string (bs A[k].2)]:List Value)[j]?=some v→w.cell? (((⟨g,0,none⟩:Addr).add (k*2)).add j)=some v:=fun j hj v hv=>by
   rw[←qy A k hk j hj] at hv;have:=h.cells (g:=g) rfl _ _ hv;rw[add_plain] at this ⊢;rw[VP];exact this
  refine⟨_,fun W=>IB prog _ 274 underlying172 2 (by kernel_rfl) ⟨g,0,none⟩ A.length cap k hk W,?_,?_⟩
  ·have:=hc 0 (by omega) _ rfl;rwa[add_zero'] at this
  ·exact hc 1 (by omega) _ rfl
def Hz(w:World)(r:Nat)(v:Value)(A:M)(most:Int):Prop:=w.heap[r]?=some (.cells #[v,.int .i64 most] 174)∧Mc w 0 v A
theorem Hz.below{w w':World}{r:Nat}{v:Value}{A:M}{most:Int}(h:Hz w r v A most)(hb:Bw w w'):Hz w' r v A most:=
 ⟨(hb.block r (Ao h.1)).trans h.1,Bv h.2 (ub hb) (fun _ _ f=>f)⟩
theorem Hz.noS{w w':World}{r:Nat}{v:Value}{A:M}{most:Int}{bl:Nat→Prop}(h:Hz w r v A most)(hu:A7 (Gx w bl) w w'):Hz w' r v A most:=
 ⟨hu.noS h.1 (by decide),Bv h.2 hu (fun _ hg e=>e.not (Cn h.2 hg) (by decide))⟩
def FI(c:Am):Bool→M→M
 |d,[]=>if d then[] else[(c.name,c.data)]
 |d,p :: l=>(if d=false∧¬ p.1 < c.name then[(c.name,c.data)] else[])++((if p.1=c.name then[] else[p])++FI c (d || !decide (p.1 < c.name)) l)
theorem amx(c:Am)(l:M):FI c true l=l.filter fun p=>!(p.1 == c.name):=by
 induction l with
 |nil=>rfl
 |cons p l ih=>
  unfold FI;rw[Ab (by simp),Bool.true_or,ih,Ei];by_cases h:p.1=c.name
  ·rw[Ad h,Rl (by simpa using h)];rfl
  ·rw[Ab h,Vn (by simpa using h)];rfl
theorem amy{c:Am}{A:M}(h:Up A):FI c c.gone A=Am.on A c:=by
 unfold Am.on;cases c.gone with
 |true=>rw[Ad rfl,amx];rfl
 |false=>
  rw[Ab (by simp)];unfold Ag.put
  induction A with
  |nil=>rfl
  |cons p l ih=>
   have hl:=JV.1 h;unfold FI;by_cases h1:p.1 < c.name
   ·have h2:=R9 h1;rw[Ab (by simp[h1]),Ab (KZ h1),Vn (by simpa using h1),Rl (by simpa using h2)];simp only[h1,decide_true,Bool.not_true,Bool.or_self,Ei,Gt];rw[ih hl.2]
   ·have hall:∀ q∈l,c.name < q.1:=fun q hq=>by
     rcases lT c.name p.1 with e|e|e
     ·exact Yo e (hl.1 q hq)
     ·rw[e];exact hl.1 q hq
     ·exact absurd e h1
    rw[Ad ⟨rfl,h1⟩,Rl (by simpa using h1),filter_none (fun q hq=>by simpa using R9 (hall q hq)),Ei];simp only[h1,decide_false,Bool.not_false,Bool.or_true];rw[amx,filter_all (F:=l) (p:=fun p=>!(p.1 == c.name)) (fun q hq=>by simpa using(KZ (hall q hq)).symm)];by_cases h2:p.1=c.name
    ·rw[Ad h2,Rl (by rw[h2];simp),filter_all (fun q hq=>by simpa using hall q hq)];rfl
    ·have h3:c.name < p.1:=by
      rcases lT c.name p.1 with e|e|e
      ·exact e
      ·exact absurd e.symm h2
      ·exact absurd e h1
     rw[Ab h2,Vn (by simpa using h3),filter_all (fun q hq=>by simpa using hall q hq)];rfl
section
variable {w w':World}
theorem azT(n:Nat)(hn:n≤16384)(w:World):Calls prog 174 #[.int .i64 (n:Int)] w fun e w'=>e=.returned (.int .i64 (lg n:Nat))∧w=w':=by
 have hq:(n:Int).tdiv 8=((n / 8:Nat):Int):=by rw[Int.tdiv_eq_ediv_of_nonneg (by omega)];omega
 have hl:lg n=max (n / 8) 2:=rfl;have HL:=Hi hl;clear hl;obtain⟨k,hk⟩:=ex (n / 8);rw[hk] at hq HL;have RO:k≤16384:=by omega
 clear hk
 go_in
 go_wp2;go_ret;refine⟨?_,rfl⟩;rw[HL.out,show((max k 2:Nat):Int)=max (k:Int) 2 by omega];rfl
theorem azq(n:Nat)(h8:8≤n)(hn:n≤16384)(w:World):Calls prog 91 #[.int .i64 (n:Int)] w fun e w'=>e=.returned (.int .i64 (sz n:Nat))∧w=w':=by
 obtain⟨l1,l2,l3⟩:=aA h8;have hs:Hid (sz n=(n -1 -lg n) / 2):=Hi rfl;have HLG:=Hi (azT n hn w);obtain⟨k,hk⟩:=ex (lg n);rw[hk] at hs HLG l1 l3;have hq:((n:Int) -1 -(k:Int)).tdiv 2=(((n -1 -k) / 2:Nat):Int):=by rw[Int.tdiv_eq_ediv_of_nonneg (by omega)];omega
 clear hk l2
 go_in
 go_wp2_with fail;refine HLG.mono ?_;rintro e w1⟨rfl,rfl⟩;go_wp2;go_ret;rw[hs.out];exact⟨rfl,rfl⟩
theorem azX{n:Nat}(h8:8≤n):(64*(sz n:Int) -4:Int)=(Co n:Int):=by
 obtain⟨l1,l2,l3⟩:=aA h8;unfold Co;omega
theorem azU(n:Nat)(h8:8≤n)(hn:n≤16384)(w:World):Calls prog 39 #[.int .i64 (n:Int)] w fun e w'=>∃ r,e=.returned (.pointer (some ⟨r,0,none⟩))∧Hz w' r (.slice none 0 0) [] (Co n)∧w.heap.size≤r∧Bw w w':=by
 have HA:=Hi (azq n h8 hn w);have HR:=Hi (azX h8);have hb:sz n≤16384:=by unfold sz;omega
 generalize sz n=k at*
 go_in
 go_wp2_with fail;refine HA.mono ?_;rintro e w1⟨rfl,rfl⟩;go_wp2;go_ret;refine⟨w.heap.size,rfl,⟨?_,by show World.ownsRow _ 0 _ 2 _ 0 (Dm []);rw[QC];exact DZ _ _ _ _⟩,Ae _,AU _ _⟩;rw[←HR.out];exact AQ _ _
theorem an2(nm dt:T)(g:Bool)(w:World)(h1:nm.length≤maxLen)(h2:dt.length≤maxLen):
  Calls prog 118 #[.agg #[.string (bs nm),.string (bs dt),.bool g]] w fun e w'=>e=.returned (.bool (Am.may ⟨nm,dt,g⟩))∧Bw w w':=by
 have HB:=Hi (AU w (.cells #[.string (bs nm),.string (bs dt),.bool g] 57));unfold maxLen at h1 h2;have hn:nm≠[]↔1≤nm.length:=by cases nm<;>simp
 by_cases c1:1≤nm.length∧nm.length≤32∧dt.length≤65535
 ·obtain⟨c1,c2,c3⟩:=c1;have i1:(1:Int)≤(nm.length:Int):=by omega
  have i2:(nm.length:Int)≤32:=by omega
  have i3:(dt.length:Int)≤65535:=by omega
  cases g with
  |false=>
   have hv:Hid (Am.may ⟨nm,dt,false⟩=true):=Hi (by unfold Am.may Fu;rw[MM (show nm≠[]∧nm.length≤32∧dt.length≤65535 from⟨hn.2 c1,c2,c3⟩)];rfl);rw[hv.out];clear hn
   go_in
   go_wp2;go_ret;exact⟨by simp,HB⟩
  |true=>
   by_cases h4:dt=[]
   ·have hv:Hid (Am.may ⟨nm,dt,true⟩=true):=Hi (by unfold Am.may Fu;rw[MM (show nm≠[]∧nm.length≤32∧dt.length≤65535 from⟨hn.2 c1,c2,c3⟩),h4];rfl);have hf:dt.isEmpty=true:=(by simpa using h4);rw[hv.out];clear hn h4
    go_in
    go_wp2;go_ret;exact⟨by simp,HB⟩
   ·have hf:dt.isEmpty=false:=(by simpa using h4);have hv:Hid (Am.may ⟨nm,dt,true⟩=false):=Hi (by unfold Am.may;simp only;rw[hf];simp);rw[hv.out];clear hn h4
    go_in
    go_wp2;go_ret;exact⟨by simp,HB⟩
 ·have hv:Hid (Am.may ⟨nm,dt,g⟩=false):=Hi (by
   unfold Am.may Fu;rw[decide_eq_false (show ¬ (nm≠[]∧nm.length≤32∧dt.length≤65535) from fun e=>c1 ⟨hn.1 e.1,e.2⟩)];rfl)
  rw[hv.out];clear hn;by_cases d1:1≤nm.length
  ·by_cases d2:nm.length≤32
   ·have i1:(1:Int)≤(nm.length:Int):=(by omega);have i2:(nm.length:Int)≤32:=(by omega);have i3:¬ (dt.length:Int)≤65535:=(by omega);clear c1
    go_in
    go_wp2;go_ret;exact⟨by simp,HB⟩
   ·have i1:(1:Int)≤(nm.length:Int):=(by omega);have i2:¬ (nm.length:Int)≤32:=(by omega);clear c1
    go_in
    go_wp2;go_ret;exact⟨by simp,HB⟩
  ·have i1:¬ (1:Int)≤(nm.length:Int):=(by omega);clear c1
   go_in
   go_wp2;go_ret;exact⟨by simp,HB⟩
theorem Mc.acz{base Uu n:Nat}{v:Value}{xs:List Value}(h:w.ownsRow base 274 2 v n xs)(hb:Uu≤base):w.ownsRow Uu 274 2 v n xs:=by
 refine⟨h.1,?_⟩;rcases h.2 with h2|⟨g,cap,cur,e0,I5,h3⟩
 ·exact .inl h2
 ·exact .inr ⟨g,cap,cur,e0,Aw hb I5,h3⟩
end
end
namespace Bt
open Go.RowKit Go.Maps
open Ag Ar
structure Py(w:World)(q:Addr)(p:T×T):Prop where
 key:w.cell? q=some (.string (bs p.1))
 val:w.cell? ⟨q.block,q.off+1,none⟩=some (.string (bs p.2))
def Bf(w:World)(a:Option Addr)(l:M):Prop:=∀ i,(h:i < l.length)→∃ p:Addr,a=some p∧Py w (p.add (i*2)) l[i]
abbrev BJ(w:World)(base:Nat)(v:Value)(l:M):Prop:=w.ownsRow base 51 2 v l.length (Dm l)
theorem Rb:(prog.info? 51).map (fun i=>(i.zero,i.size,i.bytes))=some (some (.agg #[.string ByteArray.empty,.string ByteArray.empty]),2,32):=by kernel_rfl
section
variable {w w':World}{a:Option Addr}{l:M}
theorem Py.upd{F:Nat→Prop}{q:Addr}{p:T×T}(h:Py w q p)(hu:A7 F w w')(hF:¬ F q.block):Py w' q p:=by
 have hl:=Cr h.key;exact⟨(hu.cell hl hF).trans h.key,(hu.cell (p:=⟨q.block,q.off+1,none⟩) hl hF).trans h.val⟩
theorem Bf.upd{F:Nat→Prop}(h:Bf w a l)(hu:A7 F w w')(hF:∀ p,a=some p→l≠[]→¬ F p.block):Bf w' a l:=fun i hi=>by
 obtain⟨p,e,hp⟩:=h i hi;exact⟨p,e,hp.upd hu (by rw[add_block];exact hF p e (List.ne_nil_of_length_pos (by omega)))⟩
theorem Bf.below(h:Bf w a l)(hb:Bw w w'):Bf w' a l:=h.upd (ub hb) (fun _ _ _ f=>f)
theorem Bf.nil(w:World)(a:Option Addr):Bf w a []:=fun i hi=>by simp at hi
theorem Bf.index(h:Bf w a l)(cap k:Nat)(hk:k < l.length):
  ∃ q:Addr,(∀ W,(Instr.indexAt 30 (.slice a l.length cap) (.int .i64 (k:Int))).run prog W=.ok (.pointer (some q)) W)∧Py w q l[k]∧∃ p:Addr,a=some p∧q.block=p.block:=by
 obtain⟨p,rfl,hp⟩:=h k hk;exact⟨_,fun W=>IB prog _ 51 underlying30 2 (by kernel_rfl) p l.length cap k hk W,hp,p,rfl,add_block _ _⟩
theorem Bf.CX{base n:Nat}{c:Nat}{q:Option Addr}(h:BJ w base (.slice q n c) l):Bf w q l:=fun i hi=>by
 rcases h.2 with⟨e1,e2⟩|⟨g,cap',cur,e1,_⟩
 ·omega
 ·have e2:q=some ⟨g,0,none⟩:=by injection e1
  subst e2;have hc:∀ j,j < 2→∀ v,([.string (bs l[i].1),.string (bs l[i].2)]:List Value)[j]?=some v→w.cell? (((⟨g,0,none⟩:Addr).add (i*2)).add j)=some v:=fun j hj v hv=>by
   rw[←qy l i hi j hj] at hv;have:=h.cells (g:=g) rfl _ _ hv;rw[add_plain] at this ⊢;rw[VP];exact this
  refine⟨_,rfl,?_,?_⟩
  ·have:=hc 0 (by omega) _ rfl;rwa[add_zero'] at this
  ·have:=hc 1 (by omega) _ rfl;rw[add_plain,VP] at this;rw[add_plain];exact this
theorem agW(a b:M):Dm (a++b)=Dm a++Dm b:=by unfold Dm;rw[MJ]
theorem dw(l:M):(Dm l).length=l.length*2:=by
 unfold Dm
 induction l with
 |nil=>rfl
 |cons p l ih=>rw[Qg,AA,ih,BG];simp;omega
theorem agX(l:M):∀ u∈Dm l,u.oneCell'=true:=by
 unfold Dm;intro u hu;obtain⟨p,_,hp⟩:=Nv.1 hu;simp only[Cc,List.not_mem_nil,or_false] at hp;rcases hp with rfl|rfl<;>rfl
theorem Bf.cells{p:Addr}(h:Bf w (some p) l):∀ j u,(Dm l)[j]?=some u→w.cell? (p.add j)=some u:=fun j u hj=>by
 have hlt:j < l.length*2:=by
  have:=(U1.1 hj).1;rwa[dw] at this
 obtain⟨i,r,hr,rfl⟩:∃ i r,r < 2∧j=i*2+r:=⟨j / 2,j % 2,by omega,by omega⟩;have hi:i < l.length:=by omega
 obtain⟨q,e,hp⟩:=h i hi;cases e;have hg:=qy l i hi r hr;rw[hj] at hg
 match r,hr with
 |0,_=>
  have:u=.string (bs l[i].1):=by simpa using hg
  rw[this];exact hp.key
 |1,_=>
  have:u=.string (bs l[i].2):=by simpa using hg
  rw[this,←Addr.add_add];have e3:(p.add (i*2)).add 1=⟨(p.add (i*2)).block,(p.add (i*2)).off+1,none⟩:=by
   generalize p.add (i*2)=q;unfold Addr.add;simp
  rw[e3];exact hp.val
def anF(v:Value):Nat:=match v with| .slice _ n _=>n|_=>0
def IX(q:Option Addr)(cap k:Nat):Option Addr:=if cap=k then q else q.map (·.add (k*2))
theorem acQ(W:World)(q:Option Addr)(n cap k:Nat)(hk:k≤n)(hc:n≤cap):
  (Instr.slice 30 (.slice q n cap) none (some (.int .i64 (k:Int))) none).run prog W=.ok (.slice q k cap) W:=by
 obtain⟨i,hi,_,hs,_⟩:=DC Rb;cases q<;>simp[Instr.slice,Hd underlying30,Instr.sliceBounds,sizeOf,typeInfo,hi,go_sem]<;>omega
theorem fU(W:World)(q:Option Addr)(n cap k:Nat)(hk:k≤n):
  (Instr.slice 30 (.slice q n cap) (some (.int .i64 (k:Int))) none none).run prog W=.ok (.slice (IX q cap k) (n -k) (cap -k)) W:=by
 obtain⟨i,hi,_,hs,_⟩:=DC Rb;cases q
 ·simp[Instr.slice,Hd underlying30,Instr.sliceBounds,sizeOf,typeInfo,hi,go_sem,IX];exact fun h=>absurd h (by omega)
 ·simp[Instr.slice,Hd underlying30,Instr.sliceBounds,sizeOf,typeInfo,hi,hs,go_sem,IX];exact fun h=>absurd h (by omega)
theorem Bf.front(h:Bf w a l)(k:Nat):Bf w a (l.take k):=fun i hi=>by
 rw[AZ] at hi;obtain⟨p,hp,hc⟩:=h i (by omega);exact⟨p,hp,by rw[List.getElem_take];exact hc⟩
theorem Bf.back(h:Bf w a l){cap k:Nat}(hk:k≤l.length)(hc:l.length≤cap):Bf w (IX a cap k) (l.drop k):=fun i hi=>by
 rw[Ct] at hi;obtain⟨p,hp,BN⟩:=h (k+i) (by omega);refine⟨p.add (k*2),?_,?_⟩
 ·unfold IX;rw[Ab (by omega),hp];rfl
 ·rw[Addr.add_add,List.getElem_drop,show k*2+i*2=(k+i)*2 by omega];exact BN
end
section
variable {w:World}
theorem aV{ops:Array Oper}{rest:List Oper}{o:Oper}{a:Act}{Q:Exit→Act→World→Prop}(PX:o.guard=none)(s x:Operand)
  (ho:o.op=.call { callee:=.builtin .append,args:=#[s,x],argTypes:=#[30,30] })
  (base:Nat)(v:Value)(n:Nat)(l k:M)(hs:a.eval s=v)(hown:w.ownsRow base 51 2 v n (Dm l))(q:Option Addr)(cap m:Nat)(hx:a.eval x=.slice q m cap)(hm:k.length=m)(hk:Bf w q k)(hq:q=none→cap=0)
  (hn:n+m≤1000000000)(Mq:base≤w.heap.size)
  (h:∀ v' w',w'.ownsRow base 51 2 v' (n+m) (Dm (l++k))→w.grownBy w' v.ownBlock→(v'.ownBlock=v.ownBlock∨v'.ownBlock=some w.heap.size)→wpList prog ops Q rest (a.put o.dst v') w'):
  wpList prog ops Q (o :: rest) a w:=by
 obtain⟨i0,Bl,AY,Ba,Be⟩:=DC Rb;subst hm;cases q with
 |none=>
  obtain rfl:k=[]:=by
   cases k with
   |nil=>rfl
   |cons y k=>
    obtain⟨p,hp,_⟩:=hk 0 (by simp);cases hp
  rw[hq rfl] at hx;refine wpList_append_own_none PX s x _ ho base 51 i0 2 underlying30 Bl v n (Dm l) hs hown hx ?_;exact h v w (by rw[Ea];exact hown) (World.grownBy.refl w _) (.inl rfl)
 |some ad=>
  refine wpList_append_own_at w PX s x _ ho base 51 i0 _ 2 32 underlying30 Bl AY Ba Be rfl (by decide) v n (Dm l) hs hown ad k.length cap (Dm k) hx (dw k) hk.cells (agX k) (by unfold maxLen;omega) (by omega) Mq ?_;intro v' w' h1 h2 _ h4;refine h v' w' ?_ h2 h4;rw[agW];exact h1
theorem asw(w:World):BJ (w.alloc (.cells #[] 51)) w.heap.size (.slice (some ⟨w.heap.size,0,none⟩) 0 0) []:=
 ⟨by unfold Dm;rfl,.inr ⟨w.heap.size,0,#[],rfl,Ae _,AQ w _,Ae _,AV _,rfl,by unfold Dm;rfl⟩⟩
theorem FH{base:Nat}{v:Value}{l:M}(h:BJ w base v l):∃ q cap,v=.slice q l.length cap∧(q=none→cap=0)∧l.length≤cap:=by
 rcases h.2 with⟨e1,e2⟩|⟨g,cap,_,e1,_,_,hn,_⟩
 ·exact⟨none,0,by rw[e1,e2],fun _=>rfl,by omega⟩
 ·exact⟨_,cap,e1,(fun e=>by cases e),hn⟩
theorem tY(p q:T×T)(w:World):
  Calls prog 179 #[.agg #[.string (bs p.1),.string (bs p.2)],.agg #[.string (bs q.1),.string (bs q.2)]] w fun e w'=>e=.returned (.bool (decide (p.1 < q.1)))∧Bw w w':=by
 have hb:=((Ai w.heap.size w).alloc (Ae _) (.cells #[.string (bs p.1),.string (bs p.2)] 51)).alloc (by rw[Ay];omega) (.cells #[.string (bs q.1),.string (bs q.2)] 51);have HB:=Hi hb;have HV:=Hi (show Op.bytesLess p.1 q.1=decide (p.1 < q.1) from by rw[Go.Proofs.bytesLess_eq]);clear hb;generalize decide (p.1 < q.1)=r at*;have hv:=HV.out
 go_in
 go_wp2;go_ret;exact⟨rfl,HB⟩
theorem agN(w:World)(p:Option Addr)(n c:Nat):(binOp .eql 30 (.slice p n c) (.slice none 0 0)).run prog w=.ok (.bool p.isNone) w:=by
 have h:∀ d,(Op.equalIn (d+1) 30 (.slice p n c) (.slice none 0 0)).run prog w=.ok p.isNone w:=fun d=>by
  cases p<;>simp[Op.equalIn,Hd underlying30]
 simp only[binOp];simp[show Op.equal 30 (.slice p n c) (.slice none 0 0)=Op.equalIn (9999+1) 30 (.slice p n c) (.slice none 0 0) from rfl,h 9999]
theorem mh{q:Option Addr}{cap:Nat}{l:M}(h:Bf w q l)(hq:q=none→cap=0)(hl:l.length≤1000000000):
  Calls prog 95 #[.slice q l.length cap] w fun e w'=>∃ v,e=.returned v∧BJ w' w.heap.size v l∧Bw w w':=by
 cases q with
 |none=>
  obtain rfl:cap=0:=hq rfl;have Mt:l=[]:=by
   cases l with
   |nil=>rfl
   |cons x l=>obtain⟨p,e,_⟩:=h 0 (by simp);cases e
  subst Mt;have hqe:=fun w=>agN w none 0 0
  clear h
  go_in
  go_wp2;go_ret;exact⟨_,rfl,by unfold BJ;rw[QC];exact DZ _ _ _ _,Ai _ _⟩
 |some p=>
  have HH:=Hi h;have hqe:=fun w=>agN w (some p) l.length cap
  clear h hq
  go_in
  go_wp2_with (at_builtin;refine aV rfl _ _ rfl w.heap.size _ 0 [] l rfl (asw w) (some p) cap l.length rfl rfl (HH.below (AU w _)) (fun e=>by cases e) (by simpa using hl) (by rw[Ay];omega) ?_;intro v' w1 hown AJ hat);go_ret;refine⟨v',rfl,by rw[Ha,Ei] at hown;exact hown,(AU w _).grown AJ (by rw[Ay];omega) (fun k e=>?_)⟩;have e':some w.heap.size=some k:=e;have:=GQ e';omega
def aqr(w:World)(A B:M)(va vb vo:Value)(wr:World):Prop:=∃ (A' B' O:M) (Sj Sk:Option Addr) (Oy cb':Nat),va=.slice Sj A'.length Oy∧vb=.slice Sk B'.length cb'∧Bf w Sj A'∧Bf w Sk B'∧(Sj=none→Oy=0)∧(Sk=none→cb'=0)∧A'.length≤Oy∧B'.length≤cb'∧
   O++Gr A' B'=Gr A B∧O.length+A'.length+B'.length=A.length+B.length∧BJ wr w.heap.size vo O∧Bw w wr
theorem alO{qa qb:Option Addr}{ca cb:Nat}{A B:M}(hA:Bf w qa A)(hB:Bf w qb B)(ha:qa=none→ca=0)(hb:qb=none→cb=0)(dJ:A.length≤ca)(hbc:B.length≤cb)(hl:A.length+B.length≤1000000):
  Calls prog 177 #[.slice qa A.length ca,.slice qb B.length cb,.func (.func 179) #[] #[]] w fun e w'=>∃ v,e=.returned v∧BJ w' w.heap.size v (Gr A B)∧Bw w w':=by
 obtain⟨i0,Bl,AY,Ba,Be⟩:=DC Rb;obtain⟨w1,NY,Af,Tv⟩:=run_make_own (P:=prog) w w.heap.size 30 51 i0 _ 2 underlying30 Bl AY Ba .i64 .i64 (A.length+B.length) (by rw[Be];omega) (by unfold maxLen;omega) (Ae _);rw[Int.natCast_add] at NY;have D7:((A.length:Int)+(B.length:Int))≤1000000:=by omega
 have HA:=Hi hA;have HB:=Hi hB;have Ck:=Hi (show BJ w1 w.heap.size (.slice (some ⟨w.heap.size,0,none⟩) 0 (A.length+B.length)) [] from by unfold BJ;rw[QC];exact Af);have X0:=Hi ((Ai w.heap.size w).grown Tv (Ae _) (fun k e=>by cases e));have HQA:=Hi ha;have HQB:=Hi hb;clear hA hB Af Tv ha hb
 go_in
 go_wp2
 go_loopw [0,1,7] (fun va vb vo wr=>aqr w A B va vb vo wr) (fun va vb _ _=>anF va+anF vb)
 case atStart=>exact⟨A,B,[],qa,qb,ca,cb,rfl,rfl,HA,HB,HQA,HQB,dJ,hbc,rfl,by simp,Ck,X0⟩
 case round=>
  obtain⟨A',B',O,Sj,Sk,Oy,cb',rfl,rfl,hA',hB',ha',hb',ait,aiE,hm,hlen,Af,rH⟩:=hrel;obtain⟨qo,co,rfl⟩:=Bo Af;have ib:=Hi hA';have ig:=Hi hB';have oG:=Hi ha';have oH:=Hi hb';have HM:=Hi hm;have HL:=Hi hlen;have HR:=Hi Af;have HW:=Hi rH;have bf:=Hi ait;have AP:=Hi aiE;clear hA' hB' ha' hb' hm hlen Af rH HA HB Ck X0 HQA HQB dJ hbc ait aiE NY D7;by_cases RI:A'=[]
  ·have HE:=Hi (show(O++A')++B'=Gr A B from by rw[←HM.out,RI,lZ,Ea]);have hza:¬ (0:Int) < (A'.length:Int):=(by rw[RI];simp);clear RI
   go_wp2_with (at_builtin;first
    |(refine aV rfl _ _ rfl w.heap.size (.slice qo O.length co) O.length O A' rfl HR Sj Oy A'.length rfl rfl (ib.below HW) oG (by have:=HL.out;omega) HW.size ?_;intro v1 w1 h1 g1 _;obtain⟨q1,c1,rfl⟩:=Bo h1;have H1:=Hi h1;have W1:=Hi (HW.grown g1 HW.size (fun k e=>E9 HR e));clear h1 g1)
    |(refine aV rfl _ _ rfl w.heap.size (.slice q1 (O.length+A'.length) c1) (O.length+A'.length) (O++A') B' rfl H1 Sk cb' B'.length rfl rfl (ig.below W1) oH (by have:=HL.out;omega) W1.size ?_;intro v2 w2 h2 g2 _;have H2:=Hi h2;have W2:=Hi (W1.grown g2 W1.size (fun k e=>E9 H1 e));clear h2 g2))
   go_ret;exact⟨v2,rfl,by unfold BJ;rw[←HE.out,AA,AA];exact H2.out,W2⟩
  ·by_cases PI:B'=[]
   ·have HE:=Hi (show(O++A')++B'=Gr A B from by rw[←HM.out,PI,uB,Ea]);have hza:(0:Int) < (A'.length:Int):=(by have:=List.length_pos_iff.2 RI;omega);have hzb:¬ (0:Int) < (B'.length:Int):=(by rw[PI];simp);clear RI PI
    go_wp2_with (at_builtin;first
     |(refine aV rfl _ _ rfl w.heap.size (.slice qo O.length co) O.length O A' rfl HR Sj Oy A'.length rfl rfl (ib.below HW) oG (by have:=HL.out;omega) HW.size ?_;intro v1 w1 h1 g1 _;obtain⟨q1,c1,rfl⟩:=Bo h1;have H1:=Hi h1;have W1:=Hi (HW.grown g1 HW.size (fun k e=>E9 HR e));clear h1 g1)
     |(refine aV rfl _ _ rfl w.heap.size (.slice q1 (O.length+A'.length) c1) (O.length+A'.length) (O++A') B' rfl H1 Sk cb' B'.length rfl rfl (ig.below W1) oH (by have:=HL.out;omega) W1.size ?_;intro v2 w2 h2 g2 _;have H2:=Hi h2;have W2:=Hi (W1.grown g2 W1.size (fun k e=>E9 H1 e));clear h2 g2))
    go_ret;exact⟨v2,rfl,by unfold BJ;rw[←HE.out,AA,AA];exact H2.out,W2⟩
   ·have sG:=List.length_pos_iff.2 RI;have PY:=List.length_pos_iff.2 PI;have hza:(0:Int) < (A'.length:Int):=(by omega);have hzb:(0:Int) < (B'.length:Int):=(by omega);obtain⟨pa,hia,sP,-⟩:=ib.index Oy 0 sG;obtain⟨pb,hib,QR,-⟩:=ig.index cb' 0 PY;have aEd:∀ W,(Instr.indexAt 30 (.slice Sj A'.length Oy) (.int .i64 0)).run prog W=.ok (.pointer (some pa)) W:=hia;have aEe:∀ W,(Instr.indexAt 30 (.slice Sk B'.length cb') (.int .i64 0)).run prog W=.ok (.pointer (some pb)) W:=hib;have Ws:∀ W,(Instr.slice 30 (.slice Sj A'.length Oy) (some (.int .i64 1)) none none).run prog W=.ok (.slice (IX Sj Oy 1) (A'.length -1) (Oy -1)) W:=fun W=>fU W Sj A'.length Oy 1 sG
    have RV:∀ W,(Instr.slice 30 (.slice Sk B'.length cb') (some (.int .i64 1)) none none).run prog W=.ok (.slice (IX Sk cb' 1) (B'.length -1) (cb' -1)) W:=fun W=>fU W Sk B'.length cb' 1 PY
    have QK:=Rk sG;have rQ:=Rk PY;rw[List.drop_zero] at QK rQ;obtain⟨x,hx⟩:=ex (A'[0]);obtain⟨y,hy⟩:=ex (B'[0]);rw[hx] at sP QK;rw[hy] at QR rQ
    have KC:=Hi (fun(W:World) (hW:Bw w W)=>(show W.cell? pa=some (.string (bs x.1))∧W.cell? ⟨pa.block,pa.off+1,none⟩=some (.string (bs x.2))∧W.cell? pb=some (.string (bs y.1))∧W.cell? ⟨pb.block,pb.off+1,none⟩=some (.string (bs y.2)) from
     ⟨(sP.upd (ub hW) (fun f=>f)).key,(sP.upd (ub hW) (fun f=>f)).val,(QR.upd (ub hW) (fun f=>f)).key,(QR.upd (ub hW) (fun f=>f)).val⟩))
    have Ky:=Hi QK;have iA:=Hi rQ;obtain⟨k1,k2,k3,k4⟩:=KC _ HW.out;have VI:=Hi HW.drew;clear hia hib sP QR hx hy QK rQ RI PI;by_cases hlt:y.1 < x.1
    ·have hd:decide (y.1 < x.1)=true:=MM hlt
     have HN:=Hi (show(O++[y])++Gr A' (B'.drop 1)=Gr A B from by
      rw[←HM.out]
      conv=>rhs;rw[Ky.out,iA.out,lV,Ad hlt]
      rw[Dz,←Ky.out];rfl)
     clear hlt;go_wp2
     go_region_held3 (fun W=>W.cell? pa=some (.string (bs x.1))∧W.cell? ⟨pa.block,pa.off+1,none⟩=some (.string (bs x.2))∧W.cell? pb=some (.string (bs y.1))∧W.cell? ⟨pb.block,pb.off+1,none⟩=some (.string (bs y.2)))
      (first|exact KC _ VI|exact KC _ HB1)
      (first
       |(go_at_call 179;refine(tY y x _).mono ?_;rw[hd];rintro e W1 ⟨rfl,Aj⟩;have HB1:=bH VI Aj;have Ff:=Hi (Cg HR.drew Aj);clear Aj))
     clear k1 k2 k3 k4;obtain⟨k1,k2,k3,k4⟩:=KC _ HB1.out;go_wp2_with fail
     go_region_law
      ((refine step_append_lies _ (by rfl) _ _ _ (by rfl) w.heap.size 51 i0 _ 2 32 underlying30 Bl AY Ba Be (by rfl) (by omega) (.slice qo O.length co) O.length (Dm O) (by rfl) ((Ff.alloc _).drew) ⟨W1.heap.size,0,none⟩ 1 1 [.string (bs y.1),.string (bs y.2)] (by rfl) (by rfl) (World.news_of_block (cs:=#[.string (bs y.1),.string (bs y.2)]) (t:=51) (fr:=(0,0)) (AQ W1 _)) (fun u hu=>by simp at hu;rcases hu with rfl|rfl<;>rfl) (by omega) (by have:=HL.out;unfold maxLen;omega) (by have:=HL.out;omega) (by have:=HB1.size;rw[World.size_drew,Ay];omega) (W1.heap.size+1) (by simp) ?_;intro gg cap2 w2 OP AJ hat OJ))
     all_goals
      have RD:=Hi (((HB1.alloc HB1.size _).drew).grown AJ (by have:=HB1.size;rw[World.size_drew,Ay];omega) (fun k e=>E9 Ff e));have Pn:=Hi OP;clear OP AJ hat k1 k2 k3 k4;go_wp2;go_roundw
      case rel=>
       repeat apply Exists.intro
       refine⟨?_,rfl⟩;exact⟨A',B'.drop 1,O++[y],Sj,IX Sk cb' 1,Oy,cb' -1,rfl,by rw[Ct],ib,ig.back PY AP,oG,(fun e=>by have:=oH.out;have h1:=AP.out;unfold IX at e;split at e<;>simp_all<;>omega),bf,by have:=AP.out;rw[Ct];omega,HN,by have:=HL.out;simp only[AA,Le,Ct];omega,by unfold BJ;rw[AA,Td];exact Pn.out,RD⟩
      case measure=>
       show A'.length+(B'.length -1) < A'.length+B'.length
       omega
    ·have hd:decide (y.1 < x.1)=false:=decide_eq_false hlt
     have HN:=Hi (show(O++[x])++Gr (A'.drop 1) B'=Gr A B from by
      rw[←HM.out]
      conv=>rhs;rw[Ky.out,iA.out,lV,Ab hlt]
      rw[Dz,←iA.out];rfl)
     clear hlt;go_wp2
     go_region_held3 (fun W=>W.cell? pa=some (.string (bs x.1))∧W.cell? ⟨pa.block,pa.off+1,none⟩=some (.string (bs x.2))∧W.cell? pb=some (.string (bs y.1))∧W.cell? ⟨pb.block,pb.off+1,none⟩=some (.string (bs y.2)))
      (first|exact KC _ VI|exact KC _ HB1)
      (first
       |(go_at_call 179;refine(tY y x _).mono ?_;rw[hd];rintro e W1 ⟨rfl,Aj⟩;have HB1:=bH VI Aj;have Ff:=Hi (Cg HR.drew Aj);clear Aj))
     clear k1 k2 k3 k4;obtain⟨k1,k2,k3,k4⟩:=KC _ HB1.out;go_wp2_with fail
     go_region_law
      ((refine step_append_lies _ (by rfl) _ _ _ (by rfl) w.heap.size 51 i0 _ 2 32 underlying30 Bl AY Ba Be (by rfl) (by omega) (.slice qo O.length co) O.length (Dm O) (by rfl) ((Ff.alloc _).drew) ⟨W1.heap.size,0,none⟩ 1 1 [.string (bs x.1),.string (bs x.2)] (by rfl) (by rfl) (World.news_of_block (cs:=#[.string (bs x.1),.string (bs x.2)]) (t:=51) (fr:=(0,0)) (AQ W1 _)) (fun u hu=>by simp at hu;rcases hu with rfl|rfl<;>rfl) (by omega) (by have:=HL.out;unfold maxLen;omega) (by have:=HL.out;omega) (by have:=HB1.size;rw[World.size_drew,Ay];omega) (W1.heap.size+1) (by simp) ?_;intro gg cap2 w2 OP AJ hat OJ))
     all_goals
      have RD:=Hi (((HB1.alloc HB1.size _).drew).grown AJ (by have:=HB1.size;rw[World.size_drew,Ay];omega) (fun k e=>E9 Ff e));have Pn:=Hi OP;clear OP AJ hat k1 k2 k3 k4;go_wp2;go_roundw
      case rel=>
       repeat apply Exists.intro
       refine⟨?_,rfl⟩;exact⟨A'.drop 1,B',O++[x],IX Sj Oy 1,Sk,Oy -1,cb',by rw[Ct],rfl,ib.back sG bf,ig,(fun e=>by have:=oG.out;have h1:=bf.out;unfold IX at e;split at e<;>simp_all<;>omega),oH,by have:=bf.out;rw[Ct];omega,AP,HN,by have:=HL.out;simp only[AA,Le,Ct];omega,by unfold BJ;rw[AA,Td];exact Pn.out,RD⟩
      case measure=>
       show(A'.length -1)+B'.length < A'.length+B'.length
       omega
end
theorem uR{w:World}{base g n cap:Nat}{xs:List Value}{e:TypeId}{s:Nat}(h:w.ownsRow base e s (.slice (some ⟨g,0,none⟩) n cap) n xs)(i:Nat):w.frozen? ⟨g,i,none⟩=false:=by
 rcases h.2 with⟨e1,_⟩|⟨g',cap',cur,e1,hb,hg,_⟩
 ·cases e1
 ·injection e1 with e2 _ e3
  injection e2 with e4
  injection e4 with e5
  subst e5;exact Dt w g i _ _ hg
theorem uQ{w:World}{base:Nat}{e:TypeId}{s g n cap:Nat}{xs:List Value}(h:w.ownsRow base e s (.slice (some ⟨g,0,none⟩) n cap) n xs)(i:Nat)(v:Value):(w.setCell ⟨g,i,none⟩ v).ownsRow base e s (.slice (some ⟨g,0,none⟩) n cap) n (xs.set i v):=by
 obtain⟨h1,h2⟩:=h;refine⟨by rw[List.length_set];exact h1,?_⟩;rcases h2 with⟨e1,_⟩|⟨g',cap',cur,e1,hb,hg,hn,hm,DF,ht⟩
 ·cases e1
 ·injection e1 with e2 _ e3
  injection e2 with e4
  injection e4 with e5
  subst e5;subst e3;refine .inr ⟨g,cap,cur.setIfInBounds i v,rfl,hb,Cu w g i _ _ v hg,hn,hm,by rw[Array.size_setIfInBounds];exact DF,?_⟩;rw[Array.toList_setIfInBounds,←ht,List.take_set]
theorem anR(a b:T×T):F7 [a,b]=if b.1 < a.1 then[b,a] else[a,b]:=by
 rw[adt (by simp)];have e1:([a,b]:M).take ([a,b].length / 2)=[a]:=by simp
 have e2:([a,b]:M).drop ([a,b].length / 2)=[b]:=by simp
 rw[e1,e2];rw[gH (by simp),gH (by simp),lV,lZ,uB]
theorem aqB{q:Option Addr}{cap k:Nat}(h:q=none→cap=0)(e:IX q cap k=none):cap -k=0:=by
 unfold IX at e;split at e
 ·omega
 ·have:=h (by simpa using e);omega
theorem EA{w:World}{base Uu n s:Nat}{e:TypeId}{v:Value}{xs:List Value}(h:w.ownsRow base e s v n xs)(hb:Uu≤base):w.ownsRow Uu e s v n xs:=by
 refine⟨h.1,?_⟩;rcases h.2 with h2|⟨g,cap,cur,e0,I5,h3⟩
 ·exact .inl h2
 ·exact .inr ⟨g,cap,cur,e0,Aw hb I5,h3⟩
theorem aAU(w:World)(q:Option Addr)(cap:Nat)(l:M)(h2:l.length < 2)(h:Bf w q l)(hq:q=none→cap=0):
  Calls prog 178 #[.slice q l.length cap] w fun e w'=>∃ v,e=.returned v∧BJ w' w.heap.size v (F7 l)∧Bw w w':=by
 have HC:=Hi (mh h hq (by omega));have hi:(l.length:Int) < 2:=by omega
 have HS:=Hi (gH h2);clear h hq h2
 go_in
 go_wp2_with fail;refine HC.mono ?_;rintro e w1⟨v,rfl,hr,hb⟩;obtain⟨q1,c1,rfl,Gp,GH⟩:=FH hr;have HR:=Hi hr;have HB:=Hi hb;clear hr hb Gp GH;go_wp2;go_ret;exact⟨_,rfl,by rw[HS.out];exact HR.out,HB⟩
theorem anL:∀ (n:Nat) (w:World) (q:Option Addr) (cap:Nat) (l:M),l.length≤n→Bf w q l→(q=none→cap=0)→l.length≤1000000→
  Calls prog 178 #[.slice q l.length cap] w fun e w'=>∃ v,e=.returned v∧BJ w' w.heap.size v (F7 l)∧Bw w w':=by
 intro n
 induction n with
 |zero=>exact fun w q cap l hn h hq hl=>aAU w q cap l (by omega) h hq
 |succ n ih=>
  intro w q cap l hn h hq hl;have HC:=Hi (mh h hq (by omega));have IH:=Hi ih;clear h hq ih;obtain⟨L,hL⟩:=ex (l.length);rw[hL] at HC hl hn ⊢;have HL:=Hi hL;clear hL
  go_in
  go_wp2_with fail;refine HC.mono ?_;rintro e w1⟨v,rfl,hr,hb⟩;obtain⟨q1,c1,rfl,Gp,GH⟩:=FH hr;rw[HL.out] at GH ⊢;have HR:=Hi hr;have HB:=Hi hb;have HQ:=Hi Gp;clear hr hb Gp;by_cases h2:L < 2
  ·have hi:(L:Int) < 2:=(by omega);have HS:=Hi (gH (l:=l) (by rw[HL.out];exact h2));clear h2;go_wp2;go_ret;exact⟨_,rfl,by rw[HS.out];rw[HL.out] at HR;exact HR.out,HB⟩
  ·have hi:¬ (L:Int) < 2:=(by omega);by_cases h3:L=2
   ·subst h3;obtain⟨a,b,rfl⟩:∃ a b,l=[a,b]:=by
     match l,HL.out with
     |[a,b],_=>exact⟨a,b,rfl⟩
    have hr:=HR.out;obtain⟨g,rfl⟩:∃ g,q1=some ⟨g,0,none⟩:=by
     rcases hr.2 with⟨e1,e2⟩|⟨g,cap',cur,e1,_⟩
     ·simp at e2
     ·injection e1 with e2;exact⟨g,e2⟩
    have S9:∀ W,(Instr.indexAt 30 (.slice (some ⟨g,0,none⟩) 2 c1) (.int .i64 0)).run prog W=.ok (.pointer (some ⟨g,0,none⟩)) W:=fun W=>by
     have:=IB prog _ 51 underlying30 2 (by kernel_rfl) ⟨g,0,none⟩ 2 c1 0 (by omega) W;rw[add_plain] at this;exact this
    have Em:∀ W,(Instr.indexAt 30 (.slice (some ⟨g,0,none⟩) 2 c1) (.int .i64 1)).run prog W=.ok (.pointer (some ⟨g,2,none⟩)) W:=fun W=>by
     have:=IB prog _ 51 underlying30 2 (by kernel_rfl) ⟨g,0,none⟩ 2 c1 1 (by omega) W;rw[add_plain] at this;exact this
    have KC:=Hi (fun(W:World) (hW:Bw w1 W)=>(show W.cell? ⟨g,0,none⟩=some (.string (bs a.1))∧W.cell? ⟨g,1,none⟩=some (.string (bs a.2))∧W.cell? ⟨g,2,none⟩=some (.string (bs b.1))∧W.cell? ⟨g,3,none⟩=some (.string (bs b.2)) from by
     have BN:=(Cg hr hW).cells (g:=g) rfl;have c0:=BN 0 (.string (bs a.1)) (by unfold Dm;rfl);have c1:=BN 1 (.string (bs a.2)) (by unfold Dm;rfl);have c2:=BN 2 (.string (bs b.1)) (by unfold Dm;rfl);have c3:=BN 3 (.string (bs b.2)) (by unfold Dm;rfl);rw[add_plain] at c0 c1 c2 c3;exact⟨c0,c1,c2,c3⟩))
    have KF:=Hi (fun(W:World) (hW:Bw w1 W)=>(show W.frozen? ⟨g,0,none⟩=false∧W.frozen? ⟨g,1,none⟩=false∧W.frozen? ⟨g,2,none⟩=false∧W.frozen? ⟨g,3,none⟩=false from
     ⟨uR (Cg hr hW) 0,uR (Cg hr hW) 1,uR (Cg hr hW) 2,uR (Cg hr hW) 3⟩))
    have HD:=Hi ((Ai w1.heap.size w1).drew);obtain⟨k0,k1,k2,k3⟩:=KC _ (Ai _ _);have BX:=Hi hr;have HG:=Hi (E9 hr (b:=g) rfl);clear hr HR;by_cases hlt:b.1 < a.1
    ·have hd:decide (b.1 < a.1)=true:=MM hlt;go_wp2
     go_region_held3 (fun W=>W.cell? ⟨g,0,none⟩=some (.string (bs a.1))∧W.cell? ⟨g,1,none⟩=some (.string (bs a.2))∧W.cell? ⟨g,2,none⟩=some (.string (bs b.1))∧W.cell? ⟨g,3,none⟩=some (.string (bs b.2)))
      (first|exact KC _ HD|exact KC _ HB1)
      (first
       |(go_at_call 179;refine(tY b a _).mono ?_;rw[hd];rintro e W1 ⟨rfl,Aj⟩;have HB1:=bH HD Aj;clear Aj))
     clear k0 k1 k2 k3;obtain⟨k0,k1,k2,k3⟩:=KC _ HB1.out;obtain⟨f0,f1,f2,f3⟩:=KF _ HB1.out;go_wp2;go_region;all_goals
      go_wp2;go_ret;refine⟨_,rfl,?_,(((((bT HB HB1).setCell (p:=⟨g,0,none⟩) HG _).setCell (p:=⟨g,1,none⟩) HG _).setCell (p:=⟨g,2,none⟩) HG _).setCell (p:=⟨g,3,none⟩) HG _).drew⟩;rw[anR,Ad hlt];have:=(uQ (uQ (uQ (uQ (Cg BX HB1) 0 (.string (bs b.1))) 1 (.string (bs b.2))) 2 (.string (bs a.1))) 3 (.string (bs a.2))).drew;have e:(((((Dm [a,b]).set 0 (.string (bs b.1))).set 1 (.string (bs b.2))).set 2 (.string (bs a.1))).set 3 (.string (bs a.2)))=Dm [b,a]:=(by unfold Dm;rfl);rw[e] at this;exact this
    ·have hd:decide (b.1 < a.1)=false:=decide_eq_false hlt;go_wp2
     go_region_held3 (fun W=>W.cell? ⟨g,0,none⟩=some (.string (bs a.1))∧W.cell? ⟨g,1,none⟩=some (.string (bs a.2))∧W.cell? ⟨g,2,none⟩=some (.string (bs b.1))∧W.cell? ⟨g,3,none⟩=some (.string (bs b.2)))
      (first|exact KC _ HD|exact KC _ HB1)
      (first
       |(go_at_call 179;refine(tY b a _).mono ?_;rw[hd];rintro e W1 ⟨rfl,Aj⟩;have HB1:=bH HD Aj;clear Aj))
     go_wp2;go_ret;exact⟨_,rfl,by rw[anR,Ab hlt];exact Cg BX HB1.out,HB.trans (HB1.mono HB.size)⟩
   ·have hi3:¬ (L:Int)=2:=(by omega);obtain⟨k,hk⟩:=ex (L / 2);have aEx:(L:Int) / 2=(k:Int):=(by omega);have hr:=HR.out;rw[HL.out] at hr;have hat:=Bf.CX hr;have Dw:k≤L:=(by omega);have kH:=fun W=>acQ W q1 L c1 k Dw GH
    have OB:=fun W=>fU W q1 L c1 k Dw
    have hf:=hat.front k;have I5:=hat.back (cap:=c1) (k:=k) (by rw[HL.out];exact Dw) (by rw[HL.out];exact GH);have lf:(l.take k).length=k:=(by rw[AZ,HL.out];omega);have lb:(l.drop k).length=L -k:=(by rw[Ct,HL.out]);have C1:=Hi (fun(W:World) (hW:Bw w1 W)=>IH W q1 c1 (l.take k) (by omega) (hf.below hW) HQ (by omega));have C2:=Hi (fun(W:World) (hW:Bw w1 W)=>IH W (IX q1 c1 k) (c1 -k) (l.drop k) (by omega) (I5.below hW) (aqB HQ) (by omega));have ls1:=gG (l.take k);have ls2:=gG (l.drop k);rw[lf] at C1 ls1;rw[lb] at C2 ls2;have HS:=Hi (adt (l:=l) (by rw[HL.out];exact h2));rw[HL.out,hk] at HS;have HD:=Hi ((Ai w1.heap.size w1).drew);have p9:=Hi ls1;have pg:=Hi ls2;clear hr hat hf I5 lf lb h2 h3 hk ls1 ls2 HC IH HR;go_wp2
    go_region_held3 (fun _=>True) (exact trivial)
     (first
      |(go_at_call 177;refine X7.mono ?_;rintro e W3 ⟨v3,rfl,h3,Ap⟩;have H3:=Hi h3;have B3:=bH B2 Ap;clear h3 Ap)
      |(go_at_call 178;refine(C2 _ B1).mono ?_;rintro e W2 ⟨v2,rfl,h2,Ac⟩;obtain⟨q3,c3,rfl,TD,K8⟩:=FH h2;rw[pg.out] at K8 ⊢;have B2:=bH B1 Ac;have X7:=Hi (alO (Bf.CX (Cg H1 Ac)) (Bf.CX h2) yh TD (by rw[p9.out];exact Qk.out) (by rw[pg.out];exact K8) (by rw[p9.out,pg.out];omega));rw[p9.out,pg.out] at X7;clear h2 Ac TD K8)
      |(go_at_call 178;refine(C1 _ HD).mono ?_;rintro e W1 ⟨v1,rfl,h1,Aj⟩;obtain⟨q2,c2,rfl,DJ,GY⟩:=FH h1;rw[p9.out] at GY ⊢;have H1:=Hi h1;have yh:=Hi DJ;have Qk:=Hi GY;have B1:=bH HD Aj;clear h1 Aj DJ GY))
    go_wp2;go_ret;exact⟨_,rfl,by rw[HS.out];exact(show BJ _ w.heap.size _ _ from EA H3 (by have:=B2.size;have:=HB.size;omega)),HB.trans (B3.mono HB.size)⟩
def yS(w:World)(a:Option Addr)(rows:List M):Prop:=∀ i,(h:i < rows.length)→∃ p:Addr,a=some p∧∃ q c,w.cell? (p.add i)=some (.slice q rows[i].length c)∧Bf w q rows[i]∧(q=none→c=0)∧rows[i].length≤c
def L6(rows:List M):M:=rows.foldl (fun o r=>Gr o (F7 r)) []
theorem ayf(rows:List M)(r:M):L6 (rows++[r])=Gr (L6 rows) (F7 r):=by unfold L6;rw[List.foldl_append];rfl
theorem aye(rows:List M):(L6 rows).length=(rows.map List.length).sum:=by
 unfold L6
 suffices h:∀ (rows:List M) (o:M),(rows.foldl (fun o r=>Gr o (F7 r)) o).length=o.length+(rows.map List.length).sum from by rw[h];simp
 intro rows
 induction rows with
 |nil=>intro o;simp
 |cons r rows ih=>intro o;rw[List.foldl_cons,ih,ayg,gG,Ca,DR];omega
theorem anW(rows:List M)(k:Nat):((rows.take k).map List.length).sum≤(rows.map List.length).sum:=by
 induction rows generalizing k with
 |nil=>simp
 |cons r rows ih=>
  cases k with
  |zero=>simp
  |succ k=>have:=ih k;simp only[List.take_succ_cons,Ca,DR];omega
theorem alN{w:World}{a:Option Addr}{cap:Nat}{rows:List M}(h:yS w a rows)(hs:(rows.map List.length).sum≤1000000)(hl:rows.length≤1000000):
  Calls prog 97 #[.slice a rows.length cap] w fun e w'=>∃ v,e=.returned v∧BJ w' 0 v (L6 rows)∧Bw w w'∧∀ g,v.ownBlock=some g→w.heap.size≤g:=by
 have HH:=Hi h;clear h
 go_in
 go_wp2
 go_loopw [2,7] (fun vo i wr=>∃ k:Nat,k≤rows.length∧i=.int .i64 (k:Int)∧BJ wr w.heap.size vo (L6 (rows.take k))∧Bw w wr) (fun _ i _=>rows.length -(intOf i).toNat)
 case atStart=>exact⟨0,AV _,rfl,by unfold BJ L6;rw[Gg,List.foldl_nil,QC];exact DZ _ _ _ _,Ai _ _⟩
 case round=>
  obtain⟨k,hk,rfl,Af,hb⟩:=hrel;by_cases hlt:k < rows.length
  ·obtain⟨p,rfl,q,c,Gb,hat,hq,hc⟩:=HH k hlt;have Cs:∀ W,(Instr.indexAt 263 (.slice (some p) rows.length cap) (.int .i64 (k:Int))).run prog W=.ok (.pointer (some (p.add k))) W:=fun W=>by
    have:=IB prog 263 30 underlying263 1 (by kernel_rfl) p rows.length cap k hlt W;rwa[Nat.mul_one] at this
   have av8:=(hb.cell (Cr Gb)).trans Gb;have HS:=Hi (anL _ wr q c rows[k] (Ae _) (hat.below hb) hq (by have:=anW rows (k+1);rw[Cx hlt,CK,Lg] at this;simp only[Ca,Kr,DR,List.sum_nil] at this;omega));have HT:=Hi (show L6 (rows.take (k+1))=Gr (L6 (rows.take k)) (F7 rows[k]) from by rw[Cx hlt,ayf]);have D7:(L6 (rows.take k)).length+(F7 rows[k]).length≤1000000:=by
    have:=anW rows (k+1);rw[Cx hlt,CK,Lg] at this;simp only[Ca,Kr,DR,List.sum_nil] at this;rw[aye,gG];omega
   have CG:=gG rows[k];generalize rows[k]=r at*;obtain⟨qo,co,rfl,ZV,Zy⟩:=FH Af;have HR:=Hi Af;have HB:=Hi hb;have oJ:=Hi ZV;have Ql:=Hi Zy;have Oo:=Hi CG;have VG:=Hi D7;clear Af hb ZV Zy CG hat hq hc Gb D7;generalize L6 (rows.take k)=o at*;go_wp2_with fail;refine HS.mono ?_;rintro e w1⟨v1,rfl,h1,Aj⟩;obtain⟨q1,c1,rfl,Gp,GH⟩:=FH h1;have HM:=Hi (alO (Bf.CX (Cg HR Aj)) (Bf.CX h1) oJ Gp Ql GH VG);have HB1:=bH HB Aj;clear h1 Aj Gp GH av8;go_wp2_with fail;refine HM.mono ?_;rintro e w2⟨v2,rfl,h2,Ac⟩;have H2:=Hi h2;have Ak:=bH HB1 Ac;clear h2 Ac;go_wp2;go_roundw
   case rel=>exact⟨k+1,by omega,by go_num,by rw[HT.out];exact EA H2 HB1.size,Ak⟩
   case measure=>simp[intOf];omega
  ·obtain rfl:k=rows.length:=(by omega);rw[Da] at Af;have HR:=Hi Af;have HB:=Hi hb;clear Af hb;go_wp2;go_ret;exact⟨_,rfl,EA HR (AV _),HB,fun g hg=>E9 HR hg⟩
theorem anQ{l:M}{k:Nat}(h:CU (l.take k))(h1:1≤k)(hk:k < l.length)(hn:¬ l[k].1 < (l[k -1]'(by omega)).1):CU (l.take (k+1)):=by
 rw[Cx hk];refine List.pairwise_append.2 ⟨h,Sz _ _,fun a ha b hb=>?_⟩;rw[FJ] at hb;subst hb;obtain⟨i,hi,e⟩:=List.mem_take_iff_getElem.1 ha;have hik:i < k:=by omega
 have h2:(l[i]'(by omega)).1≤(l[k -1]'(by omega)).1:=by
  by_cases e1:i=k -1
  ·subst e1;exact List.le_refl _
  ·have:=(List.pairwise_iff_getElem.1 h) i (k -1) (by rw[AZ];omega) (by rw[AZ];omega) (by omega);rwa[List.getElem_take,List.getElem_take] at this
 rw[←e];exact List.le_trans h2 (fO.1 hn)
theorem am4{l:M}{k:Nat}(h1:1≤k)(hk:k < l.length)(hn:l[k].1 < (l[k -1]'(by omega)).1):¬ CU l:=fun h=>
 absurd hn (List.not_lt.2 ((List.pairwise_iff_getElem.1 h) (k -1) k (by omega) hk (by omega)))
theorem amf{w:World}{a:Option Addr}{cap:Nat}{l:M}(h:Bf w a l)(hl:l.length≤1000000):
  Calls prog 237 #[.slice a l.length cap] w fun e w'=>e=.returned (.int .i64 (if CU l then 0 else 2))∧Bw w w':=by
 have HH:=Hi h;clear h
 go_in
 go_wp2
 go_loopw [3] (fun i wr=>∃ k:Nat,1≤k∧(k≤l.length∨k=1)∧i=.int .i64 (k:Int)∧CU (l.take k)∧Bw w wr) (fun i _=>l.length -(intOf i).toNat)
 case atStart=>exact⟨1,Ae _,.inr rfl,rfl,by
  cases l with
  |nil=>exact List.Pairwise.nil
  |cons x l=>exact Sz _ _,Ai _ _⟩
 case round=>
  obtain⟨k,F4,hk,rfl,hs,hb⟩:=hrel;by_cases hlt:k < l.length
  ·obtain⟨p,Cs,hp,-⟩:=HH.index cap k hlt;obtain⟨p',abb,Nh,-⟩:=HH.index cap (k -1) (by omega);have QV:IntKind.i64.wrap ((k:Int) -1)=((k -1:Nat):Int):=(by rw[ET _ (by omega)];omega);have c1:=(hp.upd (ub hb) (fun f=>f)).key;have c2:=(Nh.upd (ub hb) (fun f=>f)).key;have HT:=Hi (fun hn=>anQ hs F4 hlt hn);have HN:=Hi (fun hn=>am4 F4 hlt hn);have HB:=Hi hb;clear hs hb hp Nh;generalize l[k]=x at*;generalize l[k -1]'(by omega)=y at*;by_cases J5:x.1 < y.1
   ·have CP:Op.bytesLess x.1 y.1=true:=(by rw[Go.Proofs.bytesLess_eq];simpa using J5);have xZ:=Hi (HN J5);clear HT HN J5;go_wp2;go_region;go_wp2;go_ret;exact⟨by first|rfl|(rw[Ab xZ.out];rfl),HB.drew⟩
   ·have CP:Op.bytesLess x.1 y.1=false:=(by rw[Go.Proofs.bytesLess_eq];simpa using J5);have Uk:=Hi (HT J5);clear HT HN J5;go_wp2;go_region;go_wp2;go_roundw
    case rel=>exact⟨k+1,by omega,.inl (by omega),by go_num,Uk.out,HB.drew⟩
    case measure=>simp[intOf];omega
  ·have HS:=Hi (show CU l from by
    have:=hs;rwa[Gu (by omega)] at this)
   have HB:=Hi hb;have kR:¬ (k:Int) < (l.length:Int):=(by omega);clear hs hb hlt;go_wp2;go_ret;exact⟨by first|rfl|(rw[Ad HS.out];rfl),HB.out⟩
end Bt
namespace Bt
open Go.RowKit Go.Maps
open Ag Ar Av
theorem Ej.kind{w:World}{b:Nat}{l:List UInt8}{fp:Nat→Prop}(h:Ej w b l fp)(k:Nat)(hk:fp k):Bb w k 210∨Bb w k 5:=by
 obtain⟨p,v,h1,_,h3,_,_,rfl⟩:=h;rcases hk with rfl|hk
 ·exact .inl ⟨_,_,h1⟩
 ·exact .inr (Cn h3 hk)
theorem Ej.ayz{w:World}{b:Nat}{l:List UInt8}{fp:Nat→Prop}(h:Ej w b l fp){g:Nat}{cs:Array Value}{fr:Nat×Nat}(hg:w.heap[g]?=some (.cells cs 9 fr)):¬ fp g:=fun e=>by
 rcases Ej.kind h g e with e|e
 ·exact Bb.ne e ⟨cs,fr,hg⟩ (by decide) rfl
 ·exact Bb.ne e ⟨cs,fr,hg⟩ (by decide) rfl
def Ed(l:M):T×Int:=match FO l with|none=>([],5)|some s=>(s,0)
theorem adA{L:List T}{S:T}(h:BK L=some S)(t:T):BK (L++[t])=(Eg t).map (S++ ·):=by
 rw[ao6,h];simp only[CL,BK];cases Eg t with
 |none=>rfl
 |some x=>simp
theorem adB{L:List T}{t:T}(h:t∈L)(ht:65535 < t.length):BK L=none:=by
 obtain⟨k,hk,rfl⟩:=Sy h;exact vR hk ht
theorem aa1{l:M}{k:Nat}(h:k < l.length):flat (l.take (k+1))=flat (l.take k)++[l[k].1,l[k].2]:=by
 rw[Cx h,aa0];rfl
theorem jv{l:M}{k:Nat}(h:k < l.length){t:T}(ht:t∈[l[k].1,l[k].2]):t∈flat l:=Nv.2 ⟨l[k],CQ h,ht⟩
theorem an7(l:M)(k:Nat):rowLen (flat (l.take k))≤rowLen (flat l):=by
 have:flat (l.take k)=(flat l).take (2*k):=by
  induction l generalizing k with
  |nil=>simp[flat]
  |cons p l ih=>
   cases k with
   |zero=>simp[flat]
   |succ k=>
    rw[List.take_succ_cons,Xx,Xx,ih k,show 2*(k+1)=2*k+1+1 by omega,List.take_succ_cons,List.take_succ_cons]
 rw[this];exact ade _ _
theorem an6(a b:List T):rowLen (a++b)+2=rowLen a+rowLen b:=by
 unfold rowLen;rw[CK,Lg];omega
theorem aBo(A B:List T)(j:Nat):A++B.take j=(A++B).take (A.length+j):=by
 induction A with
 |nil=>simp
 |cons a A ih=>rw[Gt,BG,show A.length+1+j=(A.length+j)+1 by omega,Gt,List.take_succ_cons,ih]
structure EF(w:World)(L:Nat)(T0:List T)(fp:Nat→Prop)(S:T)(wr:World):Prop where
 text:BK T0=some S
 built:Ej wr w.heap.size (A9.le 2 L++S) fp
 low:∀ q,fp q→w.heap.size≤q
 AO:Bw w wr
def aqu(w:World)(L:Nat)(T0:List T)(x:T×T)(g:Nat)(i:Value)(wr:World):Prop:=
 ∃ (j:Nat) (S2:T) (fp':Nat→Prop),j≤2∧i=.int .i64 (j:Int)∧EF w L (T0++[x.1,x.2].take j) fp' S2 wr∧wr.heap[g]?=some (.cells #[.string (bs x.1),.string (bs x.2)] 9)
def aqv(w:World)(l:M)(i:Value)(wr:World):Prop:=∃ (k:Nat) (S:T) (fp:Nat→Prop),k≤l.length∧i=.int .i64 (k:Int)∧EF w l.length (flat (l.take k)) fp S wr
theorem amn{w:World}{a:Option Addr}{cap:Nat}{l:M}(h:Bf w a l)(hs:CU l)(hl:l.length≤1000000)(D7:rowLen (flat l)≤1000000000):
  Calls prog 181 #[.slice a l.length cap] w fun e w'=>e=.returned (.tuple #[.string (bs (Ed l).1),.int .i64 (Ed l).2])∧Bw w w':=by
 by_cases aaR:65535 < l.length
 ·have hR:Hid (Ed l=([],5)):=Hi (by unfold Ed FO;rw[Ab (by omega)]);rw[hR.out];clear h hs
  go_in
  go_wp2;go_ret2;exact⟨rfl,Ai _ _⟩
 ·have HH:=Hi h;have HS:=Hi hs;have VG:=Hi D7;have AR:=Hi ((Ai w.heap.size w).alloc (Ae _) (.cells #[.pointer none,.slice none 0 0] 210));have DV:=Hi (Ej.made w);clear h hs D7
  go_in
  go_wp2_with fail;refine(aJ l.length 2 _ (by omega) (by decide) (by decide)).mono ?_;rintro e w1⟨rfl,hb⟩;have Qj:=Hi (DV.upd (ub hb) (fun _ _ f=>f));have HB1:=Hi (AR.trans (hb.mono (by rw[Ay];omega)));clear hb;go_wp2_with fail;refine(Xq Qj (A9.le 2 l.length) (by simp[A9.C9])).mono ?_;rintro e w2⟨rfl,fp2,h1,h2,h3⟩;rw[Ei] at h1
  have Bh:=Hi (show EF w l.length (flat (l.take 0)) fp2 [] w2 from⟨rfl,by rw[Ea];exact h1,fun q hq=>by
   rcases h3 q hq with h|h
   ·rcases h with h|h
    ·omega
    ·simp[Value.ownBlock] at h
   ·have:=HB1.size;omega,Cy HB1 h2 (fun i hi=>by rcases hi with h|h;omega;simp[Value.ownBlock] at h) HB1.size⟩)
  clear h1 h2 h3 DV Qj AR HB1;go_wp2
  go_loopw [28] (fun i wr=>aqv w l i wr) (fun i _=>l.length -(intOf i).toNat)
  case atStart=>exact⟨0,[],fp2,by omega,rfl,Bh⟩
  case round=>
   clear Bh;obtain⟨k,S,fp,hk,rfl,Bc⟩:=hrel;by_cases hlt:k < l.length
   ·obtain⟨p,Cs,hp,-⟩:=(HH.below Bc.AO).index cap k hlt;have c1:=hp.key;have c2:=hp.val;have Ua:=Hi (fun t ht=>jv (t:=t) hlt ht);have Lm:=Hi (aa1 hlt);have Il:=Hi (an7 l (k+1));rw[Lm.out] at Il;obtain⟨x,hx⟩:=ex (l[k]);rw[hx] at c1 c2 Ua Lm Il;have Bh:=Hi Bc;clear hx hp Bc;go_wp2_with fail;obtain⟨g,hg⟩:=ex (wr.heap.size+1)
    have Ue:=Hi (show ∀ (j:Nat),j < 2→∀ W,(Instr.indexAt 61 (.slice (some ⟨wr.heap.size+1,0,none⟩) 2 2) (.int .i64 (j:Int))).run prog W=.ok (.pointer (some ⟨g,j,none⟩)) W from fun j QN W=>by
     have:=IB prog _ 9 underlying61 1 (by kernel_rfl) ⟨wr.heap.size+1,0,none⟩ 2 2 j QN W;rw[Nat.mul_one,add_plain,hg] at this;rw[hg];exact this)
    have Qr:=Hi hg;clear hg
    go_loopw [38] (fun i wr2=>aqu w l.length (flat (l.take k)) x g i wr2) (fun i _=>2 -(intOf i).toNat)
    case atStart=>
     have Ac:=((Ai wr.heap.size wr).alloc (Ae _) (.cells #[.string (bs x.1),.string (bs x.2)] 51)).alloc (by rw[Ay];omega) (.cells #[.string (bs x.1),.string (bs x.2)] 9);refine⟨0,S,fp,by omega,rfl,⟨by rw[Gg,Ea];exact Bh.text,Bh.built.upd (ub Ac) (fun _ _ f=>f),Bh.low,Bh.AO.trans (Ac.mono Bh.AO.size)⟩,?_⟩;have:=AQ (wr.alloc (.cells #[.string (bs x.1),.string (bs x.2)] 51)) (.cells #[.string (bs x.1),.string (bs x.2)] 9);rw[Ay,Qr.out] at this;exact this
    case round=>
     obtain⟨j,S2,fp',hj,rfl,Bc,dN⟩:=hrel;by_cases QN:j < 2
     ·obtain⟨t,ht⟩:=ex ([x.1,x.2][j]'(by simpa using QN));have Gb:wr.cell? ⟨g,j,none⟩=some (.string (bs t)):=by
       rw[BL _ _ _ _ _ _ dN,←ht]
       match j,QN with
       |0,_=>rfl
       |1,_=>rfl
      have aEh:=Ue j QN;have HTM:=Hi (show t∈[x.1,x.2] from by rw[←ht];exact CQ _);have HTT:=Hi (show[x.1,x.2].take (j+1)=[x.1,x.2].take j++[t] from by rw[Cx (by simpa using QN),ht]);have HLS:=Hi (WO Bc.text);have Ij:=Hi (an6 (flat (l.take k)++[x.1,x.2].take j) [t])
      have X9:=Hi (show rowLen ((flat (l.take k)++[x.1,x.2].take j)++[t])≤1000000000 from by
       have h1:rowLen ((flat (l.take k)++[x.1,x.2].take j)++[t])≤rowLen (flat (l.take k)++[x.1,x.2]):=by
        rw[Dz,←HTT.out];have e:=aBo (flat (l.take k)) [x.1,x.2] (j+1);rw[e];exact ade _ _
       have h2:=Il.out;have h3:=VG.out;omega)
      have HI:=Hi Bc;have Rq:=Hi dN;clear ht Bc dN;by_cases OA:65535 < t.length
      ·have hR:Hid (Ed l=([],5)):=Hi (by unfold Ed FO;rw[Ad (by omega),adB (Ua t HTM) OA];rfl);go_wp2_with fail;refine(acM t _ OA).mono ?_;rintro e w3⟨rfl,rfl⟩;go_wp2;go_ret2;rw[hR.out];exact⟨rfl,HI.AO⟩
      ·have Gq:t.length≤65535:=(by omega);clear OA;go_wp2_with fail;refine(acN t _ Gq).mono ?_;rintro e w3⟨rfl,Ap⟩;have U6:=Hi (HI.built.upd (ub Ap) (fun _ _ f=>f));have Au:=Hi (HI.AO.trans (Ap.mono HI.AO.size));have wZ:=Hi ((Ap.block g (Ao Rq)).trans Rq);clear Ap Gb;go_wp2_with fail
       refine(Xq U6 (A9.le 2 t.length++t) (by
        have h1:=HLS.out;have h2:=Ij.out;have h3:=X9.out;have h4:rowLen [t]=4+t.length:=(by unfold rowLen;simp;omega);simp[A9.C9];omega)).mono ?_
       rintro e w4⟨rfl,PH,h1,h2,h3⟩
       have YY:=Hi (show EF w l.length (flat (l.take k)++[x.1,x.2].take (j+1)) PH (S2++(A9.le 2 t.length++t)) w4 from⟨by rw[HTT.out,←Dz,adA HI.text];unfold Eg;rw[Ad Gq];rfl,by rw[←Dz];exact h1,fun q hq=>by
        rcases h3 q hq with h|h
        ·exact HI.low q h
        ·exact Aw Au.size h,Cy Au h2 HI.low Au.size⟩)
       have ap4:=Hi ((h2.block g (Ao wZ) (Ej.ayz U6 wZ)).trans wZ);clear h1 h2 h3;go_wp2;go_roundw
       case rel=>exact⟨j+1,_,PH,by omega,by go_num,YY,ap4⟩
       case measure=>simp[intOf];omega
     ·obtain rfl:j=2:=(by omega);have HI:=Hi (show EF w l.length (flat (l.take (k+1))) fp' S2 wr from by rw[Lm.out];exact Bc);clear Bc dN;go_wp2;go_roundw
      case rel=>exact⟨k+1,S2,fp',by omega,by go_num,HI⟩
      case measure=>simp[intOf];omega
   ·obtain rfl:k=l.length:=(by omega);rw[Da] at Bc;have Bh:=Hi Bc;have hR:Hid (Ed l=(A9.le 2 l.length++S,0)):=Hi (by unfold Ed FO;rw[Ad (by omega),Bc.text];rfl);have HC:=Hi (amf (cap:=cap) (HH.below Bc.AO) hl);rw[Ad HS.out] at HC;clear Bc;go_wp2_with fail;refine HC.mono ?_;rintro e w3⟨rfl,Ap⟩;have U6:=Hi (Bh.built.upd (ub Ap) (fun _ _ f=>f));have Au:=Hi (Bh.AO.trans (Ap.mono Bh.AO.size));clear Ap;go_wp2_with fail;refine(Xp U6).mono ?_;rintro e w4⟨rfl,hu⟩;have AX:=Hi (Cy Au hu Bh.low Au.size);clear hu;go_wp2;go_ret2;rw[hR.out];exact⟨rfl,AX⟩
