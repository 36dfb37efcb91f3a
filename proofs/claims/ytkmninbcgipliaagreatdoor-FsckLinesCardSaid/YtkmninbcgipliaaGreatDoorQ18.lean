/- FckM ChgIn DepS HvS REnt RPut -/
import Derived.Test.YtkmninbcgipliaaGreatDoorQ17
set_option maxHeartbeats 16000000
set_option maxRecDepth 100000
set_option linter.all false
namespace Go.Proofs.YtkmninbcgipliaaGreatDoor
open Go.Proofs.Tryz hiding t1 t2
open Go.RowKit
namespace Ap
open Go.Maps Go.Sort Go.Shelf Go.Lib
open Aq Af
theorem azK{w:World}{base:Nat}{v:Value}{l:List (List UInt8)}(h:Bq w base v l)(hl:l.length≤1000000):
  Calls prog 70 #[v] w fun e w'=>(∃ x,e=.returned x)∧Bq w' base v (l.mergeSort fun x y=>decide (x≤y))∧A7 (fun k=>v.ownBlock=some k) w w':=by
 rcases h.parts with⟨rfl,rfl⟩|⟨g,cap,rfl,hg,Zl,PD,NP⟩
 ·refine(AnyM.slices_Sort_string_none X7 none 0 _).mono ?_;rintro e w2⟨rfl,rfl⟩;exact⟨⟨_,rfl⟩,by rw[List.mergeSort_nil];exact h,A7.refl _ _⟩
 ·have ho:=h;unfold Bq at ho;rw[LG] at ho;obtain⟨g2,cap2,e2,_,_,_,_,_,hH⟩:=holds_of_ownsRow ho (by simp);cases e2;refine(AnyM.slices_Sort_string X7 g 0 cap l _ hH NP (by omega)).mono ?_;rintro e w2⟨rfl,n,os,rfl⟩;have CZ:(l.mergeSort fun x y=>decide (x≤y)).length=l.length:=by simp
  have Dj:=ownsRow_putRow (q:=n) ho CZ (Ae _);have JI:=BH Dj (ub (below_grow (Ah _ _) (Ae _) os)) (fun _ _ f=>f);rw[I7 (by rw[CZ];omega)] at JI;refine⟨⟨_,rfl⟩,?_,A7.of_grownBy (F:=fun k=>(Value.slice (some ⟨g,0,none⟩) l.length cap).ownBlock=some k) (grownBy_sorted (g:=g) _) (fun i e=>e)⟩;unfold Bq;rw[LG,CZ];exact JI
theorem aqx{w:World}{base:Nat}{v:Value}{S:List (List UInt8)}(h:Bq w base v S)(hl:S.length≤1000000):
  Calls prog 71 #[v] w fun e w'=>∃ v',e=.returned v'∧Bq w' base v' (Lib.compact S)∧A7 (fun k=>v.ownBlock=some k) w w':=by
 rcases h.parts with⟨rfl,rfl⟩|⟨g,cap,rfl,hg,Zl,PD,NP⟩
 ·refine(Any.slices_Compact_string_empty dY none 0 _).mono ?_;rintro e w2⟨rfl,rfl⟩;exact⟨_,rfl,by rw[show Lib.compact ([]:List (List UInt8))=[] by simp[Lib.compact,Lib.compactUpTo]];exact h,A7.refl _ _⟩
 ·have ho:=h;unfold Bq at ho;rw[LG] at ho;obtain⟨g2,cap2,e2,_,_,_,_,_,hH⟩:=holds_of_ownsRow ho (by simp);cases e2;have Uo:=Any.slices_Compact_string dY g 0 cap S w hH (by omega) (by omega);rw[show(sO.f 194)=71 from rfl] at Uo;refine Uo.mono ?_;rintro e w4⟨rfl,q,rfl⟩;have BJ:=compact_length_le S;have Uz:=ownsRow_putRow (q:=q) (k:=(Lib.compact S).length) ho (ys:=Lib.compact S++List.replicate (S.length -(Lib.compact S).length) []) (by simp;omega) BJ;rw[IP rfl] at Uz;have hg4:w.grownBy (Go.Sort.putRow encStr (Sort.ahead w q) g 0 (Lib.compact S++List.replicate (S.length -(Lib.compact S).length) []).toArray) (some g):=by
   have:=grownBy_sorted (w:=w) (g:=g) (n:=q) (os:=#[]) (Lib.compact S++List.replicate (S.length -(Lib.compact S).length) []).toArray;rwa[grow_empty] at this
  refine⟨_,rfl,?_,A7.of_grownBy (F:=fun k=>(Value.slice (some ⟨g,0,none⟩) S.length cap).ownBlock=some k) hg4 (fun i e=>e)⟩;unfold Bq;rw[LG];exact Uz
end Ap
namespace ER
open Go.Maps
open Aq Af Ap Bu Kp BM Hex BD Al Mem Cg IC
theorem azL(l:List T):Go.Lib.compact (l.mergeSort fun x y=>decide (x≤y))=Bc l:=rfl
def MO(l:List (Nat×T×T)):List Am:=(l.filter fun b=>b.1 == 1 || b.1 == 2).map fun b=>⟨b.2.1,[],true⟩
def Iq(l:List (Nat×T×T)):List T:=(l.filter fun b=>b.1 == 3).map fun b=>b.2.1
theorem zL(l:List (Nat×T×T))(b:Nat×T×T):MO (l++[b])=MO l++if b.1=1∨b.1=2 then[⟨b.2.1,[],true⟩] else[]:=by
 unfold MO;rw[LJ,D6]
 congr 1
 by_cases h:b.1=1∨b.1=2
 ·rw[Ac h];rcases h with h|h<;>simp[h]
 ·rw[Aa h];simp only[not_or] at h;simp[h.1,h.2]
theorem acF(l:List (Nat×T×T))(b:Nat×T×T):Iq (l++[b])=Iq l++if b.1=3 then[b.2.1] else[]:=by
 unfold Iq;rw[LJ,D6]
 congr 1
 by_cases h:b.1=3
 ·rw[Ac h];simp[h]
 ·rw[Aa h];simp[h]
theorem agW(l:List (Nat×T×T)):(MO l).length≤l.length:=by unfold MO;rw[Ca];exact LK _ _
theorem azd(l:List (Nat×T×T)):(Iq l).length≤l.length:=by unfold Iq;rw[Ca];exact LK _ _
theorem X5{α:Type}(l:List α)(f:α→Nat×T×T)(p:Nat×T×T→Bool)(c:Bool)(h:∀ x,p (f x)=c):(l.map f).filter p=if c=true then l.map f else[]:=by
 cases c with
 |true=>
  rw[Ac rfl];refine List.filter_eq_self.2 fun b hb=>?_
  obtain⟨x,_,rfl⟩:=BA.1 hb;exact h x
 |false=>
  rw[Aa (by decide)];refine List.filter_eq_nil_iff.2 fun b hb=>?_
  obtain⟨x,_,rfl⟩:=BA.1 hb;rw[h x];decide
theorem asU(A:M):MO (MM both A)=GQ both A:=by
 unfold MO MM GQ Ui;rw[LJ,LJ,LJ,X5 _ _ _ true (fun _=>rfl),X5 _ _ _ true (fun _=>rfl),X5 _ _ _ false (fun _=>rfl),X5 _ _ _ false (fun _=>rfl)];simp[Ko,Function.comp_def]
theorem amy(A:M):Iq (MM both A)=(Nj both A).map (·.1):=by
 unfold Iq MM;rw[LJ,LJ,LJ,X5 _ _ _ false (fun _=>rfl),X5 _ _ _ false (fun _=>rfl),X5 _ _ _ true (fun _=>rfl),X5 _ _ _ false (fun _=>rfl)];simp[Ko,Function.comp_def]
structure Oi(w:World)(L:List (Nat×T×T))(q:Option Addr)(c k n1 n2:Nat)(q1 q2:Option Addr)(c1 c2:Nat)(wr:World):Prop where
 g:wr.ownsRow w.heap.size 57 3 (.slice q1 n1 c1) n1 (Li (MO (L.take k)))
 r:wr.ownsRow w.heap.size 9 1 (.slice q2 n2 c2) n2 (strCells (Iq (L.take k)))
 b:Bw w wr
 l:LQ wr w.heap.size (.slice q L.length c) L
 e1:n1=(MO (L.take k)).length
 e2:n2=(Iq (L.take k)).length
def aps(w:World)(L:List (Nat×T×T))(q:Option Addr)(c:Nat)(s1 s2 i:Value)(wr:World):Prop:=
 ∃ (k n1 n2:Nat) (q1 q2:Option Addr) (c1 c2:Nat),k≤L.length∧i=.int .i64 (k:Int)∧s1=.slice q1 n1 c1∧s2=.slice q2 n2 c2∧Oi w L q c k n1 n2 q1 q2 c1 c2 wr
theorem eY{W W2:World}{b1 b2:Nat}{t1 t2:TypeId}{s1 s2 n1 n2:Nat}{v1 v2:Value}{cs1 cs2:List Value}(h:W.ownsRow b1 t1 s1 v1 n1 cs1)(ho:W.ownsRow b2 t2 s2 v2 n2 cs2)(hu:A7 (fun k=>v2.ownBlock=some k) W W2)(ht:t1≠t2):W2.ownsRow b1 t1 s1 v1 n1 cs1:=
 BH h hu (fun g hg f=>by
  obtain⟨x1,f1,e1⟩:=CB h hg;obtain⟨x2,f2,e2⟩:=CB ho f;rw[e1] at e2;injection e2 with e2
  injection e2 with _ e2
  exact ht e2)
section
variable {w wr W2 w1:World}{L:List (Nat×T×T)}{q q1 q2:Option Addr}{c k n1 n2 c1 c2:Nat}
theorem Oi.below(h:Oi w L q c k n1 n2 q1 q2 c1 c2 wr)(hb:Bw wr W2):Oi w L q c k n1 n2 q1 q2 c1 c2 W2:=
 ⟨Ch h.g hb,Ch h.r hb,h.b.trans (hb.mono h.b.size),Ch h.l hb,h.e1,h.e2⟩
theorem Oi.none(h:Oi w L q c k n1 n2 q1 q2 c1 c2 wr)(hk:k < L.length)(h1:¬ (L[k].1=1∨L[k].1=2))(h2:¬ L[k].1=3):Oi w L q c (k+1) n1 n2 q1 q2 c1 c2 wr:=by
 have e1:MO (L.take (k+1))=MO (L.take k):=by rw[CQ hk,zL,Aa h1,En]
 have e2:Iq (L.take (k+1))=Iq (L.take k):=by rw[CQ hk,acF,Aa h2,En]
 exact⟨by rw[e1];exact h.g,by rw[e2];exact h.r,h.b,h.l,by rw[e1];exact h.e1,by rw[e2];exact h.e2⟩
theorem Oi.gone(h:Oi w L q c k n1 n2 q1 q2 c1 c2 wr)(hk:k < L.length)(h1:L[k].1=1∨L[k].1=2){q':Option Addr}{c':Nat}(hg:wr.grownBy w1 (Value.slice q1 n1 c1).ownBlock)
  (ho:w1.ownsRow w.heap.size 57 3 (.slice q' (n1+1) c') (n1+1) (Li (MO (L.take k))++[.string (bs L[k].2.1),.string { data:=#[] },.bool true])):Oi w L q c (k+1) (n1+1) n2 q' q2 c' c2 w1:=by
 have e1:MO (L.take (k+1))=MO (L.take k)++[⟨L[k].2.1,[],true⟩]:=by rw[CQ hk,zL,Ac h1]
 have e2:Iq (L.take (k+1))=Iq (L.take k):=by rw[CQ hk,acF,Aa (by omega),En]
 have hu:=A7.of_grownBy (F:=fun k=>(Value.slice q1 n1 c1).ownBlock=some k) hg (fun k e=>e);exact⟨by rw[e1,ou];exact ho,by rw[e2];exact eY h.r h.g hu (by decide),h.b.grown hg h.b.size (fun j hj=>Ec h.g hj),eY h.l h.g hu (by decide),by rw[e1,Az,←h.e1];rfl,by rw[e2];exact h.e2⟩
theorem Oi.run(h:Oi w L q c k n1 n2 q1 q2 c1 c2 wr)(hk:k < L.length)(h1:L[k].1=3){q':Option Addr}{c':Nat}(hg:wr.grownBy w1 (Value.slice q2 n2 c2).ownBlock)
  (ho:w1.ownsRow w.heap.size 9 1 (.slice q' (n2+1) c') (n2+1) (strCells (Iq (L.take k))++[.string (bs L[k].2.1)])):Oi w L q c (k+1) n1 (n2+1) q1 q' c1 c' w1:=by
 have e1:MO (L.take (k+1))=MO (L.take k):=by rw[CQ hk,zL,Aa (by omega),En]
 have e2:Iq (L.take (k+1))=Iq (L.take k)++[L[k].2.1]:=by rw[CQ hk,acF,Ac h1]
 have hu:=A7.of_grownBy (F:=fun k=>(Value.slice q2 n2 c2).ownBlock=some k) hg (fun k e=>e);exact⟨by rw[e1];exact eY h.g h.r hu (by decide),by rw[e2,show ∀ a b,strCells (a++b)=strCells a++strCells b from fun a b=>by unfold strCells;rw[D6],show strCells [L[k].2.1]=[.string (bs L[k].2.1)] by unfold strCells;rfl];exact ho,h.b.grown hg h.b.size (fun j hj=>Ec h.r hj),eY h.l h.r hu (by decide),by rw[e1];exact h.e1,by rw[e2,Az,←h.e2];rfl⟩
theorem Oi.len(h:Oi w L q c k n1 n2 q1 q2 c1 c2 wr):n1≤L.length∧n2≤L.length:=by
 have h1:=agW (L.take k);have h2:=azd (L.take k);have h3:=List.length_take_le k L;have:=h.e1;have:=h.e2;have h4:(L.take k).length≤L.length:=by rw[Be];omega
 omega
end
section
variable {fz:Bool}{w:World}{b y n N pm pd:Nat}{bl:Nat→Prop}{A:M}
def sP(k:Nat)(c:Int):Int:=if c=0 then(k:Int) else 0
theorem ed(k:Nat):sP k 0=(k:Int):=Ac rfl
theorem dZ(k:Nat):sP k 40=0:=Aa (by decide)
def xU(fz:Bool)(w:World)(b y n N:Nat)(bl:Nat→Prop)(A:M)(c:Int)(V:World):Prop:=
 A7 (Ig w bl) w V∧∃ CP:Nat→Prop,((c=0∧FZ fz V b y CP n (N+2) (OM both A))∨(fz=true∧c=40∧(fO V b y CP n (N+2) A (Ki both A)∨fO V b y CP n (N+2) (Ki both A) (OM both A))))∧∀ k,CP k→bl k∨w.heap.size≤k
def aW(fz:Bool)(w:World)(b y n N:Nat)(bl:Nat→Prop)(A:M)(V:World):Prop:=
 A7 (Ig w bl) w V∧∃ CP:Nat→Prop,FZ fz V b y CP n (N+1) (Ki both A)∧∀ k,CP k→bl k∨w.heap.size≤k
theorem aW.use{V:World}(h:aW fz w b y n N bl A V)(hd:Fx w pd y):Fx V pd y:=hd.upd h.1 (fun f=>f.not ⟨_,_,hd⟩ (by decide))
theorem asW(hu:Up A):F8 (GQ both A)≤used A:=by
 refine adn hu ?_ fun c hc=>?_
 ·unfold GQ;rw[Ko];exact(show((Ui both A).map fun x=>x).Nodup by rw[List.map_id'];exact agV NA hu)
 ·unfold GQ at hc;obtain⟨x,hx,rfl⟩:=BA.1 hc;obtain⟨d,hd⟩:=zK hu hx;exact⟨d,hd,AZ _⟩
theorem asV(A:M):(GQ both A).length≤2*A.length:=by
 unfold GQ Ui;rw[Ca,Az];have h1:=bg both.m A;have h2:=bg both.d A;omega
theorem awT{q:Option Addr}{cap:Nat}{W:World}(h:FZ fz w b y bl n N A)(hN:N+2 < 1000000000)(hu:used A≤100000)(hW:Bw w W)(hc:Ew W q (GQ both A)):
  Calls prog 17 #[.pointer (some ⟨y,0,none⟩),.slice q (GQ both A).length cap] W fun e w'=>∃ c:Int,e=.returned (.int .i64 c)∧((c=0∧aW fz w b y n N bl A w')∨(c=40∧xU fz w b y n N bl A 40 w'))∧A7 (Ig W bl) W w':=by
 obtain⟨u1,u2,u3,-,-⟩:=h.up;have Mf:BM.May n A:=⟨u1,u2,u3⟩;obtain⟨g1,g2,g3,g4⟩:=zM NA Mf;have hl:=asV A;have Hz:=QV A;refine(zx (h.below hW) (by omega) hc (by omega) (by have:=asW u1;omega)).mono ?_;rintro e w'⟨c,rfl,CP,h1,h2,h3⟩;rw[g1,g2] at h1;have DY:A7 (Ig w bl) w w':=akW hW h2;have Ct:∀ k,CP k→bl k∨w.heap.size≤k:=fun k hk=>(h3 k hk).imp id (fun e=>Ay hW.size e)
 rcases h1 with⟨e1,e2⟩|⟨e1,e2,_,e4⟩
 ·exact⟨c,rfl,.inl ⟨e1,DY,CP,e2,Ct⟩,h2⟩
 ·exact⟨c,rfl,.inr ⟨e2,DY,CP,.inr ⟨e1,rfl,.inl (arC e4 (by omega))⟩,Ct⟩,h2⟩
theorem tH:∀ (S l:List T),S.Nodup→(∀ x∈S,x∈l)→S.length≤l.length
 |[],l,_,_=>AZ _
 |x :: S,l,hn,hs=>by
  obtain⟨a,b,e⟩:=List.append_of_mem (hs x Hg);have hx:=(Ju.1 hn).1
  have ih:=tH S (a++b) (Ju.1 hn).2 (fun y hy=>by
   have h1:=hs y (GI _ hy);rw[e] at h1;rcases EG.1 h1 with h|h
   ·exact List.mem_append_left _ h
   ·rcases BZ.1 h with h|h
    ·subst h;exact absurd hy hx
    ·exact List.mem_append_right _ h)
  rw[e];simp only[BN,Az] at ih ⊢;omega
theorem awU{q:Option Addr}{cap:Nat}{W:World}(h:FZ fz w b y bl n N A)(hN:N+2 < 1000000000)(hu:used A≤100000)(hd:Fx w pd y)(hW:aW fz w b y n N bl A W)(hk:Dv W q (LD both A)):
  Calls prog 73 #[.pointer (some ⟨pd,0,none⟩),.slice q (LD both A).length cap] W fun e w'=>∃ c:Int,e=.returned (.int .i64 c)∧(c=0∨c=40)∧xU fz w b y n N bl A c w':=by
 obtain⟨u1,u2,u3,-,-⟩:=h.up;have Mf:BM.May n A:=⟨u1,u2,u3⟩;have FE:=(zM NA Mf).2.2.1;have Ot:=hW.use hd;obtain⟨k1,bl1,k2,k3⟩:=hW;have Ry:(LD both A).length≤100000:=by
  have h1:(LD both A).length≤(Cm Ab A).length:=tH _ _ (Wm _) (fun r hr=>by
   unfold LD at hr;rw[Eg] at hr;obtain⟨p,hp,rfl⟩:=BA.1 hr;exact((sQ p.1 p.2).1 hp).1)
  have h2:(X0 both A).length=(EN Ab A).length:=sD (K:=Ab) u1;have h2':(Cm Ab A).length=(EN Ab A).length:=h2;have h3:=oM (EN Ab A);have h4:=zi Ab A;have h5:(A.map cost).sum≤100000:=by unfold used at hu;omega
  omega
 refine(as4 k2 (by omega) (Ay FE hu) Ot hk Ry (uA NA u1)).mono ?_;rintro e w'⟨c,rfl,CP,h1,h2,h3⟩;have DY:A7 (Ig w bl) w w':=akY k1 h2 (fun k hk=>k3 k hk);have Ct:∀ k,CP k→bl k∨w.heap.size≤k:=fun k hk=>(h3 k hk).elim (k3 k) (fun e=>.inr (Ay k1.size e))
 rcases h1 with⟨e1,e2⟩|⟨e1,e2,_,e4⟩
 ·exact⟨c,rfl,.inl e1,DY,CP,.inl ⟨e1,e2⟩,Ct⟩
 ·exact⟨c,rfl,.inr e2,DY,CP,.inr ⟨e1,e2,.inr e4⟩,Ct⟩
theorem awX(hm:GN w pm y):Calls prog 72 #[.pointer (some ⟨pm,0,none⟩)] w fun e w'=>e=.returned (.pointer (some ⟨y,0,none⟩))∧w=w':=by
 have c0:=hm.cell;clear hm
 go_in
 go_wp2;go_ret;exact⟨rfl,rfl⟩
theorem as5(h:FZ fz w b y bl n N A)(hN:N+2 < 1000000000)(hu:used A≤100000)(hm:GN w pm y)(hd:Fx w pd y):
  Calls prog 20 #[.pointer (some ⟨pm,0,none⟩),.pointer (some ⟨pd,0,none⟩)] w fun e w'=>∃ c:Int,e=.returned (.tuple #[.int .i64 (sP (GQ both A).length c),.int .i64 (sP (LD both A).length c),.int .i64 c])∧(c=0∨c=40)∧xU fz w b y n N bl A c w':=by
 obtain⟨i0,Bg,AX,AY,Ba⟩:=DI ow;obtain⟨j0,hj0,su,N7,kJ⟩:=DI RX;have FK:=Hi (ac4 hm hd (oW h) (oU hu));have Ct:=afh (oW h) (oU hu);have wG:=Hi (asU A);have HRP:=Hi (amy A);have MB:=Hi (show GQ both A=[]→Ki both A=A from fun e=>by unfold Ki;rw[e];rfl);have Qa:=Hi (fun(W:World) (q:Option Addr) (cap:Nat) (hW:Bw w W) (hc:Ew W q (GQ both A))=>awT (cap:=cap) h hN hu hW hc);have gD:=Hi (fun(W:World) (q:Option Addr) (cap:Nat) (hW:aW fz w b y n N bl A W) (hk:Dv W q (LD both A))=>awU (cap:=cap) h hN hu hd hW hk);have HMI:=Hi (fun(W:World) (hW:Bw w W) (e:GQ both A=[])=>show aW fz w b y n N bl A W from⟨A7.of_below hW,bl,by rw[MB e];exact(h.below hW).more (Nat.le_succ _),fun k hk=>.inl hk⟩);have HF:=Hi (fun(W:World) (hW:Bw w W)=>awX (hm.below hW));have U6:=Hi (show(Iq (MM both A)).length≤1000000 from by rw[amy,Ca];exact anJ (oW h).up (oU hu));have wF:=Hi (show(GQ both A).length≤4000000 from by rw[←wG.out];exact Ay (agW _) Ct);clear h hm hd hu;obtain⟨L,hL⟩:=ex (MM both A);rw[hL] at FK wG HRP U6 Ct;clear hL;generalize GQ both A=G at*
 go_in
 go_wp2_with fail;refine FK.mono ?_;rintro e w1⟨v,rfl,Ag,Ai⟩;obtain⟨q,c,rfl⟩:=Bp Ag;have FD:=Hi Ag;have HB1:=Hi Ai;clear Ag Ai FK;go_wp2
 go_loopw [8,9,25] (fun s1 s2 i wr=>aps w L q c s1 s2 i wr) (fun _ _ i _=>L.length -(intOf i).toNat)
 case atStart=>exact⟨0,0,0,none,none,0,0,AZ _,rfl,rfl,rfl,⟨by rw[I8,show MO []=[] from rfl,oo];exact E5 _ _ _ _,by rw[I8,show Iq []=[] from rfl,QT];exact E5 _ _ _ _,HB1,FD,rfl,rfl⟩⟩
 case round=>
  obtain⟨k,n1,n2,q1,q2,c1,c2,hk,rfl,rfl,rfl,hat⟩:=hrel;have IQ:=Hi hat;obtain⟨Et,Gm⟩:=hat.len;by_cases hlt:k < L.length
  ·obtain⟨a,Cx,C8,-⟩:=(L6.D9 hat.l).index c k hlt;obtain⟨d0,d1,d2⟩:=C8.cells;have DJ:=Hi (fun(V:World) (hV:Bw wr V) h1 h2=>(hat.below hV).none hlt h1 h2);have HGO:=Hi (fun(V w1:World) (q':Option Addr) (c':Nat) (hV:Bw wr V) h1 hg ho=>(hat.below hV).gone (w1:=w1) (q':=q') (c':=c') hlt h1 hg ho);have aO:=Hi (fun(V w1:World) (q':Option Addr) (c':Nat) (hV:Bw wr V) h1 hg ho=>(hat.below hV).run (w1:=w1) (q':=q') (c':=c') hlt h1 hg ho);generalize L[k]=br at*;obtain⟨kd,who,key⟩:=br;dsimp only at*;have Jj:=AV wr (.cells #[.int .u8 (kd:Int),.string (bs who),.string (bs key)] 23);have mI:=Hi (hat.below Jj);have EK:=Hi Jj;have Dz:=Hi (Ar wr (.cells #[.int .u8 (kd:Int),.string (bs who),.string (bs key)] 23));clear hat C8 Jj;by_cases hA:kd=1∨kd=2
   ·have HAA:=Hi hA;by_cases h1:kd=1
    case' pos=>have EX:((kd:Int) == 1)=true:=beq_iff_eq.2 (by omega)
    case' neg=>
     have EX:((kd:Int) == 1)=false:=EH.2 (by omega);have K9:((kd:Int) == 2)=true:=beq_iff_eq.2 (by omega)
    all_goals
     clear hA h1;go_wp2_with (at_builtin;refine wpList_append_own_at _ rfl _ _ 32 rfl w.heap.size 57 i0 _ 3 40 underlying32 Bg AX AY Ba rfl (by decide) _ n1 _ rfl (mI.g.alloc _) ⟨wr.heap.size+1,0,none⟩ 1 1 [.string (bs who),.string { data:=#[] },.bool true] rfl rfl (by intro j u hj;rw[add_plain,←Dz.out,E8];exact(Dx▸hj)) (by simp[Value.oneCell']) (by unfold maxLen;omega) (by omega) (by have:=mI.b.size;rw[Ar];omega) ?_;intro v' w5 hown AJ _ _;obtain⟨g',cap',rfl⟩:=ownsRow_succ hown;have Cz:=Hi (HGO _ w5 (some ⟨g',0,none⟩) cap' (EK.trans ((AV _ _).mono EK.size)) HAA AJ hown);clear hown AJ);go_roundw
     case rel=>exact⟨k+1,n1+1,n2,_,_,_,_,by omega,by go_num,rfl,rfl,Cz⟩
     case measure=>
      show L.length -((k:Int)+1).toNat < L.length -((k:Int)).toNat
      omega
   ·have HAA:=Hi hA;have EX:((kd:Int) == 1)=false:=EH.2 (by omega);have K9:((kd:Int) == 2)=false:=EH.2 (by omega);by_cases h3:kd=3
    ·have Xy:((kd:Int) == 3)=true:=beq_iff_eq.2 (by omega);have H3:=Hi h3;clear hA h3;go_wp2_with (at_builtin;refine wpList_append_own_at _ rfl _ _ 61 rfl w.heap.size 9 j0 _ 1 16 underlying61 hj0 su N7 kJ rfl (by decide) _ n2 _ rfl (mI.r.alloc _) ⟨wr.heap.size+1,0,none⟩ 1 1 [.string (bs who)] rfl rfl (by intro j u hj;rw[add_plain,←Dz.out,E8];exact(Dx▸hj)) (by simp[Value.oneCell']) (by unfold maxLen;omega) (by omega) (by have:=mI.b.size;rw[Ar];omega) ?_;intro v' w5 hown AJ _ _;obtain⟨g',cap',rfl⟩:=ownsRow_succ hown;have Cz:=Hi (aO _ w5 (some ⟨g',0,none⟩) cap' (EK.trans ((AV _ _).mono EK.size)) H3 AJ hown);clear hown AJ);go_roundw
     case rel=>exact⟨k+1,n1,n2+1,_,_,_,_,by omega,by go_num,rfl,rfl,Cz⟩
     case measure=>
      show L.length -((k:Int)+1).toNat < L.length -((k:Int)).toNat
      omega
    ·have Xy:((kd:Int) == 3)=false:=EH.2 (by omega);have Cz:=Hi (DJ _ EK hA h3);clear hA h3;go_wp2;go_roundw
     case rel=>exact⟨k+1,n1,n2,_,_,_,_,by omega,by go_num,rfl,rfl,Cz⟩
     case measure=>
      show L.length -((k:Int)+1).toNat < L.length -((k:Int)).toNat
      omega
  ·obtain rfl:k=L.length:=(by omega);have hg:=hat.g;have hr:=hat.r;have he1:=hat.e1;have he2:=hat.e2;rw[Dq] at hg hr he1 he2;rw[wG.out] at hg he1;subst he1 he2;have HB:=Hi hat.b;have HG:=Hi hg;have DT:=Hi (show Ap.Bq wr w.heap.size (.slice q2 (Iq L).length c2) (Iq L) from hr);have Qh:=Hi (azK DT U6);have HWE:=Hi (show Bc (Iq L)=LD both A from by unfold LD;rw[HRP.out]);have FN:((Iq L).mergeSort fun x y=>decide (x≤y)).length=(Iq L).length:=(by simp);have Od:=Hi (azL (Iq L));obtain⟨S,hS⟩:∃ S,((Iq L).mergeSort fun x y=>decide (x≤y))=S:=⟨_,rfl⟩;rw[hS] at Qh Od FN;have Nt:=Hi FN;obtain⟨rn,VO⟩:=ex ((Iq L).length);have apl:=Hi (show S.length≤1000000 from by rw[FN];exact U6.out);rw[VO] at Qh DT;simp only[VO];clear hg hr hat IQ hS FN VO Et Gm;go_wp2_with fail;refine Qh.mono ?_;rintro e w3⟨⟨x3,rfl⟩,QF,Dk⟩;have AA:=Hi (Cq HB Dk (fun k e=>Ec DT e) HB.size);have GL:=Hi (eY HG DT Dk (by decide));have aA:=Hi (aqx QF apl);rw[Od.out,HWE.out] at aA;have MG:=Hi QF;clear QF Dk Qh;go_wp2_with fail;refine aA.mono ?_;rintro e w4⟨v4,rfl,Hy,OG⟩;obtain⟨q4,c4,rfl⟩:=Bp Hy;have AU:=Hi (Cq AA OG (fun k e=>Ec MG e) AA.size);have Iz:=Hi (eY GL MG OG (by decide));have Le:=Hi Hy;clear Hy OG aA;by_cases OC:G=[]
   ·have Gl:¬ (0:Int) < (G.length:Int):=(by rw[OC];simp);have HD:=Hi (gD w4 q4 c4 (HMI w4 AU OC) (I6 Le));clear OC;go_wp2_with fail;refine HD.mono ?_;rintro e w6⟨cd,rfl,RF,hend⟩;have HE:=Hi hend;clear hend;rcases RF with rfl|rfl
    ·go_wp2;go_ret3;exact⟨0,by rw[ed,ed];rfl,.inl rfl,HE.out⟩
    ·go_wp2;go_ret3;exact⟨40,by rw[dZ,dZ];rfl,.inr rfl,HE.out⟩
   ·have Gl:(0:Int) < (G.length:Int):=(by have:=List.length_pos_iff.2 OC;omega);clear OC;go_wp2_with fail;refine(HF w4 AU).mono ?_;rintro e w5⟨rfl,rfl⟩;have HC:=Hi (Qa w4 q1 c1 AU (Ew.D9 Iz));go_wp2_with fail;refine HC.mono ?_;rintro e w5⟨cc,rfl,RF,Lx⟩;have M3:=Hi (BH Le Lx (fun k hk f=>f.not (CB Le hk) (by decide)));clear Lx;rcases RF with⟨rfl,aiU⟩|⟨rfl,hend⟩
    ·have HD:=Hi (gD w5 q4 c4 aiU (I6 M3));clear aiU;go_wp2_with fail;refine HD.mono ?_;rintro e w6⟨cd,rfl,RF,hend⟩;have HE:=Hi hend;clear hend;rcases RF with rfl|rfl
     ·go_wp2;go_ret3;exact⟨0,by rw[ed,ed];rfl,.inl rfl,HE.out⟩
     ·go_wp2;go_ret3;exact⟨40,by rw[dZ,dZ];rfl,.inr rfl,HE.out⟩
    ·have HE:=Hi hend;clear hend;go_wp2;go_ret3;exact⟨40,by rw[dZ,dZ];rfl,.inr rfl,HE.out⟩
end
end ER
section
open Go.WideShapes Go.ChangeShapes Go.Deep
open Af
end
section
open Go.Maps
open Af
end
namespace Ap
open Go.Maps Go.Sort Go.Shelf Go.Lib
open Aq Af
theorem iQ(w:World)(p:Option Addr)(n c:Nat):(binOp .eql 61 (.slice p n c) (.slice none 0 0)).run prog w=.ok (.bool p.isNone) w:=by
 have h:∀ d,(Op.equalIn (d+1) 61 (.slice p n c) (.slice none 0 0)).run prog w=.ok p.isNone w:=fun d=>by
  cases p<;>simp[Op.equalIn,GK underlying61]
 simp only[binOp];simp[show Op.equal 61 (.slice p n c) (.slice none 0 0)=Op.equalIn (9999+1) 61 (.slice p n c) (.slice none 0 0) from rfl,h 9999]
theorem zg(w:World):(w.alloc (.cells #[] 9)).ownsRow w.heap.size 9 1 (.slice (some ⟨w.heap.size,0,none⟩) 0 0) 0 []:=
 ⟨by rfl,.inr ⟨w.heap.size,0,#[],rfl,Ae _,AP w _,Ae _,AZ _,rfl,by rfl⟩⟩
theorem aAg{w:World}{q:Option Addr}{cap:Nat}{l:List T}(h:Dv w q l)(hq:q=none→cap=0)(hl:l.length≤1000000):
  Calls prog 149 #[.slice q l.length cap] w fun e w'=>∃ v',e=.returned v'∧Bq w' w.heap.size v' l∧(v'=.slice none 0 0→l=[])∧Bw w w':=by
 obtain⟨i0,Bg,AX,AY,Ba⟩:=DI RX;cases q with
 |none=>
  obtain rfl:cap=0:=hq rfl;have Me:l=[]:=by
   cases l with
   |nil=>rfl
   |cons x l=>obtain⟨p,e,_⟩:=h 0 (by simp);cases e
  subst Me;have hqe:=fun w=>iQ w none 0 0
  clear h
  go_in
  go_wp2;go_ret;exact⟨_,rfl,by unfold Bq;rw[LG];exact E5 _ _ _ _,by first|exact⟨fun _=>rfl,Ah _ _⟩|exact Ah _ _⟩
 |some p=>
  have HH:=Hi (h.below (AV w (.cells #[] 9)));have hqe:=fun w=>iQ w (some p) l.length cap
  clear h hq
  go_in
  go_wp2_with (at_builtin;refine wpList_append_own_at _ rfl _ _ 61 rfl w.heap.size 9 i0 _ 1 16 underlying61 Bg AX AY Ba rfl (by decide) _ 0 [] rfl (zg w) p l.length cap (strCells l) rfl (by rw[strCells_length,Nat.mul_one]) (fun j u hj=>by
   have K8:j < l.length:=by
    have:=(TK.1 hj).1;rwa[strCells_length] at this
   rw[Y8 l j K8] at hj;obtain⟨p2,hp,hc⟩:=HH j K8;cases hp;rw[hc,←hj]) (acQ _) (by unfold maxLen;omega) (by omega) (by rw[Ar];omega) ?_;intro v' w1 hown AJ hne hat)
  go_ret;refine⟨v',rfl,by unfold Bq;rw[GJ,Ev] at hown;exact hown,fun e=>?_,(AV w _).grown AJ (by rw[Ar];omega) (fun k e=>?_)⟩
  ·rw[GJ] at hown;rcases hown.2 with⟨e1,e2⟩|⟨g,c2,cur,e1,_⟩
   ·exact JW.1 e2
   ·rw[e] at e1;injection e1 with e1;cases e1
  ·have e':some w.heap.size=some k:=e;have:=Gu e';omega
theorem ar2{w:World}{q0:Option Addr}{c0:Nat}{l:List (List UInt8)}(h:Dv w q0 l)(hq0:q0=none→c0=0)(hl:l.length≤1000000):
  Calls prog 106 #[.slice q0 l.length c0] w fun e w'=>∃ v',e=.returned v'∧Bq w' w.heap.size v' (Bc l)∧Bw w w':=by
 have HC:=Hi (aAg h hq0 hl);clear h hq0
 go_in
 go_wp2_with fail;refine HC.mono ?_;rintro e w1⟨v1,rfl,DL,Et,Ai⟩;rcases DL.parts with⟨rfl,rfl⟩|⟨g,cap,rfl,hg,Zl,PD,NP⟩
 ·have HB1:=Hi Ai;clear DL Et Ai;go_wp2_with fail;refine(AnyM.slices_Sort_string_none X7 none 0 _).mono ?_;rintro e w2⟨rfl,rfl⟩;go_wp2_with fail;refine(Any.slices_Compact_string_empty dY none 0 _).mono ?_;rintro e w3⟨rfl,rfl⟩;go_wp2;go_ret;exact⟨_,rfl,by unfold Bq;rw[show Bc []=[] by simp[Bc,Lib.compact,Lib.compactUpTo],LG];exact E5 _ _ _ _,HB1⟩
 ·have Ti:=DL;unfold Bq at Ti;rw[LG] at Ti;obtain⟨g2,cap2,e2,_,_,_,_,_,hH⟩:=holds_of_ownsRow Ti (by simp);cases e2;have CW:=Hi Ti;have HB1:=Hi Ai;have HH:=Hi hH;clear DL Ti Et Ai hH;go_wp2_with fail;refine(AnyM.slices_Sort_string X7 g 0 cap l _ HH NP (by omega)).mono ?_;rintro e w2⟨rfl,n,os,rfl⟩;have CZ:(l.mergeSort fun x y=>decide (x≤y)).length=l.length:=by simp
  have Dj:=ownsRow_putRow (q:=n) CW CZ (Ae _);have Ad:=below_putRow (q:=n) (enc:=encStr) (d:=(l.mergeSort fun x y=>decide (x≤y)).toArray) HB1 hg;have JI:=BH Dj (ub (below_grow (Ah _ _) (Ae _) os)) (fun _ _ f=>f);have Aw:=below_grow Ad Ad.size os;clear Dj Ad;rw[I7 (by rw[CZ];omega)] at JI;obtain⟨S,NI⟩:∃ S,(l.mergeSort fun x y=>decide (x≤y))=S:=⟨_,rfl⟩;have hR:Hid (Bc l=Lib.compact S):=Hi (by unfold Bc;rw[NI]);rw[NI] at JI Aw CZ ⊢;generalize Go.Sort.grow (Go.Sort.putRow encStr (Sort.ahead w1 n) g 0 S.toArray) os=w3 at*;obtain⟨g3,og,e3,_,_,_,_,_,YW⟩:=holds_of_ownsRow JI (by simp);cases e3;have Uo:=Any.slices_Compact_string dY g 0 cap S w3 YW (by omega) (by omega);rw[←CZ] at JI;rw[show(sO.f 194)=71 from rfl,CZ] at Uo;have vV:=Hi Uo;have Ob:=Hi JI;have AA:=Hi Aw;have HH3:=Hi YW;clear JI Aw YW Uo;go_wp2_with fail;refine vV.mono ?_;rintro e w4⟨rfl,q,rfl⟩;rw[←CZ];have BJ:=compact_length_le S;have Uz:=ownsRow_putRow (q:=q) (k:=(Lib.compact S).length) Ob (ys:=Lib.compact S++List.replicate (S.length -(Lib.compact S).length) []) (by simp;omega) BJ;have AB:=below_putRow (q:=q) (enc:=encStr) (d:=(Lib.compact S++List.replicate (S.length -(Lib.compact S).length) []).toArray) AA hg;rw[IP rfl] at Uz;generalize Go.Sort.putRow encStr (Sort.ahead w3 q) g 0 (Lib.compact S++List.replicate (S.length -(Lib.compact S).length) []).toArray=w4 at*;have wW:=Hi Uz;have AU:=Hi AB;clear Uz AB;go_wp2;go_ret;refine⟨_,rfl,?_,AU⟩;unfold Bq;rw[hR.out,LG];exact wW.out
end Ap
section
open Go.Maps Aq
theorem acX:∀ {l:List (List UInt8)} {S:List UInt8},BB l=some S→S.length≤l.length*65537
 |[],S,h=>by
  simp only[BB,Ci] at h;subst h;exact Ae _
 |x :: l,S,h=>by
  simp only[BB] at h;cases h1:Em x with
  |none=>rw[h1] at h;cases h
  |some y=>
   cases h4:BB l with
   |none=>rw[h1,h4] at h;cases h
   |some z=>
    rw[h1,h4] at h;simp only[CF,EP,Ci] at h;subst h;have:=acX h4;unfold Em at h1;split at h1
    ·simp only[Ci] at h1;subst h1;have GU:(A9.le 2 x.length).length=2:=A9.BV _ _;simp only[Az,BN,GU];omega
    ·cases h1
theorem axG(l:List (List UInt8))(a:Option Addr)(cap:Nat)(w:World)(hl:Dv w a l)(hlen:l.length≤maxLen)(Fj:l.length≤10000):
  Calls prog 105 #[.slice a l.length cap] w fun e w'=>e=.returned (.tuple #[.string (bs (D5 l).1),.int .i64 (D5 l).2])∧Bw w w':=by
 unfold maxLen at hlen;by_cases bW:65535 < l.length
 ·have hR:Hid (D5 l=([],5)):=Hi (by unfold D5 Gt;rw[Aa (by omega)]);rw[hR.out];clear hl
  go_in
  go_wp2_with fail;all_goals
   go_ret2;exact⟨rfl,Ah _ _⟩
 ·have HL:=Hi hl;have Bb:Bw w (w.alloc (.cells #[.pointer none,.slice none 0 0] 210)):=(Ah _ w).alloc (Ae _) _;have AR:=Hi Bb;have De:=Hi (Ep.made w);clear hl Bb
  go_in
  go_wp2_with fail;refine(iL l.length 2 _ (by decide)).mono ?_;rintro e w1⟨rfl,hb⟩;have Fh:=De.upd (ub hb) (fun _ _ f=>f);have Q8:=Hi Fh;have HB1:=Hi (AR.trans (hb.mono (by rw[Ar];omega)));clear hb Fh;go_wp2_with fail;refine(WY Q8 (A9.le 2 l.length) (by simp[A9.BV])).mono ?_;rintro e w2⟨rfl,fp2,h1,h2,h3⟩;rw[Ev] at h1;have Gj:∀ q,fp2 q→w.heap.size≤q:=fun q hq=>by
   rcases h3 q hq with h|h
   ·rcases h with h|h
    ·omega
    ·simp[Value.ownBlock] at h
   ·have:=HB1.size;omega
  have Ak:=Hi (Cq HB1 h2 (fun i hi=>by rcases hi with h|h;omega;simp[Value.ownBlock] at h) HB1.size);have OW:=Hi h1;have Fa:=Hi Gj;clear h1 h2 h3 Gj;go_wp2
  go_loopw [19] (fun i wr=>∃ (k:Nat) (S:List UInt8) (fp:Nat→Prop),k≤l.length∧i=.int .i64 k∧BB (l.take k)=some S∧Ep wr w.heap.size (A9.le 2 l.length++S) fp∧(∀ q,fp q→w.heap.size≤q)∧Bw w wr) (fun i _=>l.length -(intOf i).toNat)
  case atStart=>exact⟨0,[],fp2,by omega,rfl,rfl,by rw[En];exact OW.out,Fa,Ak⟩
  case round=>
   clear De Q8 OW AR HB1 Ak Fa;obtain⟨k,S,fp,hk,rfl,hS,Fh,Gj,hb⟩:=hrel;have HS:=Hi hS;have De:=Hi Fh;have Fa:=Hi Gj;have HB:=Hi hb;clear hS Fh Gj hb;by_cases hlt:k < l.length
   ·obtain⟨q,Jm,hq⟩:=(HL.below HB).index cap k hlt;have GU:=acX HS.out;rw[Be] at GU;have KE:=Hi (acY hlt HS);by_cases Om:65535 < l[k].length
    ·have hR:Hid (D5 l=([],5)):=Hi (by unfold D5 Gt;rw[Ac (by omega),uL hlt Om];rfl);clear GU;generalize l[k]=x at*;go_wp2_with fail;refine(ac8 x _ Om).mono ?_;rintro e w3⟨rfl,rfl⟩;go_wp2;go_ret2;rw[hR.out];exact⟨rfl,HB⟩
    ·have IK:l[k].length≤65535:=(by omega);have hle:S.length+l[k].length≤1000000000:=(by have:=Nat.mul_le_mul_right 65537 (show min k l.length≤10000 by omega);omega);clear GU Om;generalize l[k]=x at*;go_wp2_with fail;refine(ac9 x _ IK).mono ?_;rintro e w3⟨rfl,Aw⟩;have TN:=Hi (De.upd (ub Aw) (fun _ _ f=>f));have AA:=bH HB Aw;clear Aw hq;go_wp2_with fail;refine(WY TN (A9.le 2 x.length++x) (by simp[A9.BV];omega)).mono ?_;rintro e w4⟨rfl,Pt,h1,h2,h3⟩;have vN:=Hi h1
     have wu:=Hi (show ∀ q,Pt q→w.heap.size≤q from fun q hq=>by
      rcases h3 q hq with h|h
      ·exact Fa q h
      ·exact Ay AA.size h)
     have AU:=Hi (Cq AA h2 Fa AA.size);clear h1 h2 h3;go_wp2;go_roundw
     case rel=>exact⟨k+1,S++(A9.le 2 x.length++x),Pt,by omega,by go_num,by rw[KE.out];unfold Em;rw[Ac IK];rfl,by rw[←Dy];exact vN.out,wu.out,AU.out⟩
     case measure=>simp[intOf];omega
   ·obtain rfl:k=l.length:=(by omega);go_wp2_with fail;refine(WX De).mono ?_;rintro e w3⟨rfl,hu⟩;have AA:=Hi (Cq HB hu Fa HB.size)
    have hR:Hid (D5 l=(A9.le 2 l.length++S,0)):=Hi (by
     have h:=HS.out;rw[Dq] at h;unfold D5 Gt;rw[Ac (by omega),h];rfl)
    clear hu;go_wp2;go_ret2;rw[hR.out];exact⟨rfl,AA⟩
end
namespace Cg
open Go.Maps
open Aq Af Ap Bu Kp BM Hex BD Al Mem
structure iE(w:World)(q:Addr)(u:T×List T):Prop where
 run:w.cell? q=some (.string (bs u.1))
 keys:∃ kq kc,w.cell? ⟨q.block,q.off+1,none⟩=some (.slice kq u.2.length kc)∧Dv w kq u.2∧(kq=none→kc=0)
def Ro(w:World)(a:Option Addr)(l:Us):Prop:=∀ i,(h:i < l.length)→∃ p:Addr,a=some p∧iE w (p.add (i*2)) l[i]
section
variable {w w':World}{a:Option Addr}{l:Us}
theorem iE.below{q:Addr}{u:T×List T}(h:iE w q u)(hb:Bw w w'):iE w' q u:=by
 obtain⟨kq,kc,h1,h2,h3⟩:=h.keys;have hlt:=D7 h.run;exact⟨(hb.cell hlt).trans h.run,kq,kc,(hb.cell (p:=⟨q.block,q.off+1,none⟩) hlt).trans h1,h2.below hb,h3⟩
theorem Ro.below(h:Ro w a l)(hb:Bw w w'):Ro w' a l:=fun i hi=>by
 obtain⟨p,e,hp⟩:=h i hi;exact⟨p,e,hp.below hb⟩
theorem Ro.index(h:Ro w a l)(cap k:Nat)(hk:k < l.length):
  ∃ q:Addr,(∀ W,(Instr.indexAt 31 (.slice a l.length cap) (.int .i64 (k:Int))).run prog W=.ok (.pointer (some q)) W)∧iE w q l[k]:=by
 obtain⟨p,rfl,hp⟩:=h k hk;exact⟨_,fun W=>IM prog _ 63 underlying31 2 (by kernel_rfl) p l.length cap k hk W,hp⟩
end
theorem aya{K:Kind}{lt:M}{L:List (T×M)}(h:Kp.EM K lt L){p:T×T}{l:M}(hl:l=BG K (lt++[p]) (K.nm p.1)):Kp.EM K (lt++[p]) (Cg.putRow L (K.nm p.1) l):=by
 unfold Cg.putRow;refine⟨Ju.2 ⟨fun hm=>?_,List.Sublist.nodup (List.Sublist.map (fun x:T×M=>x.1) (List.filter_sublist (p:=fun x:T×M=>!(x.1 == K.nm p.1)) (l:=L))) h.nodup⟩,fun t=>?_,fun x hx=>?_⟩
 ·obtain⟨x,hx,e⟩:=BA.1 hm;have:=(FQ.1 hx).2;simp[e] at this
 ·rw[Ce,BZ,D6,EG,List.map_singleton,FC];constructor
  ·rintro(e|e)
   ·exact .inr e
   ·obtain⟨x,hx,e2⟩:=BA.1 e;exact .inl ((h.names t).1 (by rw[←e2];exact Hl (FQ.1 hx).1))
  ·rintro(e|e)
   ·by_cases ht:t=K.nm p.1
    ·exact .inl ht
    ·obtain⟨x,hx,e2⟩:=BA.1 ((h.names t).2 e);refine .inr (BA.2 ⟨x,FQ.2 ⟨hx,?_⟩,e2⟩);have e2:x.1=t:=e2;simp[e2,ht]
   ·exact .inl e
 ·rcases BZ.1 hx with rfl|hx
  ·exact hl
  ·obtain⟨h1,h2⟩:=FQ.1 hx;have h2:x.1≠K.nm p.1:=(by simpa using h2);rw[NH,Aa (fun e=>h2 e.symm)];exact h.rows x h1
theorem azw{V:World}{o pb:Nat}{q:Option Addr}{c:Nat}{l:M}{pr:T×T}(ho:V.heap[o]?=some (.cells #[.slice q l.length c,.slice (some ⟨pb,0,none⟩) 1 1] 30))(hp:V.heap[pb]?=some (.cells #[.string (bs pr.1),.string (bs pr.2)] 51))(hr:Bj V q l)(hq:q=none→c=0)(hc:l.length≤c)(hl:l.length≤1000):
  Calls prog 97 #[.slice (some ⟨o,0,none⟩) 2 2] V fun e w'=>∃ q' c',e=.returned (.slice q' (KX [l,[pr]]).length c')∧BK w' V.heap.size (.slice q' (KX [l,[pr]]).length c') (KX [l,[pr]])∧Bw V w':=by
 have ab8:y7 V (some ⟨o,0,none⟩) [l,[pr]]:=by
  intro i hi;have Oz:i < 2:=hi;refine⟨_,rfl,?_⟩;rw[add_plain]
  match i,Oz with
  |0,_=>exact⟨q,c,cr ho,hr,hq,hc⟩
  |1,_=>
   refine⟨some ⟨pb,0,none⟩,1,cr ho,?_,(fun e=>by cases e),Ae _⟩;intro j hj;obtain rfl:j=0:=(by simpa using hj);refine⟨_,rfl,?_,?_⟩
   ·rw[add_plain,BF _ _ _ _ _ _ hp];rfl
   ·rw[add_plain]
    show V.cell? ⟨pb,0+0*2+1,none⟩=_
    rw[BF _ _ _ _ _ _ hp];rfl
 refine(akO (cap:=2) ab8 (by simp;omega) (by simp)).mono ?_;rintro e w'⟨v,rfl,h1,h2,h3⟩;obtain⟨q',c',rfl,-,-⟩:=Fz h1;exact⟨q',c',rfl,amj h1 h3,h2⟩
def y8(w:World)(m:Nat)(l:Us)(i:Value)(wr:World):Prop:=
 ∃ (k:Nat) (L:List (T×M)) (g:T→Value),k≤l.length∧i=.int .i64 (k:Int)∧Gc wr w.heap.size m L g∧Kp.EM Ab (Bv (l.take k)) L∧Bw w wr∧Fits Ab (Bv (l.take k))∧MK (l.take k)
theorem ar9{w:World}{p y:Nat}{A:M}{q:Option Addr}{cap:Nat}{l:Us}{Q:Int→World→Prop}(hm:Fx w p y)(hg:Ap.OV w y A)(Cv:∀ k,Af.get A (Ab.nm k)=none)(hk:Ro w q l)(hl:l.length≤1000)(DX:∀ x∈l,x.1.length≤1000000∧x.2.length≤10000)(GZ:∀ j name,Small (BG Ab (Bv (l.take j)) name))
  (hf:∀ W,Bw w W→Calls prog 175 #[.pointer (some ⟨y,0,none⟩)] W fun e w'=>e=.returned (.int .i64 0)∧W=w')
  (h5:¬ (MK l∧Fits Ab (Bv l))→∀ w',Bw w w'→Q 5 w')
  (hc:MK l∧Fits Ab (Bv l)→∀ W q c,Bw w W→Ew W q (EZ Ab (Bv l))→Calls prog 17 #[.pointer (some ⟨y,0,none⟩),.slice q (EZ Ab (Bv l)).length c] W fun e w'=>∃ c,e=.returned (.int .i64 c)∧Q c w'):
  Calls prog 42 #[.pointer (some ⟨p,0,none⟩),.slice q l.length cap] w fun e w'=>∃ c,e=.returned (.int .i64 c)∧Q c w':=by
 have HF:=Hi hf;have H5:=Hi h5;have HC:=Hi hc;have HM:=Hi hm;have HG:=Hi hg;have HK:=Hi hk;have DJ:=Hi Cv;have LX:=Hi DX;have SA:=Hi GZ;have jZ:=hm.lt;clear hf h5 hc hm hg hk Cv DX GZ;have VN:=@run_makeMap prog
 go_in
 go_wp2_with fail;refine(afG (P:=fun W w'=>W=w') HM (HF _ (Ah _ _))).mono ?_;rintro e w1⟨rfl,Jr⟩;subst Jr;go_wp2_with fail;have jy:=AV w (.map #[] 0);have Pg:=Hi (show y8 w w.heap.size l (.int .i64 0) (w.alloc (.map #[] 0)) from⟨0,[],fun _=>.slice none 0 0,AZ _,rfl,Gc.made w w.heap.size _ (Ae _),by rw[I8];exact Kp.EM.nil,jy,by rw[I8];exact zq,by rw[I8];exact fun u hu=>by simp at hu⟩);generalize w.alloc (.map #[] 0)=V at*;clear jy
 go_loopw [24] (fun i wr=>y8 w w.heap.size l i wr) (fun i _=>l.length -(intOf i).toNat)
 case atStart=>exact Pg.out
 case round=>
  obtain⟨k,L,g,hk,rfl,he,GA,hb,C9,NT⟩:=hrel;have HE:=Hi he;have WK:=Hi GA;have HB:=Hi hb;have L9:=Hi C9;have YF:=Hi NT;clear he GA hb C9 NT Pg;by_cases hlt:k < l.length
  ·obtain⟨a,Cx,ha⟩:=(HK.below HB).index cap k hlt;have c0:=ha.run;obtain⟨kq,kc,c1,Ka,dz⟩:=ha.keys;have Lb:=Hi (Dc hlt);obtain⟨Mg,XA⟩:=LX _ Lb.out;have CX:=Hi (CQ hlt);have KE:=Hi (fun name=>SA (k+1) name);obtain⟨u,hu⟩:=ex (l[k]);rw[hu] at Lb CX c0 c1 Ka Mg XA;obtain⟨run,keys⟩:=u;clear ha hu;have C8:=AV wr (.cells #[.string (bs run),.slice kq keys.length kc] 63);have U5:=Hi (AP wr (.cells #[.string (bs run),.slice kq keys.length kc] 63));have gD:=Hi (ar2 (Ka.below C8) dz (by omega));have Au:=bH HB C8;have Ra:=Hi (HE.below C8);simp only at c0 c1 Mg XA;clear Ka C8;go_wp2_with fail;refine gD.mono ?_;rintro e w1⟨v1,rfl,UA,Ai⟩;obtain⟨rq,rc,rfl⟩:=Bp UA;have aD5:=UM keys;have Co:=Hi (axG (Bc keys) rq rc w1 (I6 UA) (by unfold maxLen;omega) (by omega));have HB1:=bH Au Ai;have Jd:=Hi (Ra.below Ai);have nO:=Hi ((Ai.block _ (Ao U5)).trans U5);obtain⟨ub,hub⟩:=ex (wr.heap.size);rw[hub] at nO;have aDd:w.heap.size≤ub:=(by rw[←hub];exact HB.size);clear UA Ai Au Ra U5 gD Cx c0 c1;by_cases hz:(D5 (Bc keys)).2=0
   case neg=>
    have Tt:D5 (Bc keys)=([],5):=by
     unfold D5 at hz ⊢;cases dP:Gt (Bc keys) with
     |none=>rfl
     |some s=>rw[dP] at hz;exact absurd rfl hz
    have Oa:=Hi (H5 (fun h=>hz (h.1 _ Lb)));rw[Tt] at Co;clear Tt hz;go_wp2_with fail;refine Co.mono ?_;rintro e w2⟨rfl,Ad⟩;have HQ:=Hi (Oa w2 (bT HB1 Ad));clear Ad;go_wp2;go_ret;exact⟨5,rfl,HQ⟩
   case pos=>
    obtain⟨s,hs⟩:=ex ((D5 (Bc keys)).1);have XM:D5 (Bc keys)=(s,0):=Prod.ext hs hz;rw[XM] at Co;have xg:=Hi (show MK (l.take (k+1)) from by rw[CX.out];exact aml.2 ⟨YF,hz⟩);have FL:=Hi (show Bv (l.take (k+1))=Bv (l.take k)++[(run,s)] from by rw[CX.out,anD];unfold PZ;rw[hs]);have Jv:=Hi (fun(W:World)=>oK run W (by omega));have EB:(Ab.nm run).length=17:=iN run;clear hz hs XM;go_wp2_with fail;refine Co.mono ?_;rintro e w2⟨rfl,Ad⟩;have Ak:=bH HB1 Ad;have R9:=Hi (Jd.below Ad);have WQ:=Hi ((Ad.block _ (Ao nO)).trans nO);have cu2:w2.cell? ⟨ub,0,none⟩=some (.string (bs run)):=cr WQ.out;clear Ad HB1 Jd nO Co;go_wp2_with fail;refine(Jv _).mono ?_;rintro e w3⟨rfl,Aw⟩;have aB:=Hi (R9.below Aw);have AA:=bH Ak Aw;have aQ:=Hi ((Aw.block _ (Ao WQ)).trans WQ);clear Aw cu2 Ak R9 WQ;have Xe:L.length≤1000:=by
     have:=tY WK.out;rw[OO,Be] at this;omega
    have HSG:=Hi (KE (Ab.nm run))
    have Nr:=Hi (show Fits Ab (Bv l)→(BS (BG Ab (Bv (l.take k)++[(run,s)]) (Ab.nm run))).isSome=true from fun h=>by
     have h1:=h k (by rw[OO];exact hlt);rw[←uU,FL.out] at h1;have h2:(Bv l)[k]'(by rw[OO];exact hlt)=(run,s):=by
      have e1:(Bv (l.take (k+1)))[k]?=(Bv l)[k]? :=by
       rw[uU,List.getElem?_take,Ac (by omega)]
      rw[FL.out,List.getElem?_append_right (by rw[OO,Be];omega),OO,Be,Jc hk,Nat.sub_self] at e1;have e2:=e1.symm;rw[Ei (by rw[OO];exact hlt)] at e2;exact Gu e2
     rw[h2] at h1;exact h1)
    by_cases DV:Ab.nm run∈L.map (·.1)
    case' pos=>
     obtain⟨⟨t,l1⟩,hx,H9⟩:=BA.1 DV;have H9:t=Ab.nm run:=H9;subst H9;have NQ:=aB.tK hx (by rw[EB];decide);have Ag:=aB.row _ hx;obtain⟨q1,c1,Td,GX,Gi⟩:=Fz Ag;rw[Td] at NQ Ag;have dB:l1=BG Ab (Bv (l.take k)) (Ab.nm run):=WK.rows _ hx;have FR:=Hi dB;have C8:=AV w3 (.cells #[.slice q1 l1.length c1] 193);have Vl:=Hi (AP w3 (.cells #[.slice q1 l1.length c1] 193));have Ra:=Hi (aB.below C8);have Au:=bH AA C8;have Ph:=Hi ((C8.block _ (Ao aQ)).trans aQ);have Ib:=Hi (Ch Ag C8);have VI:w.heap.size≤w3.heap.size:=AA.size;clear hx Td Ag C8 dB H9;generalize Tg:Ab.nm run=name at*;have M0:=Hi Tg;clear Tg;go_wp2_with fail;obtain⟨wA,Tw⟩:=ex (w3.alloc (.cells #[.slice q1 l1.length c1] 193));rw[Tw] at Vl Ra Au Ph Ib ⊢;obtain⟨b,Oo⟩:=ex (w3.heap.size);rw[Oo] at Vl VI ⊢;clear Tw
    case' neg=>
     have NQ:=aB.tL DV (by rw[EB];decide);have C8:=AV w3 (.cells #[.slice none 0 0] 193);have xK:=Hi (AP w3 (.cells #[.slice none 0 0] 193));have Yi:=bH AA C8;have vW:=Hi (aB.below C8);have ape:=Hi ((C8.block _ (Ao aQ)).trans aQ);have jg:=oL (HM.below Yi) (Xa HG Yi) (Ab.nm run) (by rw[EB];decide);have PK:fileOf Ab A (Ab.nm run)=none:=(by unfold fileOf;rw[DJ run];rfl);unfold Ql at jg;rw[PK,DJ run] at jg;obtain⟨l1,GR⟩:∃ l1:M,l1=[]:=⟨_,rfl⟩;rw[show((none:Option M).getD [])=l1 from GR.symm] at jg
     have FR:=Hi (show l1=BG Ab (Bv (l.take k)) (Ab.nm run) from by
      rw[GR,j3];exact fun e=>DV ((WK.names _).2 e))
     have FK:=Hi jg;have VI:w.heap.size≤w3.heap.size:=AA.size;clear C8 jg PK GR;generalize Tg:Ab.nm run=name at*;have M0:=Hi Tg;clear Tg;go_wp2_with fail;refine FK.mono ?_;rintro e w4⟨q1,c1,rfl,Ag,GX,AB⟩;have si:=(AB.block _ (Ao xK)).trans xK.out;have yP:w4.cell? ⟨w3.heap.size,0,none⟩=some (.slice none 0 0):=cr si;have hf4:=Cu w4 w3.heap.size 0 _ _ si;have Lx:=(A7.refl (fun j=>j=w3.heap.size) w4).setCell (p:=⟨w3.heap.size,0,none⟩) (.inl rfl) (.slice q1 l1.length c1);have Vl:=Hi (Cf w4 w3.heap.size 0 _ _ (.slice q1 l1.length c1) si);have VS:=Ar w3 (.cells #[.slice none 0 0] 193);have DU:Bw w3 (w4.setCell ⟨w3.heap.size,0,none⟩ (.slice q1 l1.length c1)):=by
      have h1:Bw w3 w4:=(AV w3 _).trans (AB.mono (AV w3 _).size);exact h1.setCell (p:=⟨w3.heap.size,0,none⟩) (Ae _) _
     have Ra:=Hi (aB.below DU);have Au:=bH AA DU;have Ph:=Hi ((DU.block _ (Ao aQ)).trans aQ)
     have Ib:=Hi (Fu (BH Ag Lx (fun j hj e=>by
      have:=Ec Ag hj;rw[VS] at this;omega)) (show w.heap.size≤(w3.alloc (.cells #[.slice none 0 0] 193)).heap.size from by rw[VS];omega))
     clear AB Lx DU VS FK xK Yi vW ape si Ag;go_wp2_with fail;obtain⟨wA,Tw⟩:=ex (w4.setCell ⟨w3.heap.size,0,none⟩ (.slice q1 l1.length c1));rw[Tw] at Vl Ra Au Ph Ib ⊢;obtain⟨b,Oo⟩:=ex (w3.heap.size);rw[Oo] at Vl VI ⊢;clear Tw yP hf4
    all_goals
     have auI:l1.length≤1000:=by
      rw[FR.out];have:=pU Ab (Bv (l.take k)) name;rw[OO,Be] at this;omega
     have aR:=Hi (show Up l1 from by rw[FR.out];exact SL _ _);have cxb:wA.cell? ⟨b,0,none⟩=some (.slice q1 l1.length c1):=cr Vl.out;have oH:wA.cell? ⟨ub,0,none⟩=some (.string (bs run)):=cr Ph.out;have Wv:=Hi (fun(W:World) (hW:Bw wA W)=>yx (w:=W) ((Bj.D9 Ib).below hW) GX (by omega) run);have vM:=Hi (fun(W:World) (hW:Bw wA W)=>(hW.block b (Ao Vl)).trans Vl);have apf:=Hi (fun(W:World) (hW:Bw wA W)=>(hW.block ub (Ao Ph)).trans Ph);have Zm:(l1.filter fun p=>!(p.1 == run)).length≤1000:=Ay (LK _ _) auI
     have WH:=Hi (fun(w5:World) (q4:Option Addr) (c4 pb o:Nat) (ho:w5.heap.size=o) (Bo:Bw wA w5) (hp:w5.heap[pb]?=some (.cells #[.string (bs run),.string (bs s)] 51)) (Hy:Bj w5 q4 (l1.filter fun p=>!(p.1 == run))) (dN:q4=none→c4=0) (Md:(l1.filter fun p=>!(p.1 == run)).length≤c4)=>
      show Calls prog 97 #[.slice (some ⟨o,0,none⟩) 2 2] (w5.alloc (.cells #[.slice q4 (l1.filter fun p=>!(p.1 == run)).length c4,.slice (some ⟨pb,0,none⟩) 1 1] 30)) fun e w'=>∃ q9 c9,e=.returned (.slice q9 (put run s l1).length c9)∧BK w' wA.heap.size (.slice q9 (put run s l1).length c9) (put run s l1)∧Bw wA w'∧w'.cell? ⟨b,0,none⟩=some (.slice q1 l1.length c1)∧w'.frozen? ⟨b,0,none⟩=false from by
       subst ho;have h2:=AP w5 (.cells #[.slice q4 (l1.filter fun p=>!(p.1 == run)).length c4,.slice (some ⟨pb,0,none⟩) 1 1] 30);have Cb:=AV w5 (.cells #[.slice q4 (l1.filter fun p=>!(p.1 == run)).length c4,.slice (some ⟨pb,0,none⟩) 1 1] 30);generalize w5.alloc (.cells #[.slice q4 (l1.filter fun p=>!(p.1 == run)).length c4,.slice (some ⟨pb,0,none⟩) 1 1] 30)=w6 at*;refine(azw (pr:=(run,s)) h2 ((Cb.block _ (Ao hp)).trans hp) (Hy.below Cb) dN Md Zm).mono ?_;rintro e w'⟨q9,c9,rfl,PQ,Ez⟩;have DU:=Bo.trans ((bT Cb Ez).mono Bo.size);have hx9:=vM w' DU;rw[akQ aR (run,s)] at PQ ⊢;exact⟨q9,c9,rfl,Fu PQ (Ay Bo.size Cb.size),DU,cr hx9,Cu w' b 0 _ _ hx9⟩)
     have Xj:=AV wA (.cells #[.string (bs run),.string (bs s)] 51);have hnP:=AP wA (.cells #[.string (bs run),.string (bs s)] 51);have UZ:=Hi Xj;have aL:=Hi hnP;have aqJ:(wA.alloc (.cells #[.string (bs run),.string (bs s)] 51)).drew.cell? ⟨ub,0,none⟩=some (.string (bs run)):=(Xj.cell (p:=⟨ub,0,none⟩) (Ao Ph)).trans oH;have aqM:(wA.alloc (.cells #[.string (bs run),.string (bs s)] 51)).drew.cell? ⟨b,0,none⟩=some (.slice q1 l1.length c1):=(Xj.cell (p:=⟨b,0,none⟩) (Ao Vl)).trans cxb;clear Xj hnP;clear NQ Jv;refine aj ?_
     go_region_law
      (first
       |(go_simp;go_at_call 109;refine(Wv _ ((Ah _ wA).drew)).mono ?_;rintro e w4 ⟨v4,rfl,Hy,AB⟩;obtain⟨q4,c4,rfl,dN,Md⟩:=Fz Hy;have AB:Bw wA w4:=((Ah _ wA).drew).trans (AB.mono (Ae _));have aqI:w4.cell? ⟨ub,0,none⟩=some (.string (bs run)):=(AB.cell (p:=⟨ub,0,none⟩) (Ao Ph)).trans oH;go_wp2_with fail)
       |(go_simp;go_at_call 109;refine(Wv _ UZ.drew).mono ?_;rintro e w4 ⟨v4,rfl,Hy,AB⟩;obtain⟨q4,c4,rfl,dN,Md⟩:=Fz Hy;have hp4:w4.heap[wA.heap.size]?=some (.cells #[.string (bs run),.string (bs s)] 51):=(AB.block _ (Ao aL)).trans aL.out;have AB:Bw wA w4:=UZ.trans (((Ah _ _).drew.trans (AB.mono (Ae _))).mono UZ.size);have aqI:w4.cell? ⟨ub,0,none⟩=some (.string (bs run)):=(AB.cell (p:=⟨ub,0,none⟩) (Ao Ph)).trans oH;go_wp2_with fail)
       |(go_simp;go_at_call 97;refine(WH w4 q4 c4 _ _ rfl AB hp4 (Bj.D9 Hy) dN Md).mono ?_;rintro e w9 ⟨q9,c9,rfl,PQ,Ez,cx9,cK⟩;go_wp2_with fail)
       |(go_simp;go_at_call 97;refine(WH _ q4 c4 _ _ (Ar _ _) (AB.alloc AB.size _) (AP w4 _) ((Bj.D9 Hy).below (AV w4 _)) dN Md).mono ?_;rintro e w9 ⟨q9,c9,rfl,PQ,Ez,cx9,cK⟩;go_wp2_with fail))
     all_goals
      dsimp only[XZ];have sj:=vM w9 Ez;have abw:=Cf w9 b 0 _ _ (.slice q9 (put run s l1).length c9) sj;have aqL:(w9.setCell ⟨b,0,none⟩ (.slice q9 (put run s l1).length c9)).cell? ⟨b,0,none⟩=some (.slice q9 (put run s l1).length c9):=cr abw;have kC:=(A7.refl (fun j=>j=b) w9).setCell (p:=⟨b,0,none⟩) (.inl rfl) (.slice q9 (put run s l1).length c9);have JH:∀ k,k=b→¬ Bf w9 k 51:=fun k e hb=>by
       obtain⟨cs,fr,hb⟩:=hb;rw[e,sj] at hb;injection hb with hb
       injection hb with _ hb
       exact absurd hb (by decide)
      have ahs:Gc (w9.setCell ⟨b,0,none⟩ (.slice q9 (put run s l1).length c9)) w.heap.size w.heap.size L g:=by
       have ahu:=Ra.below Ez;have hNB:¬ Bf w9 w.heap.size 193:=ahu.Dp;obtain⟨⟨kv,h1,h2⟩,h3,h4,h6⟩:=ahu;exact⟨⟨kv,h1,h2.upd kC (fun e=>hNB (by rw[e];exact⟨_,_,sj⟩))⟩,h3,fun x hx=>BH (h4 x hx) kC (fun j hj e=>JH j e (CB (h4 x hx) hj)),h6⟩
      have ab2:=BH (Fu PQ Au.size) kC (fun j hj e=>JH j e (CB PQ hj));have aan:=Au.trans (Ez.mono Au.size);have Xh:=Cq aan kC (fun i e=>by rw[e];exact VI) aan.size;have Ta:BG Ab (Bv (l.take k)++[(run,s)]) name=put run s l1:=(by rw[NH,Ac M0.out,←FR.out]);have hsg:=HSG.out;rw[FL.out,Ta] at hsg;obtain⟨aD9,ajz⟩:=hsg;have Sk:=Hi (aft (cap:=c9) (Bj.D9 ab2) (CR.QR (aR.put run s)) (by omega) ajz);have hfs:=Nr.out;rw[Ta] at hfs;have gL:=Hi hfs
      have V7:=Hi (show Kp.EM Ab (Bv (l.take (k+1))) (Cg.putRow L name (put run s l1)) from by
       rw[FL.out,←M0.out];exact aya WK (by rw[M0.out,Ta]))
      have TT:=Hi (@Fits.kY Ab (Bv (l.take k)) (run,s));have aeI:=Hi ahs;have Np:=Hi Xh;have aep:=Hi ab2;have xL:=Hi abw;have P5:=Hi Ta;obtain⟨F7,XP⟩:=ex (w9.setCell ⟨b,0,none⟩ (.slice q9 (put run s l1).length c9));rw[XP] at Sk aeI Np aep xL aqL ⊢;clear XP sj abw kC JH ahs ab2 aan Xh Ta ajz hfs PQ Ez cx9 cK Hy AB dN Md WH Wv vM apf UZ aL aqJ aqM cxb oH DV;generalize put run s l1=l2 at*;by_cases DK:(BS l2).isSome=true
      ·rw[Ac DK] at Sk
       have Yn:=Hi (show Fits Ab (Bv (l.take (k+1))) from by
        rw[FL.out];refine TT.2 ⟨L9,?_⟩;rw[M0.out,P5.out];exact DK)
       generalize (BS l2).getD []=ct at*;clear DK;go_wp2_with fail;refine Sk.mono ?_;rintro e fF⟨rfl,VH⟩;have ajR:=(VH.block _ (Ao xL)).trans xL.out;have aCd:fF.cell? ⟨b,0,none⟩=some (.slice q9 l2.length c9):=cr ajR;obtain⟨w12,aD7,ahq,aik⟩:=(aeI.below VH).put (name:=name) (by rw[EB];decide) (Ch aep VH) (by unfold maxLen;omega);have Xi:=(bT Np VH).grown aik (bT Np VH).size (fun k e=>Nat.le_of_eq (Gu e));have Cz:=Hi (show y8 w w.heap.size l (.int .i64 ((k:Int)+1)) w12 from⟨k+1,_,_,by omega,by go_num,ahq,V7,Xi,Yn,xg⟩);generalize l2.length=n2 at*;clear VH ajR ahq aik Xi;go_wp2;go_roundw
       case rel=>exact Cz.out
       case measure=>
        show l.length -((k:Int)+1).toNat < l.length -((k:Int)).toNat
        omega
      ·rw[Aa DK] at Sk;have Vg:=Hi (H5 (fun h=>DK (gL h.2)));generalize (BS l2).getD []=ct at*;generalize l2.length=n2 at*;clear DK;go_wp2_with fail;refine Sk.mono ?_;rintro e fF⟨rfl,VH⟩;have HQ:=Hi (Vg fF (bT Np VH));clear VH;go_wp2;go_ret;exact⟨5,rfl,HQ⟩
  ·obtain rfl:k=l.length:=(by omega);have C9:=L9.out;have NT:=YF.out;have GA:=WK.out;rw[Dq] at C9 NT GA;have Xe:L.length≤100000:=by
    have:=tY GA;rw[OO] at this;omega
   have e1:=GA.oz;have e2:=GA.fits C9
   have OY:=Hi (afH (Q:=Q) (HM.below HB) HE (fun x hx=>by
    have h1:=SA l.length x.1;rw[Dq] at h1;rw[GA.rows x hx];exact⟨CR.QR (SL _ _),Ay h1.1 (by decide),h1.2⟩) (fun x hx=>by
    obtain⟨z,_,hz⟩:=BA.1 ((GA.names x.1).1 (Hl hx));rw[←hz,iN];decide) Xe (fun h=>absurd e2 h) (fun _ W q c hW Z8=>by
    rw[e1] at Z8 ⊢;exact HC ⟨NT,C9⟩ W q c (bT HB hW) Z8))
   clear C9 NT GA e1 e2;go_wp2_with fail;refine OY.mono ?_;rintro e w9⟨cc,rfl,Zt⟩;go_wp2;go_ret;exact⟨cc,rfl,Zt⟩
end Cg
namespace Hv
open Go.Maps
open Aq Af Bu Kp BM Hex BD Al Mem Cg
open Ap
def Y1(l:M):Nat:=(l.map fun p=>p.1.length+p.2.length).sum
def axQ(l:M):Nat:=(l.map fun p=>p.1.length+min p.2.length 8192).sum
theorem alq(l:M):∀ c∈l,c.1.length+c.2.length≤Y1 l:=by
 unfold Y1
 induction l with
 |nil=>intro x hx;simp at hx
 |cons y l ih=>
  intro x hx;rw[Ce,Eo];rcases BZ.1 hx with rfl|hx
  ·omega
  ·have:=ih x hx;omega
def dW(l:List T):Nat:=(l.map fun s=>2+min s.length 4096).sum
def S9(l:Us):Nat:=(l.map fun u=>u.1.length+dW u.2).sum
theorem anw(l:Us):∀ c∈l,c.1.length≤S9 l:=by
 unfold S9
 induction l with
 |nil=>intro x hx;simp at hx
 |cons y l ih=>
  intro x hx;rw[Ce,Eo];rcases BZ.1 hx with rfl|hx
  ·omega
  ·have:=ih x hx;omega
def iM(l:List Am):Nat:=(l.map fun c=>c.data.length).sum
structure aeL(N:Int)(l:M)(us:Us)(fs:List Am):Prop where
 sF:l.length≤20
 sH:Y1 l≤262144
 aDr:axQ l≤16384
 u20:us.length≤20
 uks:∀ u∈us,u.2.length≤30
 uP:S9 us≤16384
 f10:fs.length≤10
 agw:iM fs≤4096
 n8:8≤N
 n200:N≤200
end Hv
namespace Mem
open Go.Maps
open Aq Af Ap Bu Kp BM Hex BD
def xX(w:World)(q:Option Addr)(cap:Nat)(l:M)(i:Value)(wr:World):Prop:=∃ k:Nat,k≤l.length∧i=.int .i64 k∧Bw w wr∧BK wr w.heap.size (.slice q l.length cap) l
theorem ayF(name data:T)(l:M)(h:Aj.Cw name data=some l)(w:World)(hd:data.length≤1000000):Calls prog 185 #[.string (bs name),.string (bs data)] w fun e w'=>∃ q cap,e=.returned (.tuple #[.slice q l.length cap,.bool true])∧BK w' w.heap.size (.slice q l.length cap) l∧(q=none→cap=0)∧Bw w w':=by
 have hsh:=(eT h).2;obtain⟨hne,DY,Jo,s,GA,Ke⟩:=Nf h;have jY:A9.EE data=(s,0):=by rw[Ke];exact A9.ac7 s
 have CZ:s.length≤1000000:=by
  have:data.length=s.length+4:=by rw[Ke];unfold A9.Fv;rw[Az,A9.BV]
  omega
 have HO:=Hi (amd data w (by omega));rw[jY] at HO;have HG:=Hi (fun(W:World)=>am5 s l (pK GA (CR.QR DY)) W (by omega));have Jv:=Hi (fun p hp=>(Jo p hp).1);have FL:=Hi DY;have Rh:=Hi hsh;have hlz:((l.length:Int) == 0)=false:=EH.2 (fun e=>hne (JW.1 (by omega)));have FN:l.length≤65535:=(eT h).1;clear h jY GA Ke DY Jo hne hsh
 go_in
 go_wp2_with fail;refine HO.mono ?_;rintro e w1⟨rfl,Ai⟩;have HB1:=Hi Ai;clear Ai;go_wp2_with fail;refine(HG _).mono ?_;rintro e w2⟨v,rfl,DN,Ad⟩;obtain⟨q,cap,rfl,hq,hc⟩:=Fz DN;have BU:=Hi (Fu DN HB1.size);have Ak:=bH HB1 Ad;have HQ:=Hi hq;clear DN Ad hq hc;go_wp2
 go_loopw [9] (fun i wr=>xX w q cap l i wr) (fun i _=>l.length -(intOf i).toNat)
 case atStart=>exact⟨0,AZ _,rfl,Ak,BU⟩
 case round=>
  obtain⟨k,DX,rfl,hb,hr⟩:=hrel;have HB:=Hi hb;have HR:=Hi hr;clear hb hr Ak BU;by_cases hlt:k < l.length
  ·obtain⟨a,Cx,c0,-⟩:=Y2 HR hlt;have EX:=(Rh _ (Dc hlt)).1;have KR:=Jv _ (Dc hlt);by_cases IZ:k=0
   ·subst IZ;generalize l[0]=x at*;have HN:=Hi (fun(W:World)=>acz x.1 W (by omega));rw[KR] at HN;have jO:∀ W,(Instr.indexAt 30 (.slice q l.length cap) (.int .i64 0)).run prog W=.ok (.pointer (some a)) W:=Cx;have HC:=Hi (fun(V:World) (hb:Bw wr V)=>(hb.cell (D7 c0)).trans c0);clear Cx c0 KR;go_wp2_with fail;have HS:=Hi (fun(V:World) (hb:Bw wr V)=>(show(fun V:World=>V.cell? a=some (.string (bs x.1))) V from HC V hb));refine wp_region_held (S:=(fun V:World=>V.cell? a=some (.string (bs x.1)))) (by kernel_rfl) ?_;have BR:=Hi ((Ah wr.heap.size wr).drew);refine Av 0 (HS _ BR) ?_;refine Av 1 (HS _ BR) ?_;refine Av 2 (HS _ BR) ?_;refine Av 3 (HS _ BR) ?_;refine Av 4 (HS _ BR) ?_;refine Av 6 (HS _ BR) ?_;refine Nh 5 (fun K1 Il=>?_);go_simp;refine(HN _).mono ?_;rintro e wA⟨rfl,DU⟩;have Au:=Hi (show Bw wr wA from BR.trans (DU.mono (Ae _)));clear DU;refine Il _ _ (HS _ Au) ?_;try simp only[Act.put,np]
    refine Av 7 (HS _ Au) ?_;refine Av 8 (HS _ Au) ?_;refine Av 9 (HS _ Au) ?_;refine Av 10 (HS _ Au) ?_;refine Av 11 (HS _ Au) ?_;refine Ja 12 (HS _ Au) ?_;refine Ja 13 (HS _ Au) ?_;refine Ja 14 (HS _ Au) ?_;refine Ja 15 (HS _ Au) ?_;refine Ja 16 (HS _ Au) ?_;refine Ja 17 (HS _ Au) ?_;refine Ja 18 (HS _ Au) ?_;refine Ja 19 (HS _ Au) ?_;refine Ja 20 (HS _ Au) ?_;refine Ja 21 (HS _ Au) ?_;refine Ja 22 (HS _ Au) ?_;refine Ja 23 (HS _ Au) ?_;refine Av 24 (HS _ Au) ?_;refine Av 25 (HS _ Au) ?_;refine wpAnyH_done (by kernel_rfl) ?_ _;clear Il K1;have Cz:=Hi (show xX w q cap l (.int .i64 1) wA from⟨1,by omega,rfl,HB.trans (Au.mono HB.size),Ch HR Au⟩);go_wp2;go_roundw
    case rel=>exact Cz.out
    case measure=>show l.length -(1:Int).toNat < l.length -(0:Int).toNat;omega
   ·obtain⟨a',aaC,c1,-⟩:=Y2 HR (show k -1 < l.length by omega);have QI:IntKind.i64.wrap ((k:Int) -1)=((k -1:Nat):Int):=(by rw[Eh _ (by omega)];omega);have Gl:(0:Int) < (k:Int):=(by omega);have Tc:0 < k:=(by omega);have hne:((l[k -1]'(by omega)).1 == l[k].1)=false:=by
     have h1:=List.pairwise_iff_getElem.1 FL (k -1) k (by omega) hlt (by omega);exact EH.2 (fun e=>by rw[e] at h1;exact RL _ h1)
    obtain⟨y,hy⟩:=ex (l[k -1]'(by omega));obtain⟨x,hx⟩:=ex (l[k]);rw[hy] at c1 hne;rw[hx] at c0 EX KR hne;have HN:=Hi (fun(W:World)=>acz x.1 W (by omega));rw[KR] at HN;have HC:=Hi (fun(V:World) (hb:Bw wr V)=>Cr ((hb.cell (D7 c0)).trans c0) ((hb.cell (D7 c1)).trans c1));clear c0 c1 KR hx hy;go_wp2_with fail;have HS:=Hi (fun(V:World) (hb:Bw wr V)=>(show(fun V:World=>V.cell? a=some (.string (bs x.1))∧V.cell? a'=some (.string (bs y.1))) V from HC V hb));refine wp_region_held (S:=(fun V:World=>V.cell? a=some (.string (bs x.1))∧V.cell? a'=some (.string (bs y.1)))) (by kernel_rfl) ?_;have BR:=Hi ((Ah wr.heap.size wr).drew);refine Av 0 (HS _ BR) ?_;refine Av 1 (HS _ BR) ?_;refine Av 2 (HS _ BR) ?_;refine Av 3 (HS _ BR) ?_;refine Av 4 (HS _ BR) ?_;refine Av 6 (HS _ BR) ?_;refine Nh 5 (fun K1 Il=>?_);go_simp;refine(HN _).mono ?_;rintro e wA⟨rfl,DU⟩;have Au:=Hi (show Bw wr wA from BR.trans (DU.mono (Ae _)));clear DU;refine Il _ _ (HS _ Au) ?_;try simp only[Act.put,np]
    refine Av 7 (HS _ Au) ?_;refine Av 8 (HS _ Au) ?_;refine Av 9 (HS _ Au) ?_;refine Av 10 (HS _ Au) ?_;refine Av 11 (HS _ Au) ?_;refine Av 12 (HS _ Au) ?_;refine Av 13 (HS _ Au) ?_;refine Av 14 (HS _ Au) ?_;refine Av 15 (HS _ Au) ?_;refine Av 16 (HS _ Au) ?_;refine Av 17 (HS _ Au) ?_;refine Av 18 (HS _ Au) ?_;refine Av 19 (HS _ Au) ?_;refine Av 20 (HS _ Au) ?_;refine Av 21 (HS _ Au) ?_;refine Av 22 (HS _ Au) ?_;refine Av 23 (HS _ Au) ?_;refine Av 24 (HS _ Au) ?_;refine Av 25 (HS _ Au) ?_;refine wpAnyH_done (by kernel_rfl) ?_ _;clear Il K1;have Cz:=Hi (show xX w q cap l (.int .i64 ((k:Int)+1)) wA from⟨k+1,by omega,by go_num,HB.trans (Au.mono HB.size),Ch HR Au⟩);go_wp2;go_roundw
    case rel=>exact Cz.out
    case measure=>
     show l.length -((k:Int)+1).toNat < l.length -((k:Int)).toNat
     omega
  ·obtain rfl:k=l.length:=(by omega);go_wp2;go_ret2;exact⟨q,cap,rfl,HR,HQ,HB⟩
end Mem
section
open Go.Maps
open Af Ap
section
variable {w w':World}
def YT(most:Nat)(A:M)(l:List Am):Int:=if l.all Am.may=false then 2 else if most < used (made A l) then 4 else 0
def Wj(most:Nat)(A:M)(l:List Am):M:=if l.all Am.may=true∧used (made A l)≤most then made A l else A
theorem alN{r most cap:Nat}{a:Option Addr}{v:Value}{A:M}{l:List Am}(h:Hq w r v A (most:Int))(hu:Up A)(hl:Ew w a l)(aCY:most≤2000000000000)(hA:used A≤3000000)(FN:l.length≤100000)(hw:F8 l≤900000):
  Calls prog 44 #[.pointer (some ⟨r,0,none⟩),.slice a l.length cap] w fun e w'=>e=.returned (.int .i64 (YT most A l))∧∃ v',Hq w' r v' (Wj most A l) (most:Int)∧A7 (fun k=>k=r) w w':=by
 have Hz:=QV A;have FE:=UR hu l;have hok:∀ c∈l,c.name.length≤maxLen∧c.data.length≤maxLen:=fun c hc=>by
  have:=anK hc;unfold maxLen;omega
 have HR:=Hi h;have HL:=Hi hl;have ME:=Hi hok;clear h hl hok
 go_in
 go_wp2
 go_loopw [5] (fun i wr=>∃ k:Nat,k≤l.length∧i=.int .i64 (k:Int)∧(l.take k).all Am.may=true∧Bw w wr) (fun i _=>l.length -(intOf i).toNat)
 case atStart=>exact⟨0,AZ _,rfl,rfl,Ah _ _⟩
 case round=>
  obtain⟨k,hk,rfl,hall,hb⟩:=hrel;have Gv:=Hi hall;have HB:=Hi hb;clear hall;by_cases hlt:k < l.length
  ·obtain⟨p,Jm,hp,_⟩:=(HL.below hb).index cap k hlt;obtain⟨p0,p1,p2⟩:=hp.cells;obtain⟨o1,o2⟩:=ME _ (Dc hlt);have HM:=Hi (amb l[k].name l[k].data l[k].gone wr o1 o2);obtain⟨mv,EA⟩:=ex (Am.may l[k]);rw[show(⟨l[k].name,l[k].data,l[k].gone⟩:Am)=l[k] from rfl,EA] at HM;have Rc:=Hi EA;have NR:=Dc hlt;cases mv with
   |true=>
    have HN:=Hi (show(l.take (k+1)).all Am.may=true by rw[CQ hlt,List.all_append,Gv.out,Bool.true_and];simp[Rc.out]);clear hb hp NR EA o1 o2;generalize l[k]=c at*;go_wp2_with fail;refine HM.mono ?_;rintro e w2⟨rfl,Ad⟩;have Ak:=bH HB Ad;clear Ad;go_wp2;go_roundw
    case rel=>exact⟨k+1,by omega,by go_num,HN,Ak⟩
    case measure=>simp[intOf];omega
   |false=>
    have QB:l.all Am.may=false:=by
     rw[Bool.eq_false_iff];intro e;rw[Mr] at e;rw[e _ NR] at EA;cases EA
    have HC:=Hi (show YT most A l=2 by unfold YT;rw[Ac QB]);have HX:=Hi (show Wj most A l=A by unfold Wj;rw[Aa (by rw[QB];simp)]);clear hb hp NR EA o1 o2 QB;generalize l[k]=c at*;go_wp2_with fail;refine HM.mono ?_;rintro e w2⟨rfl,Ad⟩;have Ak:=bH HB Ad;clear Ad;go_wp2;go_ret;exact⟨by rw[HC.out];rfl,v,by rw[HX.out];exact HR.below Ak,A7.of_below Ak⟩
  ·obtain rfl:k=l.length:=(by omega);have hall:=Gv.out;rw[Dq] at hall;have HW:=Hi (amA (cap:=cap) (HR.below hb) hu (HL.below hb) (by omega) (by omega));have Nn:=Hi hall;clear hb hall Gv;go_wp2_with fail;refine HW.mono ?_;rintro e w2⟨v2,rfl,DN,Ad⟩;obtain⟨q2,cap2,rfl⟩:=Bp DN;have Ak:=bH HB Ad;have BU:=Hi DN;have Fw:=Hi (fun(W:World) (hW:Bw w2 W)=>acG (BH DN (ub hW) (fun _ _ f=>f)) (by omega));have FO:=HR.below Ak.out;have c1:w2.cell? ⟨r,1,none⟩=some (.int .i64 (most:Int)):=cr FO.1;have HRF:=Hi FO;obtain⟨F,hF⟩:=ex (made A l);rw[hF] at Fw BU ⊢;have Ym:=Hi hF;obtain⟨U,hU⟩:=ex (used F);rw[hU] at Fw;rw[hF,hU] at FE;have iA:=Hi hU;clear DN Ad FO hU hF;have jF:YT most A l=if most < U then 4 else 0:=by
    unfold YT;rw[Aa (by rw[Nn.out];simp),Ym.out,iA.out]
   have jU:Wj most A l=if most < U then A else F:=by
    unfold Wj;rw[Ym.out,iA.out];by_cases e:most < U
    ·rw[Ac e,Aa (by omega)]
    ·rw[Aa e,Ac ⟨Nn,by omega⟩]
   have Sj:=Hi (Cr jF jU);clear jF jU Hz hw FN hA hlt hk;by_cases Gl:most < U
   ·have Qx:(most:Int) < (U:Int):=(by omega);have HG:=Hi Gl;clear Gl;go_wp2
    go_region_held3 (fun V=>V.cell? ⟨r,1,none⟩=some (.int .i64 (most:Int))) (go_keep)
     (first|(go_at_call 120;refine(Fw _ ((Ah _ _).drew)).mono ?_;rintro e wA ⟨rfl,DU⟩;have Au:=Hi (Ak.trans ((show Bw w2 wA from((Ah _ w2).drew).trans DU).mono Ak.size));clear DU;have cA:wA.cell? ⟨r,1,none⟩=some (.int .i64 (most:Int)):=(by rw[BF _ _ _ _ _ _ (HR.below Au).1];rfl)))
    all_goals
     go_wp2;go_ret;exact⟨by rw[Sj.1,Ac HG.out];rfl,v,by rw[Sj.2,Ac HG.out];exact HR.below Au.out,A7.of_below Au.out⟩
   ·have Qx:¬ (most:Int) < (U:Int):=(by omega);have HG:=Hi Gl;clear Gl;go_wp2
    go_region_held3 (fun V=>V.cell? ⟨r,1,none⟩=some (.int .i64 (most:Int))) (go_keep)
     (first|(go_at_call 120;refine(Fw _ ((Ah _ _).drew)).mono ?_;rintro e wA ⟨rfl,DU⟩;have Au:=Hi ((show Bw w2 wA from((Ah _ w2).drew).trans DU));clear DU;have cA:wA.cell? ⟨r,1,none⟩=some (.int .i64 (most:Int)):=(by rw[BF _ _ _ _ _ _ (HR.below (bT Ak Au)).1];rfl)))
    all_goals
     have CL:=bH Ak Au;have FO:=HR.below CL.out;have d0:wA.cell? ⟨r,0,none⟩=some v:=cr FO.1;have df:=Cu _ _ 0 _ _ FO.1;have Ib:=Hi (Cr FO.1 (BH BU (ub Au) (fun _ _ f=>f)));clear FO c1;go_wp2;go_ret;refine⟨by rw[Sj.1,Aa HG.out];rfl,.slice q2 F.length cap2,?_,(A7.of_below (F:=fun k=>k=r) CL).setCell (p:=⟨r,0,none⟩) (.inl rfl) _⟩;rw[Sj.2,Aa HG.out];refine⟨Cf _ _ 0 _ _ _ Ib.1,BH Ib.2 ((A7.refl (fun k=>k=r) wA).setCell (p:=⟨r,0,none⟩) (.inl rfl) _) (fun g hg e=>?_)⟩;rw[e] at hg;exact Bf.ne (CB Ib.2 hg) ⟨_,_,Ib.1⟩ (by decide) rfl
end
end
namespace Mem
open Go.Maps
open Aq Af Ap Bu Kp BM Hex BD
theorem amz{w:World}{r:Nat}{v:Value}{A:M}{most:Int}(h:Hq w r v A most)(hA:used A≤1000000000):
  Calls prog 103 #[.pointer (some ⟨r,0,none⟩)] w fun e w'=>e=.returned (.int .i64 (used A:Nat))∧Bw w w':=by
 obtain⟨q,cap,rfl⟩:=Bp h.2;have c0:w.cell? ⟨r,0,none⟩=some (.slice q A.length cap):=cr h.1;have HU:=Hi (acG h.2 hA);clear h
 go_in
 go_wp2_with fail;refine HU.mono ?_;rintro e w1⟨rfl,hb⟩;have HB:=Hi hb;clear hb;go_wp2;go_ret;exact⟨rfl,HB⟩
theorem ayL{w:World}{r:Nat}{v:Value}{A:M}{most:Int}(h:Hq w r v A most)(hA:A.length≤1000000)(name:T)(MP:∀ d,Af.get A name=some d→d.length≤1000000)(hf:∀ d,Af.get A name=some d→(fileOf Aj A name).isSome=true):
  Calls prog 100 #[.pointer (some ⟨r,0,none⟩),.string (bs name)] w fun e w'=>∃ q cap,e=.returned (.tuple #[.slice q ((fileOf Aj A name).getD []).length cap,.bool (Af.get A name).isSome,.bool false])∧BK w' w.heap.size (.slice q ((fileOf Aj A name).getD []).length cap) ((fileOf Aj A name).getD [])∧(q=none→cap=0)∧Bw w w':=by
 have HG:=Hi (am6 h hA name);have Xt:∀ d,Af.get A name=some d→fileOf Aj A name=Aj.Cw name d:=fun d hd=>by unfold fileOf;rw[hd];rfl
 have hfn:Af.get A name=none→fileOf Aj A name=none:=fun hd=>by unfold fileOf;rw[hd];rfl
 clear h;cases hx:Af.get A name with
 |none=>
  rw[hx] at HG;rw[hfn hx];clear hx hf Xt hfn MP
  go_in
  go_wp2_with fail;refine HG.mono ?_;rintro e w1⟨rfl,hb⟩;have HB:=Hi hb;clear hb;go_wp2_with fail;exact EI (v:=.tuple #[.slice none 0 0,.bool false,.bool false]) (by simp[results,results100,go_sem]) rfl ⟨none,0,rfl,Wl _ _,fun _=>rfl,HB⟩
 |some d=>
  rw[hx] at HG;have h1:=hf d hx;rw[Xt d hx] at h1 ⊢;obtain⟨l,hl⟩:=LM.1 h1;rw[hl];have HE:=Hi (fun(W:World)=>ayF name d l hl W (MP d hx));clear hx hf Xt hfn MP h1 hl
  go_in
  go_wp2_with fail;refine HG.mono ?_;rintro e w1⟨rfl,hb⟩;have HB:=Hi hb;clear hb;go_wp2_with fail;refine(HE _).mono ?_;rintro e w2⟨q,cap,rfl,hr,hq,Ad⟩;have HR:=Hi (Fu hr HB.size);have Ak:=bH HB Ad;clear Ad hr;go_wp2_with fail;exact EI (v:=.tuple #[.slice q l.length cap,.bool true,.bool false]) (by simp[results,results100,go_sem]) rfl ⟨q,cap,rfl,HR,hq,Ak⟩
theorem anL{K:Kind}(hK:K.BX)(l:M):F8 (FJ K l)≤l.length*65560:=by
 induction l using UN with
 |h0=>exact AZ _
 |h1 l p ih=>
  rw[uG];have e:∀ a b:List Am,F8 (a++b)=F8 a+F8 b:=fun a b=>by unfold F8;rw[D6,OQ]
  rw[e,Az,Kn];have h2:F8 [Mj K (l++[p]) (K.nm p.1)]≤65560:=by
   show 8+(K.nm p.1).length+((BS (BG K (l++[p]) (K.nm p.1))).getD []).length+0≤_
   rw[hK.len];cases hc:BS (BG K (l++[p]) (K.nm p.1)) with
   |none=>show 8+17+0+0≤_;decide
   |some d=>
    have:=bz hc
    show 8+17+d.length+0≤_
    omega
  omega
def xY(w:World)(xb:Nat)(A l:M)(i:Value)(wr:World):Prop:=
 ∃ (k:Nat) (vx:Value),k≤l.length∧i=.int .i64 (k:Int)∧Hq wr xb vx (made A (FJ Aj (l.take k))) (1099511627776:Nat)∧Fits Aj (l.take k)∧Bw w wr
theorem ayV{w:World}{r n cap:Nat}{a:Option Addr}{v:Value}{A l:M}(h:Hq w r v A (Cn n))(hu:Up A)(Cv:∀ k,Af.get A (Aj.nm k)=none)(hn:n≤16384)(hA:used A≤Cn n)(hk:Bj w a l)(hl:l.length≤20)(DX:∀ x∈l,x.1.length≤1000000)(GZ:∀ j name,Small (BG Aj (l.take j) name)):
  Calls prog 41 #[.pointer (some ⟨r,0,none⟩),.slice a l.length cap] w fun e w'=>e=.returned (.int .i64 (GH Aj n A l).1)∧∃ v',Hq w' r v' (GH Aj n A l).2 (Cn n)∧A7 (fun k=>k=r) w w':=by
 obtain⟨vq,vc,rfl⟩:=Bp h.2;have J2:=ZX hn;have HR:=Hi h;have HU:=Hi hu;have DJ:=Hi Cv;have HK:=Hi hk;have LX:=Hi DX;have SA:=Hi GZ
 have Fw:=Hi (show ∀ k,used (made A (FJ Aj (l.take k)))≤2000000 from fun k=>by
  have h1:=UR hu (FJ Aj (l.take k));have h2:=anL KW (l.take k);have h3:(l.take k).length≤20:=by rw[Be];omega
  have h4:=Nat.mul_le_mul_right 65560 h3;omega)
 have yO:w.cell? ⟨r,0,none⟩=some (.slice vq A.length vc):=cr h.1;have av8:=Ao h.1
 have YO:=Hi (show Hq (w.alloc (.cells #[.slice vq A.length vc,.int .i64 1099511627776] 174)) w.heap.size (.slice vq A.length vc) (made A (FJ Aj (l.take 0))) (1099511627776:Nat) from by
  rw[I8];exact⟨AP w _,(h.below (AV w _)).2⟩)
 have AR:=Hi (AV w (.cells #[.slice vq A.length vc,.int .i64 1099511627776] 174));clear h hu Cv hk DX GZ
 go_in
 go_wp2_with fail;have Pg:=Hi (show xY w w.heap.size A l (.int .i64 0) (w.alloc (.cells #[.slice vq A.length vc,.int .i64 1099511627776] 174)) from⟨0,.slice vq A.length vc,AZ _,rfl,YO,by rw[I8];exact zq,AR⟩);generalize w.alloc (.cells #[.slice vq A.length vc,.int .i64 1099511627776] 174)=V0 at*;clear YO AR yO
 go_loopw [6] (fun i wr=>xY w w.heap.size A l i wr) (fun i _=>l.length -(intOf i).toNat)
 case atStart=>exact Pg.out
 case round=>
  obtain⟨k,vx,hk,rfl,hx,C9,hb⟩:=hrel;have HX:=Hi hx;have L9:=Hi C9;have HB:=Hi hb;clear C9 hb Pg;by_cases hlt:k < l.length
  ·obtain⟨q,Cx,hp,-⟩:=(HK.below HB).index cap k hlt;have kH:=LX _ (Dc hlt);have CX:=Hi (CQ hlt);have Nr:=Hi (fun(hF:Fits Aj l)=>hF k hlt);obtain⟨x,kG⟩:=ex (l[k]);rw[kG] at hp kH CX Nr;have c0:=hp.key;have c1:=hp.val;have HPX:=Hi hp;have HN:=Hi (fun(W:World)=>acz x.1 W (by omega));have NP:=pO HU (K:=Aj) (l.take k) (Aj.nm x.1);rw[DJ.out] at NP;have PK:=iR HU DJ (fun p _=>rfl) L9 x.1
   have FK:=Hi (fun(W:World) (hW:Bw wr W)=>ayL (HX.below hW) (by have:=QV (made A (FJ Aj (l.take k)));have:=Fw k;omega) (Aj.nm x.1) (fun d hd=>by
    rw[NP] at hd;split at hd
    ·injection hd with hd
     rw[←hd];cases hc:BS (BG Aj (l.take k) (Aj.nm x.1)) with
     |none=>exact AZ _
     |some d=>exact Ay (bz hc) (by decide)
    ·cases hd) (fun d hd=>by
    rw[NP] at hd;rw[PK];split at hd
    ·rename_i DV
     rw[Ac DV];rfl
    ·cases hd))
   rw[agc HU DJ (fun p _=>rfl) L9 x.1] at FK;clear NP PK hp kG hx;generalize Tg:Aj.nm x.1=name at*;have M0:=Hi Tg;clear Tg;have WC:=Hi (SL (K:=Aj) (l.take k) name);have MB:=Hi (show BG Aj (l.take (k+1)) name=put x.1 x.2 (BG Aj (l.take k) name) from by rw[CX.out,NH,Ac M0.out]);have KE:=Hi (SA (k+1) name);have Oy:(BG Aj (l.take k) name).length≤20:=by
    have h1:=pU Aj (l.take k) name;rw[Be] at h1;omega
   generalize BG Aj (l.take k) name=G at*;generalize (Af.get (made A (FJ Aj (l.take k))) name).isSome=isb at*;obtain⟨xk,xv⟩:=x;simp only at*;go_wp2_with fail;refine(HN _).mono ?_;rintro e w1⟨rfl,Ai⟩;have HB1:=Hi Ai;clear Ai;go_wp2_with fail;refine(FK _ HB1).mono ?_;rintro e w2⟨q2,c2,rfl,DN,Fp,Ad⟩;have Ak:=bH HB1 Ad;have BU:=Hi (Fu DN (AZ _));clear DN Ad;have c0:w2.cell? q=some (.string (bs xk)):=(Ak.cell (D7 c0)).trans c0;have c1:w2.cell? ⟨q.block,q.off+1,none⟩=some (.string (bs xv)):=(Ak.cell (p:=⟨q.block,q.off+1,none⟩) (D7 c1)).trans c1;have HW:=Hi (azg (w:=w2) (cap:=c2) (⟨xk,xv,false⟩:Am) rfl BU WC (by omega));rw[show Am.on G (⟨xk,xv,false⟩:Am)=put xk xv G from rfl] at HW;go_wp2_with fail;refine HW.mono ?_;rintro e w3⟨v3,rfl,QF,Aw⟩;obtain⟨q3,c3,rfl,Tk,KO⟩:=Fz QF;have AA:=bH Ak Aw;have VR:=KE.out;rw[MB.out] at VR;have HD:=Hi (aym (cap:=c3) (Bj.D9 QF) (CR.QR (WC.put xk xv)) (by have:=VR.1;omega) VR.2)
   have gL:=Hi (show Fits Aj l→(BS (put xk xv G)).isSome=true from fun hF=>by
    have h1:=Nr hF
    first
    |(rw[M0.out,MB.out] at h1;exact h1)
    |(rw[MB.out] at h1;exact h1))
   have Od:=Hi (show FJ Aj (l.take (k+1))=FJ Aj (l.take k)++[⟨name,(BS (put xk xv G)).getD [],false⟩] from by
    rw[CX.out,uG,←CX.out]
    congr 1
    unfold Mj;rw[show Aj.nm ((xk,xv):T×T).1=name from M0.out,MB.out])
   have TT:=Hi (show Fits Aj (l.take (k+1))↔Fits Aj (l.take k)∧(BS (put xk xv G)).isSome=true from by
    rw[CX.out,Fits.kY,←CX.out,show Aj.nm ((xk,xv):T×T).1=name from M0.out,MB.out])
   clear QF Aw VR Tk KO Nr HW c0 c1;generalize put xk xv G=G2 at*;by_cases DK:(BS G2).isSome=true
   ·rw[Ac DK] at HD;obtain⟨d,hd⟩:=LM.1 DK;rw[hd] at HD Od;simp only[Option.getD_some] at HD Od;have MP:=bz hd;have Yn:=Hi (TT.2 ⟨L9,DK⟩);have EB:name.length=17:=by rw[←M0.out];exact KW.len _
    have Sy:=Hi (show Am.may ⟨name,d,false⟩=true from by
     have h1:=ach KW Yn (p:=(xk,xv)) (by rw[CX.out];simp);have h2:Mj Aj (l.take (k+1)) (Aj.nm ((xk,xv):T×T).1)=⟨name,d,false⟩:=by
      unfold Mj;rw[show Aj.nm ((xk,xv):T×T).1=name from M0.out,MB.out,hd];rfl
     rw[h2] at h1;exact h1)
    clear DK hd gL;go_wp2_with fail;refine HD.mono ?_;rintro e w4⟨rfl,AB⟩;have AU:=bH AA AB;have C8:=AV w4 (.cells #[.string (bs name),.string (bs d),.bool false] 57);have QB:=AP w4 (.cells #[.string (bs name),.string (bs d),.bool false] 57);have Au:=bH AU C8;have OY:=Hi (alN (most:=1099511627776) (cap:=1) (HX.below Au) (HU.made _) (yJ (c:=⟨name,d,false⟩) QB) (by omega) (by have:=Fw k;omega) (by simp) (by show 8+name.length+d.length+0≤_;omega));have jV:Wj 1099511627776 (made A (FJ Aj (l.take k))) [⟨name,d,false⟩]=made A (FJ Aj (l.take (k+1))):=by
     unfold Wj;have h1:=Fw (k+1);rw[Od.out,sJ] at h1;rw[Ac ⟨by simp[Sy.out],by omega⟩,Od.out,sJ]
    rw[jV] at OY;have CY:=HB.trans (Au.mono HB.size);have CL:=Hi CY;clear AB C8 QB jV CY;generalize YT 1099511627776 (made A (FJ Aj (l.take k))) [⟨name,d,false⟩]=cc at*;go_wp2_with fail;refine OY.mono ?_;rintro e w5⟨rfl,v5,Tx,Lx⟩;have Cz:=Hi (show xY w w.heap.size A l (.int .i64 ((k:Int)+1)) w5 from⟨k+1,v5,by omega,by go_num,Tx,Yn,Cq CL Lx (fun i e=>Nat.le_of_eq e.symm) CL.size⟩);clear Tx Lx;go_wp2;go_roundw
    case rel=>exact Cz.out
    case measure=>
     show l.length -((k:Int)+1).toNat < l.length -((k:Int)).toNat
     omega
   ·rw[Aa DK] at HD
    have Vg:=Hi (show GH Aj n A l=(5,A) from by
     unfold GH;rw[Aa (fun hF=>DK (gL hF))])
    generalize (BS G2).getD []=dd at*;clear DK gL TT;go_wp2_with fail;refine HD.mono ?_;rintro e w4⟨rfl,AB⟩;have AU:=Hi (HB.trans ((bT AA AB).mono HB.size));clear AB;go_wp2;go_ret;rw[Vg.out];exact⟨rfl,_,HR.below AU,A7.of_below AU⟩
  ·obtain rfl:k=l.length:=(by omega);have C9:=L9.out;rw[Dq] at C9 hx;have FE:=Fw l.length;rw[Dq] at FE;have Jw:=Hi (acm (A:=A) KW (n:=n) C9);rw[←anB HU.out,←l7 HU.out] at Jw;have YL:=Hi (fun(W:World) (hW:Bw wr W)=>amz (hx.below hW) (by omega));have Rl:=Hi hx;obtain⟨xq,xc,rfl⟩:=Bp hx.2;have FO:=HR.below HB.out;have c1:wr.cell? ⟨r,1,none⟩=some (.int .i64 (Cn n:Int)):=cr FO.1;clear C9 hx FO HX;generalize hF:made A (FJ Aj l)=F at*;obtain⟨U,jk⟩:=ex (used F);rw[jk] at YL Jw FE;clear hF jk;by_cases Gl:Cn n < U
   ·have Qx:(Cn n:Int) < (U:Int):=(by omega);rw[Ac Gl] at Jw;clear Gl;go_wp2
    go_region_held3 (fun V=>V.cell? ⟨r,1,none⟩=some (.int .i64 (Cn n:Int))) (go_keep)
     (first|(go_at_call 103;refine(YL _ ((Ah _ _).drew)).mono ?_;rintro e wA ⟨rfl,DU⟩;have Au:=Hi (HB.trans ((show Bw wr wA from((Ah _ wr).drew).trans DU).mono HB.size));clear DU;have cA:wA.cell? ⟨r,1,none⟩=some (.int .i64 (Cn n:Int)):=(by rw[BF _ _ _ _ _ _ (HR.below Au).1];rfl)))
    all_goals
     go_wp2;go_ret;rw[Jw.out];exact⟨rfl,_,HR.below Au,A7.of_below Au⟩
   ·have Qx:¬ (Cn n:Int) < (U:Int):=(by omega);rw[Aa Gl] at Jw;clear Gl;go_wp2
    go_region_held3 (fun V=>V.cell? ⟨r,1,none⟩=some (.int .i64 (Cn n:Int))) (go_keep)
     (first|(go_at_call 103;refine(YL _ ((Ah _ _).drew)).mono ?_;rintro e wA ⟨rfl,DU⟩;have Au:=Hi (show Bw wr wA from((Ah _ wr).drew).trans DU);clear DU;have cA:wA.cell? ⟨r,1,none⟩=some (.int .i64 (Cn n:Int)):=(by rw[BF _ _ _ _ _ _ (HR.below (bT HB Au)).1];rfl)))
    all_goals
     have CL:=bH HB Au;have FO:=HR.below CL.out;have OI:=Rl.below Au.out;have d0:wA.cell? ⟨r,0,none⟩=some (.slice vq A.length vc):=cr FO.1;have df:=Cu _ _ 0 _ _ FO.1;have x0:wA.cell? ⟨w.heap.size,0,none⟩=some (.slice xq F.length xc):=cr OI.1;have Ib:=Hi (Cr FO.1 OI.2);clear FO c1 OI;go_wp2;go_ret;rw[Jw.out];refine⟨rfl,.slice xq F.length xc,?_,(A7.of_below (F:=fun k=>k=r) CL).setCell (p:=⟨r,0,none⟩) (.inl rfl) _⟩;refine⟨Cf _ _ 0 _ _ _ Ib.1,BH Ib.2 ((A7.refl (fun k=>k=r) wA).setCell (p:=⟨r,0,none⟩) (.inl rfl) _) (fun g hg e=>?_)⟩;rw[e] at hg;exact Bf.ne (CB Ib.2 hg) ⟨_,_,Ib.1⟩ (by decide) rfl
