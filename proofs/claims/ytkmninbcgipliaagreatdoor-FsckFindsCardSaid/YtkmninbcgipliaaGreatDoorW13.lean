/- FckM ChgIn DepS -/
import Derived.Test.YtkmninbcgipliaaGreatDoorW12
set_option maxHeartbeats 16000000
set_option maxRecDepth 100000
set_option linter.all false
namespace Go.Proofs.YtkmninbcgipliaaGreatDoor
open Go.Proofs.Tryz hiding t1 t2
open Go.RowKit
namespace Aq
open Go.Maps Go.Sort Go.Shelf Go.Lib
open Aw Ah
theorem aCp{w:World}{base:Nat}{v:Value}{l:List (List UInt8)}(h:Bt w base v l)(hl:l.length≤1000000):
  Calls prog 70 #[v] w fun e w'=>(∃ x,e=.returned x)∧Bt w' base v (l.mergeSort fun x y=>decide (x≤y))∧A7 (fun k=>v.ownBlock=some k) w w':=by
 rcases h.parts with⟨rfl,rfl⟩|⟨g,cap,rfl,hg,aN,Qo,Oo⟩
 ·refine(AnyM.slices_Sort_string_none Y4 none 0 _).mono ?_;rintro e w2⟨rfl,rfl⟩;exact⟨⟨_,rfl⟩,by rw[List.mergeSort_nil];exact h,A7.refl _ _⟩
 ·have ho:=h;unfold Bt at ho;rw[ME] at ho;obtain⟨g2,cap2,e2,_,_,_,_,_,hH⟩:=holds_of_ownsRow ho (by simp);cases e2;refine(AnyM.slices_Sort_string Y4 g 0 cap l _ hH Oo (by omega)).mono ?_;rintro e w2⟨rfl,n,os,rfl⟩;have CS:(l.mergeSort fun x y=>decide (x≤y)).length=l.length:=by simp
  have Dt:=ownsRow_putRow (q:=n) ho CS (Ag _);have Kg:=BD Dt (ub (below_grow (Ai _ _) (Ag _) os)) (fun _ _ f=>f);rw[Gx (by rw[CS];omega)] at Kg;refine⟨⟨_,rfl⟩,?_,A7.of_grownBy (F:=fun k=>(Value.slice g l.length cap).ownBlock=some k) (grownBy_sorted (g:=g) _) (fun i e=>e)⟩;unfold Bt;rw[ME,CS];exact Kg
theorem atf{w:World}{base:Nat}{v:Value}{S:List (List UInt8)}(h:Bt w base v S)(hl:S.length≤1000000):
  Calls prog 71 #[v] w fun e w'=>∃ v',e=.returned v'∧Bt w' base v' (Lib.compact S)∧A7 (fun k=>v.ownBlock=some k) w w':=by
 rcases h.parts with⟨rfl,rfl⟩|⟨g,cap,rfl,hg,aN,Qo,Oo⟩
 ·refine(Any.slices_Compact_string_empty gY none 0 _).mono ?_;rintro e w2⟨rfl,rfl⟩;exact⟨_,rfl,by rw[show Lib.compact ([]:List (List UInt8))=[] by simp[Lib.compact,Lib.compactUpTo]];exact h,A7.refl _ _⟩
 ·have ho:=h;unfold Bt at ho;rw[ME] at ho;obtain⟨g2,cap2,e2,_,_,_,_,_,hH⟩:=holds_of_ownsRow ho (by simp);cases e2;have Vf:=Any.slices_Compact_string gY g 0 cap S w hH (by omega) (by omega);rw[show(vP.f 194)=71 from rfl] at Vf;refine Vf.mono ?_;rintro e w4⟨rfl,q,rfl⟩;have BQ:=compact_length_le S;have Vp:=ownsRow_putRow (q:=q) (k:=(Lib.compact S).length) ho (ys:=Lib.compact S++List.replicate (S.length -(Lib.compact S).length) []) (by simp;omega) BQ;rw[Jf rfl] at Vp;have hg4:w.grownBy (Go.Sort.putRow encStr (Sort.ahead w q) g 0 (Lib.compact S++List.replicate (S.length -(Lib.compact S).length) []).toArray) (some g):=by
   have:=grownBy_sorted (w:=w) (g:=g) (n:=q) (os:=#[]) (Lib.compact S++List.replicate (S.length -(Lib.compact S).length) []).toArray;rwa[grow_empty] at this
  refine⟨_,rfl,?_,A7.of_grownBy (F:=fun k=>(Value.slice g S.length cap).ownBlock=some k) hg4 (fun i e=>e)⟩;unfold Bt;rw[ME];exact Vp
end Aq
namespace Ew
open Go.Maps
open Aw Ah Aq Bu Kp Bz Hex BH Al Mem Ci Gr
theorem aCq(l:List T):Go.Lib.compact (l.mergeSort fun x y=>decide (x≤y))=Bi l:=rfl
def NI(l:List (Nat×T×T)):List Am:=(l.filter fun b=>b.1 == 1 || b.1 == 2).map fun b=>⟨b.2.1,[],true⟩
def IM(l:List (Nat×T×T)):List T:=(l.filter fun b=>b.1 == 3).map fun b=>b.2.1
theorem abk(l:List (Nat×T×T))(b:Nat×T×T):NI (l++[b])=NI l++if b.1=1∨b.1=2 then[⟨b.2.1,[],true⟩] else[]:=by
 unfold NI;rw[IQ,CQ]
 congr 1
 by_cases h:b.1=1∨b.1=2
 ·rw[Ae h];rcases h with h|h<;>simp[h]
 ·rw[A9 h];simp only[not_or] at h;simp[h.1,h.2]
theorem aen(l:List (Nat×T×T))(b:Nat×T×T):IM (l++[b])=IM l++if b.1=3 then[b.2.1] else[]:=by
 unfold IM;rw[IQ,CQ]
 congr 1
 by_cases h:b.1=3
 ·rw[Ae h];simp[h]
 ·rw[A9 h];simp[h]
theorem aiZ(l:List (Nat×T×T)):(NI l).length≤l.length:=by unfold NI;rw[Ca];exact LW _ _
theorem aBS(l:List (Nat×T×T)):(IM l).length≤l.length:=by unfold IM;rw[Ca];exact LW _ _
theorem SB{α:Type}(l:List α)(f:α→Nat×T×T)(p:Nat×T×T→Bool)(c:Bool)(h:∀ x,p (f x)=c):(l.map f).filter p=if c=true then l.map f else[]:=by
 cases c with
 |true=>
  rw[Ae rfl];refine List.filter_eq_self.2 fun b hb=>?_
  obtain⟨x,_,rfl⟩:=Bv.1 hb;exact h x
 |false=>
  rw[A9 (by decide)];refine List.filter_eq_nil_iff.2 fun b hb=>?_
  obtain⟨x,_,rfl⟩:=Bv.1 hb;rw[h x];decide
theorem avD(A:M):NI (LA both A)=Hm both A:=by
 unfold NI LA Hm V8;rw[IQ,IQ,IQ,SB _ _ _ true (fun _=>rfl),SB _ _ _ true (fun _=>rfl),SB _ _ _ false (fun _=>rfl),SB _ _ _ false (fun _=>rfl)];simp[Kv,Function.comp_def]
theorem aoR(A:M):IM (LA both A)=(MH both A).map (·.1):=by
 unfold IM LA;rw[IQ,IQ,IQ,SB _ _ _ false (fun _=>rfl),SB _ _ _ false (fun _=>rfl),SB _ _ _ true (fun _=>rfl),SB _ _ _ false (fun _=>rfl)];simp[Kv,Function.comp_def]
structure Pb(w:World)(L:List (Nat×T×T))(q:Option Addr)(c k n1 n2:Nat)(q1 q2:Option Addr)(c1 c2:Nat)(wr:World):Prop where
 g:wr.ownsRow w.heap.size 57 3 (.slice q1 n1 c1) n1 (M9 (NI (L.take k)))
 r:wr.ownsRow w.heap.size 9 1 (.slice q2 n2 c2) n2 (strCells (IM (L.take k)))
 b:Bw w wr
 l:Ir wr w.heap.size (.slice q L.length c) L
 e1:n1=(NI (L.take k)).length
 e2:n2=(IM (L.take k)).length
def as3(w:World)(L:List (Nat×T×T))(q:Option Addr)(c:Nat)(s1 s2 i:Value)(wr:World):Prop:=
 ∃ (k n1 n2:Nat) (q1 q2:Option Addr) (c1 c2:Nat),k≤L.length∧i= ↑(k:Int)∧s1=.slice q1 n1 c1∧s2=.slice q2 n2 c2∧Pb w L q c k n1 n2 q1 q2 c1 c2 wr
theorem iM{W W2:World}{b1 b2:Nat}{t1 t2:TypeId}{s1 s2 n1 n2:Nat}{v1 v2:Value}{cs1 cs2:List Value}(h:W.ownsRow b1 t1 s1 v1 n1 cs1)(ho:W.ownsRow b2 t2 s2 v2 n2 cs2)(hu:A7 (fun k=>v2.ownBlock=some k) W W2)(ht:t1≠t2):W2.ownsRow b1 t1 s1 v1 n1 cs1:=
 BD h hu (fun g hg f=>by
  obtain⟨x1,f1,e1⟩:=Cx h hg;obtain⟨x2,f2,e2⟩:=Cx ho f;rw[e1] at e2;injection e2 with e2
  injection e2 with _ e2
  exact ht e2)
section
variable {w wr W2 w1:World}{L:List (Nat×T×T)}{q q1 q2:Option Addr}{c k n1 n2 c1 c2:Nat}
theorem Pb.below(h:Pb w L q c k n1 n2 q1 q2 c1 c2 wr)(hb:Bw wr W2):Pb w L q c k n1 n2 q1 q2 c1 c2 W2:=
 ⟨Cc h.g hb,Cc h.r hb,h.b.trans (hb.mono h.b.size),Cc h.l hb,h.e1,h.e2⟩
theorem Pb.none(h:Pb w L q c k n1 n2 q1 q2 c1 c2 wr)(hk:k < L.length)(h1:¬ (L[k].1=1∨L[k].1=2))(h2:¬ L[k].1=3):Pb w L q c (k+1) n1 n2 q1 q2 c1 c2 wr:=by
 have e1:NI (L.take (k+1))=NI (L.take k):=by rw[Cr hk,abk,A9 h1,Eg]
 have e2:IM (L.take (k+1))=IM (L.take k):=by rw[Cr hk,aen,A9 h2,Eg]
 exact⟨by rw[e1];exact h.g,by rw[e2];exact h.r,h.b,h.l,by rw[e1];exact h.e1,by rw[e2];exact h.e2⟩
theorem Pb.gone(h:Pb w L q c k n1 n2 q1 q2 c1 c2 wr)(hk:k < L.length)(h1:L[k].1=1∨L[k].1=2){q':Option Addr}{c':Nat}(hg:wr.grownBy w1 (Value.slice q1 n1 c1).ownBlock)
  (ho:w1.ownsRow w.heap.size 57 3 (.slice q' (n1+1) c') (n1+1) (M9 (NI (L.take k))++[.string (bs L[k].2.1),.string { data:=#[] },.bool true])):Pb w L q c (k+1) (n1+1) n2 q' q2 c' c2 w1:=by
 have e1:NI (L.take (k+1))=NI (L.take k)++[⟨L[k].2.1,[],true⟩]:=by rw[Cr hk,abk,Ae h1]
 have e2:IM (L.take (k+1))=IM (L.take k):=by rw[Cr hk,aen,A9 (by omega),Eg]
 have hu:=A7.of_grownBy (F:=fun k=>(Value.slice q1 n1 c1).ownBlock=some k) hg (fun k e=>e);exact⟨by rw[e1,rH];exact ho,by rw[e2];exact iM h.r h.g hu (by decide),h.b.grown hg h.b.size (fun j hj=>DT h.g hj),iM h.l h.g hu (by decide),by rw[e1,AA,←h.e1];rfl,by rw[e2];exact h.e2⟩
theorem Pb.run(h:Pb w L q c k n1 n2 q1 q2 c1 c2 wr)(hk:k < L.length)(h1:L[k].1=3){q':Option Addr}{c':Nat}(hg:wr.grownBy w1 (Value.slice q2 n2 c2).ownBlock)
  (ho:w1.ownsRow w.heap.size 9 1 (.slice q' (n2+1) c') (n2+1) (strCells (IM (L.take k))++[.string (bs L[k].2.1)])):Pb w L q c (k+1) n1 (n2+1) q1 q' c1 c' w1:=by
 have e1:NI (L.take (k+1))=NI (L.take k):=by rw[Cr hk,abk,A9 (by omega),Eg]
 have e2:IM (L.take (k+1))=IM (L.take k)++[L[k].2.1]:=by rw[Cr hk,aen,Ae h1]
 have hu:=A7.of_grownBy (F:=fun k=>(Value.slice q2 n2 c2).ownBlock=some k) hg (fun k e=>e);exact⟨by rw[e1];exact iM h.g h.r hu (by decide),by rw[e2,show ∀ a b,strCells (a++b)=strCells a++strCells b from fun a b=>by unfold strCells;rw[CQ],show strCells [L[k].2.1]=[.string (bs L[k].2.1)] by unfold strCells;rfl];exact ho,h.b.grown hg h.b.size (fun j hj=>DT h.r hj),iM h.l h.r hu (by decide),by rw[e1];exact h.e1,by rw[e2,AA,←h.e2];rfl⟩
theorem Pb.len(h:Pb w L q c k n1 n2 q1 q2 c1 c2 wr):n1≤L.length∧n2≤L.length:=by
 have h1:=aiZ (L.take k);have h2:=aBS (L.take k);have h3:=List.length_take_le k L;have:=h.e1;have:=h.e2;have h4:(L.take k).length≤L.length:=by rw[Bc];omega
 omega
end
section
variable {fz:Bool}{w:World}{b y n N pm pd:Nat}{bl:Nat→Prop}{A:M}
def vQ(k:Nat)(c:Int):Int:=if c=0 then(k:Int) else 0
theorem ib(k:Nat):vQ k 0=(k:Int):=Ae rfl
theorem gZ(k:Nat):vQ k 40=0:=A9 (by decide)
def aa1(fz:Bool)(w:World)(b y n N:Nat)(bl:Nat→Prop)(A:M)(c:Int)(V:World):Prop:=
 A7 (I8 w bl) w V∧∃ CY:Nat→Prop,((c=0∧Gn fz V b y CY n (N+2) (Je both A))∨(fz=true∧c=40∧(jb V b y CY n (N+2) A (KZ both A)∨jb V b y CY n (N+2) (KZ both A) (Je both A))))∧∀ k,CY k→bl k∨w.heap.size≤k
def dU(fz:Bool)(w:World)(b y n N:Nat)(bl:Nat→Prop)(A:M)(V:World):Prop:=
 A7 (I8 w bl) w V∧∃ CY:Nat→Prop,Gn fz V b y CY n (N+1) (KZ both A)∧∀ k,CY k→bl k∨w.heap.size≤k
theorem dU.use{V:World}(h:dU fz w b y n N bl A V)(hd:Fj w pd y):Fj V pd y:=hd.upd h.1 (fun f=>f.not ⟨_,_,hd⟩ (by decide))
theorem avF(hu:Up A):Ff (Hm both A)≤used A:=by
 refine af5 hu ?_ fun c hc=>?_
 ·unfold Hm;rw[Kv];exact(show((V8 both A).map fun x=>x).Nodup by rw[List.map_id'];exact aiY J4 hu)
 ·unfold Hm at hc;obtain⟨x,hx,rfl⟩:=Bv.1 hc;obtain⟨d,hd⟩:=abj hu hx;exact⟨d,hd,AV _⟩
theorem avE(A:M):(Hm both A).length≤2*A.length:=by
 unfold Hm V8;rw[Ca,AA];have h1:=ek both.m A;have h2:=ek both.d A;omega
theorem azy{q:Option Addr}{cap:Nat}{W:World}(h:Gn fz w b y bl n N A)(hN:N+2 < 1000000000)(hu:used A≤100000)(hW:Bw w W)(hc:Eh W q (Hm both A)):
  Calls prog 17 #[y,.slice q (Hm both A).length cap] W fun e w'=>∃ c:Int,e=.returned (.int .i64 c)∧((c=0∧dU fz w b y n N bl A w')∨(c=40∧aa1 fz w b y n N bl A 40 w'))∧A7 (I8 W bl) W w':=by
 obtain⟨u1,u2,u3,-,-⟩:=h.up;have N9:Bz.May n A:=⟨u1,u2,u3⟩;obtain⟨g1,g2,g3,g4⟩:=abl J4 N9;have hl:=avE A;have Ij:=RV A;refine(ab4 (h.below hW) (by omega) hc (by omega) (by have:=avF u1;omega)).mono ?_;rintro e w'⟨c,rfl,CY,h1,h2,h3⟩;rw[g1,g2] at h1;have DF:A7 (I8 w bl) w w':=ani hW h2;have Ct:∀ k,CY k→bl k∨w.heap.size≤k:=fun k hk=>(h3 k hk).imp id (fun e=>Ay hW.size e)
 rcases h1 with⟨e1,e2⟩|⟨e1,e2,_,e4⟩
 ·exact⟨c,rfl,.inl ⟨e1,DF,CY,e2,Ct⟩,h2⟩
 ·exact⟨c,rfl,.inr ⟨e2,DF,CY,.inr ⟨e1,rfl,.inl (auj e4 (by omega))⟩,Ct⟩,h2⟩
theorem wu:∀ (S l:List T),S.Nodup→(∀ x∈S,x∈l)→S.length≤l.length
 |[],l,_,_=>AV _
 |x :: S,l,hn,hs=>by
  obtain⟨a,b,e⟩:=List.append_of_mem (hs x Gl);have hx:=(JV.1 hn).1
  have ih:=wu S (a++b) (JV.1 hn).2 (fun y hy=>by
   have h1:=hs y (Fs _ hy);rw[e] at h1;rcases Es.1 h1 with h|h
   ·exact UA _ h
   ·rcases Ch.1 h with h|h
    ·subst h;exact absurd hy hx
    ·exact List.mem_append_right _ h)
  rw[e];simp only[BM,AA] at ih ⊢;omega
theorem azz{q:Option Addr}{cap:Nat}{W:World}(h:Gn fz w b y bl n N A)(hN:N+2 < 1000000000)(hu:used A≤100000)(hd:Fj w pd y)(hW:dU fz w b y n N bl A W)(hk:Dz W q (MB both A)):
  Calls prog 73 #[pd,.slice q (MB both A).length cap] W fun e w'=>∃ c:Int,e=.returned (.int .i64 c)∧(c=0∨c=40)∧aa1 fz w b y n N bl A c w':=by
 obtain⟨u1,u2,u3,-,-⟩:=h.up;have N9:Bz.May n A:=⟨u1,u2,u3⟩;have FL:=(abl J4 N9).2.2.1;have Pn:=hW.use hd;obtain⟨k1,bl1,k2,k3⟩:=hW;have SN:(MB both A).length≤100000:=by
  have h1:(MB both A).length≤(Bn Aa A).length:=wu _ _ (Xm _) (fun r hr=>by
   unfold MB at hr;rw[El] at hr;obtain⟨p,hp,rfl⟩:=Bv.1 hr;exact((nN p.1 p.2).1 hp).1)
  have h2:(Wx both A).length=(EW Aa A).length:=YV (K:=Aa) u1;have h2':(Bn Aa A).length=(EW Aa A).length:=h2;have h3:=rZ (EW Aa A);have h4:=aaU Aa A;have h5:(A.map cost).sum≤100000:=by unfold used at hu;omega
  omega
 refine(auR k2 (by omega) (Ay FL hu) Pn hk SN (xg J4 u1)).mono ?_;rintro e w'⟨c,rfl,CY,h1,h2,h3⟩;have DF:A7 (I8 w bl) w w':=ank k1 h2 (fun k hk=>k3 k hk);have Ct:∀ k,CY k→bl k∨w.heap.size≤k:=fun k hk=>(h3 k hk).elim (k3 k) (fun e=>.inr (Ay k1.size e))
 rcases h1 with⟨e1,e2⟩|⟨e1,e2,_,e4⟩
 ·exact⟨c,rfl,.inl e1,DF,CY,.inl ⟨e1,e2⟩,Ct⟩
 ·exact⟨c,rfl,.inr e2,DF,CY,.inr ⟨e1,e2,.inr e4⟩,Ct⟩
theorem azD(hm:Gq w pm y):Calls prog 72 #[pm] w fun e w'=>e=.returned (.pointer y)∧w=w':=by
 have c0:=hm.cell;clear hm
 go_in
 go_wp2;go_ret;exact⟨rfl,rfl⟩
theorem auS(h:Gn fz w b y bl n N A)(hN:N+2 < 1000000000)(hu:used A≤100000)(hm:Gq w pm y)(hd:Fj w pd y):
  Calls prog 20 #[pm,pd] w fun e w'=>∃ c:Int,e=.returned (.tuple #[.int .i64 (vQ (Hm both A).length c),.int .i64 (vQ (MB both A).length c),.int .i64 c])∧(c=0∨c=40)∧aa1 fz w b y n N bl A c w':=by
 obtain⟨i0,Bh,AY,AZ,Bb⟩:=Dy rJ;obtain⟨j0,hj0,gU,Mr,bB⟩:=Dy Tk;have Fx:=Hi (adR hm hd (sG h) (sD hu));have Ct:=aan (sG h) (sD hu);have yQ:=Hi (avD A);have HRP:=Hi (aoR A);have Nu:=Hi (show Hm both A=[]→KZ both A=A from fun e=>by unfold KZ;rw[e];rfl);have QM:=Hi (fun(W:World) (q:Option Addr) (cap:Nat) (hW:Bw w W) (hc:Eh W q (Hm both A))=>azy (cap:=cap) h hN hu hW hc);have jq:=Hi (fun(W:World) (q:Option Addr) (cap:Nat) (hW:dU fz w b y n N bl A W) (hk:Dz W q (MB both A))=>azz (cap:=cap) h hN hu hd hW hk);have HMI:=Hi (fun(W:World) (hW:Bw w W) (e:Hm both A=[])=>show dU fz w b y n N bl A W from⟨A7.of_below hW,bl,by rw[Nu e];exact(h.below hW).more (Nat.le_succ _),fun k hk=>.inl hk⟩);have HF:=Hi (fun(W:World) (hW:Bw w W)=>azD (hm.below hW));have Q9:=Hi (show(IM (LA both A)).length≤1000000 from by rw[aoR,Ca];exact af3 (sG h).up (sD hu));have yP:=Hi (show(Hm both A).length≤4000000 from by rw[←yQ.out];exact Ay (aiZ _) Ct);clear h hm hd hu;obtain⟨L,hL⟩:=ex (LA both A);rw[hL] at Fx yQ HRP Q9 Ct;clear hL;generalize Hm both A=G at*
 go_in
 go_wp2_with fail;refine Fx.mono ?_;rintro e w1⟨v,rfl,Af,Ak⟩;obtain⟨q,c,rfl⟩:=Bp Af;have Fy:=Hi Af;have HB1:=Hi Ak;clear Af Ak Fx;go_wp2
 go_loopw [8,9,25] (fun s1 s2 i wr=>as3 w L q c s1 s2 i wr) (fun _ _ i _=>L.length -(intOf i).toNat)
 case atStart=>exact⟨0,0,0,none,none,0,0,AV _,rfl,rfl,rfl,⟨by rw[Gm,show NI []=[] from rfl,rG];exact DZ _ _ _ _,by rw[Gm,show IM []=[] from rfl,RS];exact DZ _ _ _ _,HB1,Fy,rfl,rfl⟩⟩
 case round=>
  obtain⟨k,n1,n2,q1,q2,c1,c2,hk,rfl,rfl,rfl,hat⟩:=hrel;have Jg:=Hi hat;obtain⟨EB,GJ⟩:=hat.len;by_cases hlt:k < L.length
  ·obtain⟨a,Cn,BO,-⟩:=(IW.CR hat.l).index c k hlt;obtain⟨d0,d1,d2⟩:=BO.cells;have DU:=Hi (fun(V:World) (hV:Bw wr V) h1 h2=>(hat.below hV).none hlt h1 h2);have HGO:=Hi (fun(V w1:World) (q':Option Addr) (c':Nat) (hV:Bw wr V) h1 hg ho=>(hat.below hV).gone (w1:=w1) (q':=q') (c':=c') hlt h1 hg ho);have dK:=Hi (fun(V w1:World) (q':Option Addr) (c':Nat) (hV:Bw wr V) h1 hg ho=>(hat.below hV).run (w1:=w1) (q':=q') (c':=c') hlt h1 hg ho);generalize L[k]=br at*;obtain⟨kd,who,key⟩:=br;dsimp only at*;have JG:=AQ wr (.cells #[.int .u8 (kd:Int),who,key] 23);have pK:=Hi (hat.below JG);have ER:=Hi JG;have DR:=Hi (Az wr (.cells #[.int .u8 (kd:Int),who,key] 23));clear hat BO JG;by_cases hA:kd=1∨kd=2
   ·have HAA:=Hi hA;by_cases h1:kd=1
    case' pos=>have F8:((kd:Int) == 1)=true:=beq_iff_eq.2 (by omega)
    case' neg=>
     have F8:((kd:Int) == 1)=false:=Ev.2 (by omega);have J8:((kd:Int) == 2)=true:=beq_iff_eq.2 (by omega)
    all_goals
     clear hA h1;go_wp2_with (at_builtin;refine wpList_append_own_at _ rfl _ _ 32 rfl w.heap.size 57 i0 _ 3 40 underlying32 Bh AY AZ Bb rfl (by decide) _ n1 _ rfl (pK.g.alloc _) ⟨wr.heap.size+1,0,none⟩ 1 1 [.string (bs who),.string { data:=#[] },.bool true] rfl rfl (by intro j u hj;rw[add_plain,←DR.out,E5];exact(Dx▸hj)) (by simp[Value.oneCell']) (by unfold maxLen;omega) (by omega) (by have:=pK.b.size;rw[Az];omega) ?_;intro v' w5 hown AJ _ _;obtain⟨g',cap',rfl⟩:=ownsRow_succ hown;have CJ:=Hi (HGO _ w5 (some ⟨g',0,none⟩) cap' (ER.trans ((AQ _ _).mono ER.size)) HAA AJ hown);clear hown AJ);go_roundw
     case rel=>exact⟨k+1,n1+1,n2,_,_,_,_,by omega,by go_num,rfl,rfl,CJ⟩
     case measure=>
      show L.length -((k:Int)+1).toNat < L.length -((k:Int)).toNat
      omega
   ·have HAA:=Hi hA;have F8:((kd:Int) == 1)=false:=Ev.2 (by omega);have J8:((kd:Int) == 2)=false:=Ev.2 (by omega);by_cases h3:kd=3
    ·have Vj:((kd:Int) == 3)=true:=beq_iff_eq.2 (by omega);have H3:=Hi h3;clear hA h3;go_wp2_with (at_builtin;refine wpList_append_own_at _ rfl _ _ 61 rfl w.heap.size 9 j0 _ 1 16 underlying61 hj0 gU Mr bB rfl (by decide) _ n2 _ rfl (pK.r.alloc _) ⟨wr.heap.size+1,0,none⟩ 1 1 [.string (bs who)] rfl rfl (by intro j u hj;rw[add_plain,←DR.out,E5];exact(Dx▸hj)) (by simp[Value.oneCell']) (by unfold maxLen;omega) (by omega) (by have:=pK.b.size;rw[Az];omega) ?_;intro v' w5 hown AJ _ _;obtain⟨g',cap',rfl⟩:=ownsRow_succ hown;have CJ:=Hi (dK _ w5 (some ⟨g',0,none⟩) cap' (ER.trans ((AQ _ _).mono ER.size)) H3 AJ hown);clear hown AJ);go_roundw
     case rel=>exact⟨k+1,n1,n2+1,_,_,_,_,by omega,by go_num,rfl,rfl,CJ⟩
     case measure=>
      show L.length -((k:Int)+1).toNat < L.length -((k:Int)).toNat
      omega
    ·have Vj:((kd:Int) == 3)=false:=Ev.2 (by omega);have CJ:=Hi (DU _ ER hA h3);clear hA h3;go_wp2;go_roundw
     case rel=>exact⟨k+1,n1,n2,_,_,_,_,by omega,by go_num,rfl,rfl,CJ⟩
     case measure=>
      show L.length -((k:Int)+1).toNat < L.length -((k:Int)).toNat
      omega
  ·obtain rfl:k=L.length:=(by omega);have hg:=hat.g;have hr:=hat.r;have he1:=hat.e1;have he2:=hat.e2;rw[D5] at hg hr he1 he2;rw[yQ.out] at hg he1;subst he1 he2;have HB:=Hi hat.b;have HG:=Hi hg;have Ey:=Hi (show Aq.Bt wr w.heap.size (.slice q2 (IM L).length c2) (IM L) from hr);have QW:=Hi (aCp Ey Q9);have HWE:=Hi (show Bi (IM L)=MB both A from by unfold MB;rw[HRP.out]);have EA:((IM L).mergeSort fun x y=>decide (x≤y)).length=(IM L).length:=(by simp);have OZ:=Hi (aCq (IM L));obtain⟨S,hS⟩:∃ S,((IM L).mergeSort fun x y=>decide (x≤y))=S:=⟨_,rfl⟩;rw[hS] at QW OZ EA;have O7:=Hi EA;obtain⟨rn,WU⟩:=ex ((IM L).length);have arX:=Hi (show S.length≤1000000 from by rw[EA];exact Q9.out);rw[WU] at QW Ey;simp only[WU];clear hg hr hat Jg hS EA WU EB GJ;go_wp2_with fail;refine QW.mono ?_;rintro e w3⟨⟨x3,rfl⟩,hr3,Du⟩;have Au:=Hi (Cz HB Du (fun k e=>DT Ey e) HB.size);have Hg:=Hi (iM HG Ey Du (by decide));have dw:=Hi (atf hr3 arX);rw[OZ.out,HWE.out] at dw;have Ny:=Hi hr3;clear hr3 Du QW;go_wp2_with fail;refine dw.mono ?_;rintro e w4⟨v4,rfl,Ii,Nc⟩;obtain⟨q4,c4,rfl⟩:=Bp Ii;have AX:=Hi (Cz Au Nc (fun k e=>DT Ny e) Au.size);have IY:=Hi (iM Hg Ny Nc (by decide));have M6:=Hi Ii;clear Ii Nc dw;by_cases Px:G=[]
   ·have GI:¬ (0:Int) < (G.length:Int):=(by rw[Px];simp);have HD:=Hi (jq w4 q4 c4 (HMI w4 AX Px) (Hd M6));clear Px;go_wp2_with fail;refine HD.mono ?_;rintro e w6⟨cd,rfl,SY,hend⟩;have HE:=Hi hend;clear hend;rcases SY with rfl|rfl
    ·go_wp2;go_ret3;exact⟨0,by rw[ib,ib];rfl,.inl rfl,HE.out⟩
    ·go_wp2;go_ret3;exact⟨40,by rw[gZ,gZ];rfl,.inr rfl,HE.out⟩
   ·have GI:(0:Int) < (G.length:Int):=(by have:=List.length_pos_iff.2 Px;omega);clear Px;go_wp2_with fail;refine(HF w4 AX).mono ?_;rintro e w5⟨rfl,rfl⟩;have HC:=Hi (QM w4 q1 c1 AX (Eh.CR IY));go_wp2_with fail;refine HC.mono ?_;rintro e w5⟨cc,rfl,SY,Mm⟩;have Lm:=Hi (BD M6 Mm (fun k hk f=>f.not (Cx M6 hk) (by decide)));clear Mm;rcases SY with⟨rfl,al9⟩|⟨rfl,hend⟩
    ·have HD:=Hi (jq w5 q4 c4 al9 (Hd Lm));clear al9;go_wp2_with fail;refine HD.mono ?_;rintro e w6⟨cd,rfl,SY,hend⟩;have HE:=Hi hend;clear hend;rcases SY with rfl|rfl
     ·go_wp2;go_ret3;exact⟨0,by rw[ib,ib];rfl,.inl rfl,HE.out⟩
     ·go_wp2;go_ret3;exact⟨40,by rw[gZ,gZ];rfl,.inr rfl,HE.out⟩
    ·have HE:=Hi hend;clear hend;go_wp2;go_ret3;exact⟨40,by rw[gZ,gZ];rfl,.inr rfl,HE.out⟩
end
end Ew
section
open Go.WideShapes Go.ChangeShapes Go.Deep
open Ah
theorem at1{H:Type}{enc:TypeId×Value→H}{W:World}{base:Nat}{sp:Nat→Bool}{hd:Bool}{n:Nat}{cs:List Value}{y:DataW H×List MemPlace}(q:Addr)
  (hc:W.cells? base q 3=some cs)(h:DataW.trod enc prog W base sp hd n 57 cs=some y)(hz:∀ n∈DataW.weights prog 57 y.1,n≤reachBytes):
  ∃ x:Am,Sb W q x∧x.name.length≤reachBytes∧x.data.length≤reachBytes:=by
 obtain⟨_,hl,hat⟩:=World.cells?_some hc;obtain⟨xs,n',_,rfl,_,Gv,hf⟩:=DataW.trod_struct underlying57 h;have o2:prog.cellsOf 9=1:=by kernel_rfl
 have o3:prog.cellsOf 4=1:=by kernel_rfl
 have am9:xs.length=3:=Gv;have g0:DataW.trod enc prog W base sp hd n' 9 ((cs.drop 0).take (prog.cellsOf 9))=xs[0]? :=hf 0 _ rfl;have g1:DataW.trod enc prog W base sp hd n' 9 ((cs.drop 1).take (prog.cellsOf 9))=xs[1]? :=hf 1 _ rfl;have g2:DataW.trod enc prog W base sp hd n' 4 ((cs.drop 2).take (prog.cellsOf 4))=xs[2]? :=hf 2 _ rfl;rw[o2,Xh hl _ (by omega),CZ (by omega)] at g0 g1;rw[o3,Xh hl _ (by omega),CZ (by omega)] at g2;obtain⟨v0,e0,y0,_⟩:=DataW.trod_string underlying9 g0;obtain⟨v1,e1,y1,_⟩:=DataW.trod_string underlying9 g1;obtain⟨v2,e2,_⟩:=DataW.trod_bool underlying4 g2;have cell:∀ j (hj:j < 3) v,[cs[j]'(by omega)]=[v]→W.cell? (q.add j)=some v:=fun j hj v e=>by
  rw[hat j hj,CZ (by omega)];simpa using e
 refine⟨⟨v0.data.toList,v1.data.toList,v2⟩,⟨cell 0 (by omega) _ e0,cell 1 (by omega) _ e1,cell 2 (by omega) _ e2⟩,?_,?_⟩
 ·refine hz _ ?_;simp only[DataW.weights,underlying57];refine DataW.weights_mem_each (j:=0) (t:=9) (d:=.lit (.string v0.data.toList)) rfl ?_ _ (by simp[DataW.weights]);rw[JS,CZ (by omega),y0];rfl
 ·refine hz _ ?_;simp only[DataW.weights,underlying57];refine DataW.weights_mem_each (j:=1) (t:=9) (d:=.lit (.string v1.data.toList)) rfl ?_ _ (by simp[DataW.weights]);rw[JS,CZ (by omega),y1];rfl
end
section
open Go.Maps
open Ah
end
namespace Aq
open Go.Maps Go.Sort Go.Shelf Go.Lib
open Aw Ah
theorem kK(w:World)(p:Option Addr)(n c:Nat):(binOp .eql 61 (.slice p n c) ↑()).run prog w=.ok ↑p.isNone w:=by
 have h:∀ d,(Op.equalIn (d+1) 61 (.slice p n c) ↑()).run prog w=.ok p.isNone w:=fun d=>by
  cases p<;>simp[Op.equalIn,He underlying61]
 simp only[binOp];simp[show Op.equal 61 (.slice p n c) ↑()=Op.equalIn (9999+1) 61 (.slice p n c) ↑() from rfl,h 9999]
theorem aaS(w:World):(w.alloc (.cells #[] 9)).ownsRow w.heap.size 9 1 (.slice w.heap.size 0 0) 0 []:=
 ⟨by rfl,.inr ⟨w.heap.size,0,#[],rfl,Ag _,AU w _,Ag _,AV _,rfl,by rfl⟩⟩
theorem aD2{w:World}{q:Option Addr}{cap:Nat}{l:List T}(h:Dz w q l)(hq:q=none→cap=0)(hl:l.length≤1000000):
  Calls prog 149 #[.slice q l.length cap] w fun e w'=>∃ v',e=.returned v'∧Bt w' w.heap.size v' l∧(v'= ↑()→l=[])∧Bw w w':=by
 obtain⟨i0,Bh,AY,AZ,Bb⟩:=Dy Tk;cases q with
 |none=>
  obtain rfl:cap=0:=hq rfl;have N8:l=[]:=by
   cases l with
   |nil=>rfl
   |cons x l=>obtain⟨p,e,_⟩:=h 0 (by simp);cases e
  subst N8;have aV:=fun w=>kK w none 0 0
  clear h
  go_in
  go_wp2;go_ret;exact⟨_,rfl,by unfold Bt;rw[ME];exact DZ _ _ _ _,by first|exact⟨fun _=>rfl,Ai _ _⟩|exact Ai _ _⟩
 |some p=>
  have HH:=Hi (h.below (AQ w (.cells #[] 9)));have aV:=fun w=>kK w (some p) l.length cap
  clear h hq
  go_in
  go_wp2_with (at_builtin;refine wpList_append_own_at _ rfl _ _ 61 rfl w.heap.size 9 i0 _ 1 16 underlying61 Bh AY AZ Bb rfl (by decide) _ 0 [] rfl (aaS w) p l.length cap (strCells l) rfl (by rw[strCells_length,Nat.mul_one]) (fun j u hj=>by
   have J7:j < l.length:=by
    have:=(Uy.1 hj).1;rwa[strCells_length] at this
   rw[Zb l j J7] at hj;obtain⟨p2,hp,hc⟩:=HH j J7;cases hp;rw[hc,←hj]) (aeA _) (by unfold maxLen;omega) (by omega) (by rw[Az];omega) ?_;intro v' w1 hown AJ hne hat)
  go_ret;refine⟨v',rfl,by unfold Bt;rw[GQ,EE] at hown;exact hown,fun e=>?_,(AQ w _).grown AJ (by rw[Az];omega) (fun k e=>?_)⟩
  ·rw[GQ] at hown;rcases hown.2 with⟨e1,e2⟩|⟨g,c2,cur,e1,_⟩
   ·exact Ku.1 e2
   ·rw[e] at e1;injection e1 with e1;cases e1
  ·have e':some w.heap.size=some k:=e;have:=GR e';omega
theorem atN{w:World}{q0:Option Addr}{c0:Nat}{l:List (List UInt8)}(h:Dz w q0 l)(hq0:q0=none→c0=0)(hl:l.length≤1000000):
  Calls prog 106 #[.slice q0 l.length c0] w fun e w'=>∃ v',e=.returned v'∧Bt w' w.heap.size v' (Bi l)∧Bw w w':=by
 have HC:=Hi (aD2 h hq0 hl);clear h hq0
 go_in
 go_wp2_with fail;refine HC.mono ?_;rintro e w1⟨v1,rfl,DW,EB,Ak⟩;rcases DW.parts with⟨rfl,rfl⟩|⟨g,cap,rfl,hg,aN,Qo,Oo⟩
 ·have HB1:=Hi Ak;clear DW EB Ak;go_wp2_with fail;refine(AnyM.slices_Sort_string_none Y4 none 0 _).mono ?_;rintro e w2⟨rfl,rfl⟩;go_wp2_with fail;refine(Any.slices_Compact_string_empty gY none 0 _).mono ?_;rintro e w3⟨rfl,rfl⟩;go_wp2;go_ret;exact⟨_,rfl,by unfold Bt;rw[show Bi []=[] by simp[Bi,Lib.compact,Lib.compactUpTo],ME];exact DZ _ _ _ _,HB1⟩
 ·have Ua:=DW;unfold Bt at Ua;rw[ME] at Ua;obtain⟨g2,cap2,e2,_,_,_,_,_,hH⟩:=holds_of_ownsRow Ua (by simp);cases e2;have Dc:=Hi Ua;have HB1:=Hi Ak;have HH:=Hi hH;clear DW Ua EB Ak hH;go_wp2_with fail;refine(AnyM.slices_Sort_string Y4 g 0 cap l _ HH Oo (by omega)).mono ?_;rintro e w2⟨rfl,n,os,rfl⟩;have CS:(l.mergeSort fun x y=>decide (x≤y)).length=l.length:=by simp
  have Dt:=ownsRow_putRow (q:=n) Dc CS (Ag _);have Ac:=below_putRow (q:=n) (enc:=encStr) (d:=(l.mergeSort fun x y=>decide (x≤y)).toArray) HB1 hg;have Kg:=BD Dt (ub (below_grow (Ai _ _) (Ag _) os)) (fun _ _ f=>f);have Av:=below_grow Ac Ac.size os;clear Dt Ac;rw[Gx (by rw[CS];omega)] at Kg;obtain⟨S,Oi⟩:∃ S,(l.mergeSort fun x y=>decide (x≤y))=S:=⟨_,rfl⟩;have hR:Hid (Bi l=Lib.compact S):=Hi (by unfold Bi;rw[Oi]);rw[Oi] at Kg Av CS ⊢;generalize Go.Sort.grow (Go.Sort.putRow encStr (Sort.ahead w1 n) g 0 S.toArray) os=w3 at*;obtain⟨g3,rC,e3,_,_,_,_,_,ae⟩:=holds_of_ownsRow Kg (by simp);cases e3;have Vf:=Any.slices_Compact_string gY g 0 cap S w3 ae (by omega) (by omega);rw[←CS] at Kg;rw[show(vP.f 194)=71 from rfl,CS] at Vf;have yF:=Hi Vf;have OX:=Hi Kg;have Au:=Hi Av;have HH3:=Hi ae;clear Kg Av ae Vf;go_wp2_with fail;refine yF.mono ?_;rintro e w4⟨rfl,q,rfl⟩;rw[←CS];have BQ:=compact_length_le S;have Vp:=ownsRow_putRow (q:=q) (k:=(Lib.compact S).length) OX (ys:=Lib.compact S++List.replicate (S.length -(Lib.compact S).length) []) (by simp;omega) BQ;have AB:=below_putRow (q:=q) (enc:=encStr) (d:=(Lib.compact S++List.replicate (S.length -(Lib.compact S).length) []).toArray) Au hg;rw[Jf rfl] at Vp;generalize Go.Sort.putRow encStr (Sort.ahead w3 q) g 0 (Lib.compact S++List.replicate (S.length -(Lib.compact S).length) []).toArray=w4 at*;have zl:=Hi Vp;have AX:=Hi AB;clear Vp AB;go_wp2;go_ret;refine⟨_,rfl,?_,AX⟩;unfold Bt;rw[hR.out,ME];exact zl.out
end Aq
section
open Go.Maps Aw
theorem aeH:∀ {l:List (List UInt8)} {S:List UInt8},BL l=some S→S.length≤l.length*65537
 |[],S,h=>by
  simp only[BL,Cu] at h;subst h;exact Ag _
 |x :: l,S,h=>by
  simp only[BL] at h;cases h1:Er x with
  |none=>rw[h1] at h;cases h
  |some y=>
   cases h4:BL l with
   |none=>rw[h1,h4] at h;cases h
   |some z=>
    rw[h1,h4] at h;simp only[CU,EZ,Cu] at h;subst h;have:=aeH h4;unfold Er at h1;split at h1
    ·simp only[Cu] at h1;subst h1;have Ho:(Ab.le 2 x.length).length=2:=Ab.Cb _ _;simp only[AA,BM,Ho];omega
    ·cases h1
theorem aAf(l:List (List UInt8))(a:Option Addr)(cap:Nat)(w:World)(hl:Dz w a l)(hlen:l.length≤maxLen)(Ez:l.length≤10000):
  Calls prog 105 #[.slice a l.length cap] w (Rt w (.tuple #[(Dg l).1,.int .i64 (Dg l).2])):=by
 unfold maxLen at hlen;by_cases abU:65535 < l.length
 ·have hR:Hid (Dg l=([],5)):=Hi (by unfold Dg GM;rw[A9 (by omega)]);rw[hR.out];clear hl
  go_in
  go_wp2_with fail;all_goals
   go_ret2;exact⟨rfl,Ai _ _⟩
 ·have HL:=Hi hl;have Be:Bw w (w.alloc (.cells #[.pointer none,()] 210)):=(Ai _ w).alloc (Ag _) _;have AP:=Hi Be;have Dl:=Hi (Et.made w);clear hl Be
  go_in
  go_wp2_with fail;refine(kG l.length 2 _ (by decide)).mono ?_;rintro e w1⟨rfl,hb⟩;have FJ:=Dl.upd (ub hb) (fun _ _ f=>f);have QK:=Hi FJ;have HB1:=Hi (AP.trans (hb.mono (by rw[Az];omega)));clear hb FJ;go_wp2_with fail;refine(XZ QK (Ab.le 2 l.length) (by simp[Ab.Cb])).mono ?_;rintro e w2⟨rfl,fp2,h1,h2,h3⟩;rw[EE] at h1;have GH:∀ q,fp2 q→w.heap.size≤q:=fun q hq=>by
   rcases h3 q hq with h|h
   ·rcases h with h|h
    ·omega
    ·simp[Value.ownBlock] at h
   ·have:=HB1.size;omega
  have Aj:=Hi (Cz HB1 h2 (fun i hi=>by rcases hi with h|h;omega;simp[Value.ownBlock] at h) HB1.size);have PQ:=Hi h1;have Fw:=Hi GH;clear h1 h2 h3 GH;go_wp2
  go_loopw [19] (fun i wr=>∃ (k:Nat) (S:List UInt8) (fp:Nat→Prop),k≤l.length∧i=.int .i64 k∧BL (l.take k)=some S∧Et wr w.heap.size (Ab.le 2 l.length++S) fp∧(∀ q,fp q→w.heap.size≤q)∧Bw w wr) (fun i _=>l.length -(intOf i).toNat)
  case atStart=>exact⟨0,[],fp2,by omega,rfl,rfl,by rw[Eg];exact PQ.out,Fw,Aj⟩
  case round=>
   clear Dl QK PQ AP HB1 Aj Fw;obtain⟨k,S,fp,hk,rfl,hS,FJ,GH,hb⟩:=hrel;have HS:=Hi hS;have Dl:=Hi FJ;have Fw:=Hi GH;have HB:=Hi hb;clear hS FJ GH hb;by_cases hlt:k < l.length
   ·obtain⟨q,II,hq⟩:=(HL.below HB).index cap k hlt;have Ho:=aeH HS.out;rw[Bc] at Ho;have Lr:=Hi (aeI hlt HS);by_cases Pj:65535 < l[k].length
    ·have hR:Hid (Dg l=([],5)):=Hi (by unfold Dg GM;rw[Ae (by omega),xI hlt Pj];rfl);clear Ho;generalize l[k]=x at*;go_wp2_with fail;refine(adU x _ Pj).mono ?_;rintro e w3⟨rfl,rfl⟩;go_wp2;go_ret2;rw[hR.out];exact⟨rfl,HB⟩
    ·have Gv:l[k].length≤65535:=(by omega);have hle:S.length+l[k].length≤1000000000:=(by have:=PN 65537 (show min k l.length≤10000 by omega);omega);clear Ho Pj;generalize l[k]=x at*;go_wp2_with fail;refine(adV x _ Gv).mono ?_;rintro e w3⟨rfl,Av⟩;have UC:=Hi (Dl.upd (ub Av) (fun _ _ f=>f));have Au:=bH HB Av;clear Av hq;go_wp2_with fail;refine(XZ UC (Ab.le 2 x.length++x) (by simp[Ab.Cb];omega)).mono ?_;rintro e w4⟨rfl,Qi,h1,h2,h3⟩;have yw:=Hi h1
     have yM:=Hi (show ∀ q,Qi q→w.heap.size≤q from fun q hq=>by
      rcases h3 q hq with h|h
      ·exact Fw q h
      ·exact Ay Au.size h)
     have AX:=Hi (Cz Au h2 Fw Au.size);clear h1 h2 h3;go_wp2;go_roundw
     case rel=>exact⟨k+1,S++(Ab.le 2 x.length++x),Qi,by omega,by go_num,by rw[Lr.out];unfold Er;rw[Ae Gv];rfl,by rw[←DJ];exact yw.out,yM.out,AX.out⟩
     case measure=>simp[intOf];omega
   ·obtain rfl:k=l.length:=(by omega);go_wp2_with fail;refine(XY Dl).mono ?_;rintro e w3⟨rfl,hu⟩;have Au:=Hi (Cz HB hu Fw HB.size)
    have hR:Hid (Dg l=(Ab.le 2 l.length++S,0)):=Hi (by
     have h:=HS.out;rw[D5] at h;unfold Dg GM;rw[Ae (by omega),h];rfl)
    clear hu;go_wp2;go_ret2;rw[hR.out];exact⟨rfl,Au⟩
end
namespace Ci
open Go.Maps
open Aw Ah Aq Bu Kp Bz Hex BH Al Mem
structure ZR(w:World)(q:Addr)(u:T×List T):Prop where
 run:w.cell? q=some ↑u.1
 keys:∃ kq kc,w.cell? ⟨q.block,q.off+1,none⟩=some (.slice kq u.2.length kc)∧Dz w kq u.2∧(kq=none→kc=0)
def NF(w:World)(a:Option Addr)(l:Us):Prop:=∀ i,(h:i < l.length)→∃ p:Addr,a=some p∧ZR w (p.add (i*2)) l[i]
theorem aDF:(prog.info? 63).map (fun i=>(i.zero,i.size,i.bytes))=some (some (.agg #[.string ByteArray.empty,()]),2,40):=by kernel_rfl
section
variable {w w':World}{a:Option Addr}{l:Us}
theorem ZR.below{q:Addr}{u:T×List T}(h:ZR w q u)(hb:Bw w w'):ZR w' q u:=by
 obtain⟨kq,kc,h1,h2,h3⟩:=h.keys;have hlt:=Cv h.run;exact⟨(hb.cell hlt).trans h.run,kq,kc,(hb.cell (p:=⟨q.block,q.off+1,none⟩) hlt).trans h1,h2.below hb,h3⟩
theorem NF.below(h:NF w a l)(hb:Bw w w'):NF w' a l:=fun i hi=>by
 obtain⟨p,e,hp⟩:=h i hi;exact⟨p,e,hp.below hb⟩
theorem NF.index(h:NF w a l)(cap k:Nat)(hk:k < l.length):
  ∃ q:Addr,(∀ W,(Instr.indexAt 31 (.slice a l.length cap) ↑(k:Int)).run prog W=.ok (.pointer (some q)) W)∧ZR w q l[k]:=by
 obtain⟨p,rfl,hp⟩:=h k hk;exact⟨_,fun W=>Hy prog _ 63 underlying31 2 (by kernel_rfl) p l.length cap k hk W,hp⟩
end
theorem aAO{K:Kind}{lt:M}{L:List (T×M)}(h:Kp.EU K lt L){p:T×T}{l:M}(hl:l=BN K (lt++[p]) (K.nm p.1)):Kp.EU K (lt++[p]) (Ci.putRow L (K.nm p.1) l):=by
 unfold Ci.putRow;refine⟨JV.2 ⟨fun hm=>?_,List.Sublist.nodup (List.Sublist.map (fun x:T×M=>x.1) (List.filter_sublist (p:=fun x:T×M=>!(x.1 == K.nm p.1)) (l:=L))) h.nodup⟩,fun t=>?_,fun x hx=>?_⟩
 ·obtain⟨x,hx,e⟩:=Bv.1 hm;have:=(G9.1 hx).2;simp[e] at this
 ·rw[Ce,Ch,CQ,Es,List.map_singleton,Fu];constructor
  ·rintro(e|e)
   ·exact .inr e
   ·obtain⟨x,hx,e2⟩:=Bv.1 e;exact .inl ((h.names t).1 (by rw[←e2];exact I6 (G9.1 hx).1))
  ·rintro(e|e)
   ·by_cases ht:t=K.nm p.1
    ·exact .inl ht
    ·obtain⟨x,hx,e2⟩:=Bv.1 ((h.names t).2 e);refine .inr (Bv.2 ⟨x,G9.2 ⟨hx,?_⟩,e2⟩);have e2:x.1=t:=e2;simp[e2,ht]
   ·exact .inl e
 ·rcases Ch.1 hx with rfl|hx
  ·exact hl
  ·obtain⟨h1,h2⟩:=G9.1 hx;have h2:x.1≠K.nm p.1:=(by simpa using h2);rw[Oh,A9 (fun e=>h2 e.symm)];exact h.rows x h1
theorem aCb{V:World}{o pb:Nat}{q:Option Addr}{c:Nat}{l:M}{pr:T×T}(ho:V.heap[o]?=some (.cells #[.slice q l.length c,.slice pb 1 1] 30))(hp:V.heap[pb]?=some (.cells #[pr.1,pr.2] 51))(hr:Bg V q l)(hq:q=none→c=0)(hc:l.length≤c)(hl:l.length≤1000):
  Calls prog 97 #[.slice o 2 2] V fun e w'=>∃ q' c',e=.returned (.slice q' (LP [l,[pr]]).length c')∧BK w' V.heap.size (.slice q' (LP [l,[pr]]).length c') (LP [l,[pr]])∧Bw V w':=by
 have acR:aa8 V (some ⟨o,0,none⟩) [l,[pr]]:=by
  intro i hi;have Jn:i < 2:=hi;refine⟨_,rfl,?_⟩;rw[add_plain]
  match i,Jn with
  |0,_=>exact⟨q,c,cr ho,hr,hq,hc⟩
  |1,_=>
   refine⟨some ⟨pb,0,none⟩,1,cr ho,?_,(fun e=>by cases e),Ag _⟩;intro j hj;obtain rfl:j=0:=(by simpa using hj);refine⟨_,rfl,?_,?_⟩
   ·rw[add_plain,BJ _ _ _ _ _ _ hp];rfl
   ·rw[add_plain]
    show V.cell? ⟨pb,0+0*2+1,none⟩=_
    rw[BJ _ _ _ _ _ _ hp];rfl
 refine(an6 (cap:=2) acR (by simp;omega) (by simp)).mono ?_;rintro e w'⟨v,rfl,h1,h2,h3⟩;obtain⟨q',c',rfl,-,-⟩:=FQ h1;exact⟨q',c',rfl,aoD h1 h3,h2⟩
def aa9(w:World)(m:Nat)(l:Us)(i:Value)(wr:World):Prop:=
 ∃ (k:Nat) (L:List (T×M)) (g:T→Value),k≤l.length∧i= ↑(k:Int)∧GA wr w.heap.size m L g∧Kp.EU Aa (BG (l.take k)) L∧Bw w wr∧Fits Aa (BG (l.take k))∧ND (l.take k)
theorem atT{w:World}{p y:Nat}{A:M}{q:Option Addr}{cap:Nat}{l:Us}{Q:Int→World→Prop}(hm:Fj w p y)(hg:Aq.PO w y A)(CP:∀ k,Ah.get A (Aa.nm k)=none)(hk:NF w q l)(hl:l.length≤1000)(E9:∀ x∈l,x.1.length≤1000000∧x.2.length≤10000)(FU:∀ j name,Small (BN Aa (BG (l.take j)) name))
  (hf:∀ W,Bw w W→Calls prog 175 #[y] W fun e w'=>e=.returned (.int .i64 0)∧W=w')
  (h5:¬ (ND l∧Fits Aa (BG l))→∀ w',Bw w w'→Q 5 w')
  (hc:ND l∧Fits Aa (BG l)→∀ W q c,Bw w W→Eh W q (Fa Aa (BG l))→Calls prog 17 #[y,.slice q (Fa Aa (BG l)).length c] W fun e w'=>∃ c,e=.returned (.int .i64 c)∧Q c w'):
  Calls prog 42 #[.pointer (some ⟨p,0,none⟩),.slice q l.length cap] w fun e w'=>∃ c,e=.returned (.int .i64 c)∧Q c w':=by
 have HF:=Hi hf;have H5:=Hi h5;have HC:=Hi hc;have HM:=Hi hm;have HG:=Hi hg;have HK:=Hi hk;have DU:=Hi CP;have GU:=Hi E9;have MO:=Hi FU;have mP:=hm.lt;clear hf h5 hc hm hg hk CP E9 FU;have NN:=@run_makeMap prog
 go_in
 go_wp2_with fail;refine(ahF (P:=fun W w'=>W=w') HM (HF _ (Ai _ _))).mono ?_;rintro e w1⟨rfl,Jr⟩;subst Jr;go_wp2_with fail;have lK:=AQ w (.map #[] 0);have Q3:=Hi (show aa9 w w.heap.size l (.int .i64 0) (w.alloc (.map #[] 0)) from⟨0,[],fun _=>↑(),AV _,rfl,GA.made w w.heap.size _ (Ag _),by rw[Gm];exact Kp.EU.nil,lK,by rw[Gm];exact ab0,by rw[Gm];exact fun u hu=>by simp at hu⟩);generalize w.alloc (.map #[] 0)=V at*;clear lK
 go_loopw [24] (fun i wr=>aa9 w w.heap.size l i wr) (fun i _=>l.length -(intOf i).toNat)
 case atStart=>exact Q3.out
 case round=>
  obtain⟨k,L,g,hk,rfl,he,H8,hb,Ck,Ou⟩:=hrel;have HE:=Hi he;have XM:=Hi H8;have HB:=Hi hb;have M3:=Hi Ck;have ZG:=Hi Ou;clear he H8 hb Ck Ou Q3;by_cases hlt:k < l.length
  ·obtain⟨a,Cn,ha⟩:=(HK.below HB).index cap k hlt;have c0:=ha.run;obtain⟨kq,kc,c1,Gt,fV⟩:=ha.keys;have M4:=Hi (CK hlt);obtain⟨Mk,YC⟩:=GU _ M4.out;have CL:=Hi (Cr hlt);have Lr:=Hi (fun name=>MO (k+1) name);obtain⟨u,hu⟩:=ex (l[k]);rw[hu] at M4 CL c0 c1 Gt Mk YC;obtain⟨run,keys⟩:=u;clear ha hu;have BO:=AQ wr (.cells #[run,.slice kq keys.length kc] 63);have UQ:=Hi (AU wr (.cells #[run,.slice kq keys.length kc] 63));have jq:=Hi (atN (Gt.below BO) fV (by omega));have Ar:=bH HB BO;have Sg:=Hi (HE.below BO);simp only at c0 c1 Mk YC;clear Gt BO;go_wp2_with fail;refine jq.mono ?_;rintro e w1⟨v1,rfl,Qx,Ak⟩;obtain⟨rq,rc,rfl⟩:=Bp Qx;have aGd:=VC keys;have BF:=Hi (aAf (Bi keys) rq rc w1 (Hd Qx) (by unfold maxLen;omega) (by omega));have HB1:=bH Ar Ak;have Jz:=Hi (Sg.below Ak);have qO:=Hi ((Ak.block _ (Ao UQ)).trans UQ);obtain⟨ub,hub⟩:=ex (wr.heap.size);rw[hub] at qO;have aGl:w.heap.size≤ub:=(by rw[←hub];exact HB.size);clear Qx Ak Ar Sg UQ jq Cn c0 c1;by_cases hz:(Dg (Bi keys)).2=0
   case neg=>
    have Uh:Dg (Bi keys)=([],5):=by
     unfold Dg at hz ⊢;cases gN:GM (Bi keys) with
     |none=>rfl
     |some s=>rw[gN] at hz;exact absurd rfl hz
    have OW:=Hi (H5 (fun h=>hz (h.1 _ M4)));rw[Uh] at BF;clear Uh hz;go_wp2_with fail;refine BF.mono ?_;rintro e w2⟨rfl,Ac⟩;have HQ:=Hi (OW w2 (bT HB1 Ac));clear Ac;go_wp2;go_ret;exact⟨5,rfl,HQ⟩
   case pos=>
    obtain⟨s,hs⟩:=ex ((Dg (Bi keys)).1);have X7:Dg (Bi keys)=(s,0):=Prod.ext hs hz;rw[X7] at BF;have zx:=Hi (show ND (l.take (k+1)) from by rw[CL.out];exact aoF.2 ⟨ZG,hz⟩);have FY:=Hi (show BG (l.take (k+1))=BG (l.take k)++[(run,s)] from by rw[CL.out,apZ];unfold QH;rw[hs]);have Iw:=Hi (fun(W:World)=>rX run W (by omega));have Ei:(Aa.nm run).length=17:=kH run;clear hz hs X7;go_wp2_with fail;refine BF.mono ?_;rintro e w2⟨rfl,Ac⟩;have Aj:=bH HB1 Ac;have Sd:=Hi (Jz.below Ac);have XR:=Hi ((Ac.block _ (Ao qO)).trans qO);have cu2:w2.cell? ub=some ↑run:=cr XR.out;clear Ac HB1 Jz qO BF;go_wp2_with fail;refine(Iw _).mono ?_;rintro e w3⟨rfl,Av⟩;have dx:=Hi (Sd.below Av);have Au:=bH Aj Av;have dN:=Hi ((Av.block _ (Ao XR)).trans XR);clear Av cu2 Aj Sd XR;have Yc:L.length≤1000:=by
     have:=wO XM.out;rw[PH,Bc] at this;omega
    have HSG:=Hi (Lr (Aa.nm run))
    have QQ:=Hi (show Fits Aa (BG l)→(C9 (BN Aa (BG (l.take k)++[(run,s)]) (Aa.nm run))).isSome=true from fun h=>by
     have h1:=h k (by rw[PH];exact hlt);rw[←xS,FY.out] at h1;have h2:(BG l)[k]'(by rw[PH];exact hlt)=(run,s):=by
      have e1:(BG (l.take (k+1)))[k]?=(BG l)[k]? :=by
       rw[xS,List.getElem?_take,Ae (by omega)]
      rw[FY.out,List.getElem?_append_right (by rw[PH,Bc];omega),PH,Bc,Iq hk,Nat.sub_self] at e1;have e2:=e1.symm;rw[CZ (by rw[PH];exact hlt)] at e2;exact GR e2
     rw[h2] at h1;exact h1)
    by_cases Dj:Aa.nm run∈L.map (·.1)
    case' pos=>
     obtain⟨⟨t,l1⟩,hx,Hu⟩:=Bv.1 Dj;have Hu:t=Aa.nm run:=Hu;subst Hu;have Oq:=dx.wF hx (by rw[Ei];decide);have Af:=dx.row _ hx;obtain⟨q1,c1,NM,EC,GG⟩:=FQ Af;rw[NM] at Oq Af;have gm:l1=BN Aa (BG (l.take k)) (Aa.nm run):=XM.rows _ hx;have Gb:=Hi gm;have BO:=AQ w3 (.cells #[.slice q1 l1.length c1] 193);have Wm:=Hi (AU w3 (.cells #[.slice q1 l1.length c1] 193));have Sg:=Hi (dx.below BO);have Ar:=bH Au BO;have Q7:=Hi ((BO.block _ (Ao dN)).trans dN);have GV:=Hi (Cc Af BO);have WN:w.heap.size≤w3.heap.size:=Au.size;clear hx NM Af BO gm Hu;generalize U9:Aa.nm run=name at*;have MM:=Hi U9;clear U9;go_wp2_with fail;obtain⟨wA,Ui⟩:=ex (w3.alloc (.cells #[.slice q1 l1.length c1] 193));rw[Ui] at Wm Sg Ar Q7 GV ⊢;obtain⟨b,Pk⟩:=ex (w3.heap.size);rw[Pk] at Wm WN ⊢;clear Ui
    case' neg=>
     have Oq:=dx.wG Dj (by rw[Ei];decide);have BO:=AQ w3 (.cells #[()] 193);have zS:=Hi (AU w3 (.cells #[()] 193));have Zl:=bH Au BO;have yH:=Hi (dx.below BO);have arQ:=Hi ((BO.block _ (Ao dN)).trans dN);have ll:=rY (HM.below Zl) (Y8 HG Zl) (Aa.nm run) (by rw[Ei];decide);have Qs:fileOf Aa A (Aa.nm run)=none:=(by unfold fileOf;rw[DU run];rfl);unfold QY at ll;rw[Qs,DU run] at ll;obtain⟨l1,GZ⟩:∃ l1:M,l1=[]:=⟨_,rfl⟩;rw[show((none:Option M).getD [])=l1 from GZ.symm] at ll
     have Gb:=Hi (show l1=BN Aa (BG (l.take k)) (Aa.nm run) from by
      rw[GZ,kU];exact fun e=>Dj ((XM.names _).2 e))
     have Fx:=Hi ll;have WN:w.heap.size≤w3.heap.size:=Au.size;clear BO ll Qs GZ;generalize U9:Aa.nm run=name at*;have MM:=Hi U9;clear U9;go_wp2_with fail;refine Fx.mono ?_;rintro e w4⟨q1,c1,rfl,Af,EC,AB⟩;have vF:=(AB.block _ (Ao zS)).trans zS.out;have cu4:w4.cell? w3.heap.size=some ↑():=cr vF;have hf4:=CG w4 w3.heap.size 0 _ _ vF;have Mm:=(A7.refl (fun j=>j=w3.heap.size) w4).setCell (p:=⟨w3.heap.size,0,none⟩) (.inl rfl) (.slice q1 l1.length c1);have Wm:=Hi (Cs w4 w3.heap.size 0 _ _ (.slice q1 l1.length c1) vF);have X0:=Az w3 (.cells #[()] 193);have E8:Bw w3 (w4.setCell w3.heap.size (.slice q1 l1.length c1)):=by
      have h1:Bw w3 w4:=(AQ w3 _).trans (AB.mono (AQ w3 _).size);exact h1.setCell (p:=⟨w3.heap.size,0,none⟩) (Ag _) _
     have Sg:=Hi (dx.below E8);have Ar:=bH Au E8;have Q7:=Hi ((E8.block _ (Ao dN)).trans dN)
     have GV:=Hi (EM (BD Af Mm (fun j hj e=>by
      have:=DT Af hj;rw[X0] at this;omega)) (show w.heap.size≤(w3.alloc (.cells #[()] 193)).heap.size from by rw[X0];omega))
     clear AB Mm E8 X0 Fx zS Zl yH arQ vF Af;go_wp2_with fail;obtain⟨wA,Ui⟩:=ex (w4.setCell w3.heap.size (.slice q1 l1.length c1));rw[Ui] at Wm Sg Ar Q7 GV ⊢;obtain⟨b,Pk⟩:=ex (w3.heap.size);rw[Pk] at Wm WN ⊢;clear Ui cu4 hf4
    all_goals
     have axr:l1.length≤1000:=by
      rw[Gb.out];have:=tu Aa (BG (l.take k)) name;rw[PH,Bc] at this;omega
     have dO:=Hi (show Up l1 from by rw[Gb.out];exact TS _ _);have cxb:wA.cell? b=some (.slice q1 l1.length c1):=cr Wm.out;have rU:wA.cell? ub=some ↑run:=cr Q7.out;have Xx:=Hi (fun(W:World) (hW:Bw wA W)=>aap (w:=W) ((Bg.CR GV).below hW) EC (by omega) run);have yu:=Hi (fun(W:World) (hW:Bw wA W)=>(hW.block b (Ao Wm)).trans Wm);have arR:=Hi (fun(W:World) (hW:Bw wA W)=>(hW.block ub (Ao Q7)).trans Q7);have aO:(l1.filter fun p=>!(p.1 == run)).length≤1000:=Ay (LW _ _) axr
     have XJ:=Hi (fun(w5:World) (q4:Option Addr) (c4 pb o:Nat) (ho:w5.heap.size=o) (Bl:Bw wA w5) (hp:w5.heap[pb]?=some (.cells #[run,s] 51)) (Ii:Bg w5 q4 (l1.filter fun p=>!(p.1 == run))) (gL:q4=none→c4=0) (N7:(l1.filter fun p=>!(p.1 == run)).length≤c4)=>
      show Calls prog 97 #[.slice o 2 2] (w5.alloc (.cells #[.slice q4 (l1.filter fun p=>!(p.1 == run)).length c4,.slice pb 1 1] 30)) fun e w'=>∃ q9 c9,e=.returned (.slice q9 (put run s l1).length c9)∧BK w' wA.heap.size (.slice q9 (put run s l1).length c9) (put run s l1)∧Bw wA w'∧w'.cell? b=some (.slice q1 l1.length c1)∧w'.frozen? b=false from by
       subst ho;have h2:=AU w5 (.cells #[.slice q4 (l1.filter fun p=>!(p.1 == run)).length c4,.slice pb 1 1] 30);have Co:=AQ w5 (.cells #[.slice q4 (l1.filter fun p=>!(p.1 == run)).length c4,.slice pb 1 1] 30);generalize w5.alloc (.cells #[.slice q4 (l1.filter fun p=>!(p.1 == run)).length c4,.slice pb 1 1] 30)=w6 at*;refine(aCb (pr:=(run,s)) h2 ((Co.block _ (Ao hp)).trans hp) (Ii.below Co) gL N7 aO).mono ?_;rintro e w'⟨q9,c9,rfl,Qy,FI⟩;have E8:=Bl.trans ((bT Co FI).mono Bl.size);have hx9:=yu w' E8;rw[an8 dO (run,s)] at Qy ⊢;exact⟨q9,c9,rfl,EM Qy (Ay Bl.size Co.size),E8,cr hx9,CG w' b 0 _ _ hx9⟩)
     have Yk:=AQ wA (.cells #[run,s] 51);have hnP:=AU wA (.cells #[run,s] 51);have VK:=Hi Yk;have dG:=Hi hnP;have att:(wA.alloc (.cells #[run,s] 51)).drew.cell? ub=some ↑run:=(Yk.cell (p:=⟨ub,0,none⟩) (Ao Q7)).trans rU;have atw:(wA.alloc (.cells #[run,s] 51)).drew.cell? b=some (.slice q1 l1.length c1):=(Yk.cell (p:=⟨b,0,none⟩) (Ao Wm)).trans cxb;clear Yk hnP;clear Oq Iw;refine cz ?_
     go_region_law
      (first
       |(go_simp;go_at_call 109;refine(Xx _ ((Ai _ wA).drew)).mono ?_;rintro e w4 ⟨v4,rfl,Ii,AB⟩;obtain⟨q4,c4,rfl,gL,N7⟩:=FQ Ii;have AB:Bw wA w4:=((Ai _ wA).drew).trans (AB.mono (Ag _));have atr:w4.cell? ub=some ↑run:=(AB.cell (p:=⟨ub,0,none⟩) (Ao Q7)).trans rU;go_wp2_with fail)
       |(go_simp;go_at_call 109;refine(Xx _ VK.drew).mono ?_;rintro e w4 ⟨v4,rfl,Ii,AB⟩;obtain⟨q4,c4,rfl,gL,N7⟩:=FQ Ii;have gI:w4.heap[wA.heap.size]?=some (.cells #[run,s] 51):=(AB.block _ (Ao dG)).trans dG.out;have AB:Bw wA w4:=VK.trans (((Ai _ _).drew.trans (AB.mono (Ag _))).mono VK.size);have atr:w4.cell? ub=some ↑run:=(AB.cell (p:=⟨ub,0,none⟩) (Ao Q7)).trans rU;go_wp2_with fail)
       |(go_simp;go_at_call 97;refine(XJ w4 q4 c4 _ _ rfl AB gI (Bg.CR Ii) gL N7).mono ?_;rintro e w9 ⟨q9,c9,rfl,Qy,FI,cx9,fI⟩;go_wp2_with fail)
       |(go_simp;go_at_call 97;refine(XJ _ q4 c4 _ _ (Az _ _) (AB.alloc AB.size _) (AU w4 _) ((Bg.CR Ii).below (AQ w4 _)) gL N7).mono ?_;rintro e w9 ⟨q9,c9,rfl,Qy,FI,cx9,fI⟩;go_wp2_with fail))
     all_goals
      dsimp only[Z4];have vG:=yu w9 FI;have adg:=Cs w9 b 0 _ _ (.slice q9 (put run s l1).length c9) vG;have atv:(w9.setCell b (.slice q9 (put run s l1).length c9)).cell? b=some (.slice q9 (put run s l1).length c9):=cr adg;have mZ:=(A7.refl (fun j=>j=b) w9).setCell (p:=⟨b,0,none⟩) (.inl rfl) (.slice q9 (put run s l1).length c9);have Ke:∀ k,k=b→¬ Bf w9 k 51:=fun k e hb=>by
       obtain⟨cs,fr,hb⟩:=hb;rw[e,vG] at hb;injection hb with hb
       injection hb with _ hb
       exact absurd hb (by decide)
      have ajw:GA (w9.setCell b (.slice q9 (put run s l1).length c9)) w.heap.size w.heap.size L g:=by
       have ajy:=Sg.below FI;have hNB:¬ Bf w9 w.heap.size 193:=ajy.DI;obtain⟨⟨kv,h1,h2⟩,h3,h4,h6⟩:=ajy;exact⟨⟨kv,h1,h2.upd mZ (fun e=>hNB (by rw[e];exact⟨_,_,vG⟩))⟩,h3,fun x hx=>BD (h4 x hx) mZ (fun j hj e=>Ke j e (Cx (h4 x hx) hj)),h6⟩
      have acK:=BD (EM Qy Ar.size) mZ (fun j hj e=>Ke j e (Cx Qy hj));have abY:=Ar.trans (FI.mono Ar.size);have Yh:=Cz abY mZ (fun i e=>by rw[e];exact WN) abY.size;have U4:BN Aa (BG (l.take k)++[(run,s)]) name=put run s l1:=(by rw[Oh,Ae MM.out,←Gb.out]);have hsg:=HSG.out;rw[FY.out,U4] at hsg;obtain⟨aGh,alQ⟩:=hsg;have TA:=Hi (ahs (cap:=c9) (Bg.CR acK) (D8.RN (dO.put run s)) (by omega) alQ);have hfs:=QQ.out;rw[U4] at hfs;have jD:=Hi hfs
      have VO:=Hi (show Kp.EU Aa (BG (l.take (k+1))) (Ci.putRow L name (put run s l1)) from by
       rw[FY.out,←MM.out];exact aAO XM (by rw[MM.out,U4]))
      have UH:=Hi (@Fits.nU Aa (BG (l.take k)) (run,s));have agy:=Hi ajw;have O1:=Hi Yh;have agc:=Hi acK;have zT:=Hi adg;have PU:=Hi U4;obtain⟨Fe,YQ⟩:=ex (w9.setCell b (.slice q9 (put run s l1).length c9));rw[YQ] at TA agy O1 agc zT atv ⊢;clear YQ vG adg mZ Ke ajw acK abY Yh U4 alQ hfs Qy FI cx9 fI Ii AB gL N7 XJ Xx yu arR VK dG att atw cxb rU Dj;generalize put run s l1=l2 at*;by_cases DV:(C9 l2).isSome=true
      ·rw[Ae DV] at TA
       have Zq:=Hi (show Fits Aa (BG (l.take (k+1))) from by
        rw[FY.out];refine UH.2 ⟨M3,?_⟩;rw[MM.out,PU.out];exact DV)
       generalize (C9 l2).getD []=ct at*;clear DV;go_wp2_with fail;refine TA.mono ?_;rintro e OG⟨rfl,SF⟩;have am7:=(SF.block _ (Ao zT)).trans zT.out;have aFg:OG.cell? b=some (.slice q9 l2.length c9):=cr am7;obtain⟨iY,aGf,aju,akw⟩:=(agy.below SF).put (name:=name) (by rw[Ei];decide) (Cc agc SF) (by unfold maxLen;omega);have Yi:=(bT O1 SF).grown akw (bT O1 SF).size (fun k e=>Nat.le_of_eq (GR e));have CJ:=Hi (show aa9 w w.heap.size l (.int .i64 ((k:Int)+1)) iY from⟨k+1,_,_,by omega,by go_num,aju,VO,Yi,Zq,zx⟩);generalize l2.length=n2 at*;clear SF am7 aju akw Yi;go_wp2;go_roundw
       case rel=>exact CJ.out
       case measure=>
        show l.length -((k:Int)+1).toNat < l.length -((k:Int)).toNat
        omega
      ·rw[A9 DV] at TA;have VX:=Hi (H5 (fun h=>DV (jD h.2)));generalize (C9 l2).getD []=ct at*;generalize l2.length=n2 at*;clear DV;go_wp2_with fail;refine TA.mono ?_;rintro e OG⟨rfl,SF⟩;have HQ:=Hi (VX OG (bT O1 SF));clear SF;go_wp2;go_ret;exact⟨5,rfl,HQ⟩
  ·obtain rfl:k=l.length:=(by omega);have Ck:=M3.out;have Ou:=ZG.out;have H8:=XM.out;rw[D5] at Ck Ou H8;have Yc:L.length≤100000:=by
    have:=wO H8;rw[PH] at this;omega
   have e1:=H8.rM;have e2:=H8.fits Ck
   have Ns:=Hi (ahG (Q:=Q) (HM.below HB) HE (fun x hx=>by
    have h1:=MO l.length x.1;rw[D5] at h1;rw[H8.rows x hx];exact⟨D8.RN (TS _ _),Ay h1.1 (by decide),h1.2⟩) (fun x hx=>by
    obtain⟨z,_,hz⟩:=Bv.1 ((H8.names x.1).1 (I6 hx));rw[←hz,kH];decide) Yc (fun h=>absurd e2 h) (fun _ W q c hW ax=>by
    rw[e1] at ax ⊢;exact HC ⟨Ou,Ck⟩ W q c (bT HB hW) ax))
   clear Ck Ou H8 e1 e2;go_wp2_with fail;refine Ns.mono ?_;rintro e w9⟨cc,rfl,aT⟩;go_wp2;go_ret;exact⟨cc,rfl,aT⟩
