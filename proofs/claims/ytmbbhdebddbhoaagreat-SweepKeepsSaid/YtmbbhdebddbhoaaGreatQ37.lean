/- HvS SameT RefOct -/
import Derived.Test.YtmbbhdebddbhoaaGreatQ36
set_option maxHeartbeats 8000000
set_option maxRecDepth 100000
set_option linter.all false
namespace Go.Proofs.YtmbbhdebddbhoaaGreat
open Tryz
namespace Hv
open Go.RowKit Go.Maps
open Wal Fil Prs Kp BH Hex Sha Al Mem Dep
open Man
def Gr(l:M):Nat:=(l.map fun p=>p.1.length+p.2.length).sum
def Kg(l:M):Nat:=(l.map fun p=>p.1.length+min p.2.length 8192).sum
theorem anI(l:M)(k:Nat)(h:k < l.length):Gr (l.take (k+1))=Gr (l.take k)+l[k].1.length+l[k].2.length:=by
 unfold Gr;rw[BS h,C8,Ht];simp;omega
theorem anJ(l:M)(k:Nat)(h:k < l.length):Kg (l.take (k+1))=Kg (l.take k)+l[k].1.length+min l[k].2.length 8192:=by
 unfold Kg;rw[BS h,C8,Ht];simp;omega
theorem anK(l:M)(b:Nat)(h:∀ c∈l,c.1.length≤b∧c.2.length≤b):Gr l≤l.length*(2*b):=by
 unfold Gr
 induction l with
 |nil=>simp
 |cons c l ih=>
  have h1:=ih (fun x hx=>h x (Dh _ hx));have h2:=h c Cc;rw[Bg,Cx,AX,Nat.succ_mul];omega
theorem anL(l:M)(b:Nat)(h:∀ c∈l,c.1.length≤b):Kg l≤l.length*(b+8192):=by
 unfold Kg
 induction l with
 |nil=>simp
 |cons c l ih=>
  have h1:=ih (fun x hx=>h x (Dh _ hx));have h2:=h c Cc;rw[Bg,Cx,AX,Nat.succ_mul];omega
theorem ad8(l:M):∀ c∈l,c.1.length+c.2.length≤Gr l:=by
 unfold Gr
 induction l with
 |nil=>intro x hx;simp at hx
 |cons y l ih=>
  intro x hx;rw[Bg,Cx];rcases AZ.1 hx with rfl|hx
  ·omega
  ·have:=ih x hx;omega
def Rw(l:M):Bool:=decide (200 < l.length) || decide (262144 < Gr (l.take 400))
theorem anM{l:M}(h:Rw l=false):l.length≤200∧Gr l≤262144:=by
 unfold Rw at h;simp only[Bool.or_eq_false_iff,decide_eq_false_iff_not] at h;obtain⟨h1,h2⟩:=h;rw[ET (by omega)] at h2;exact⟨by omega,by omega⟩
theorem anN{w:World}{a:Option Addr}{cap:Nat}{l:M}(hL:Av w a l)(hlen:l.length≤maxLen)(hok:∀ c∈l,c.1.length≤reachBytes∧c.2.length≤reachBytes):
  Calls prog 59 #[.slice a l.length cap] w fun e w'=>e=.returned (.bool (Rw l))∧Bw w w':=by
 have HL:=Hi hL;have Es:=Hi hok;have DU:l.length≤9223372036854775807:=by unfold maxLen at hlen;omega
 clear hL hok hlen;go_enter func59,ntmps59;go_wp2_with fail
 go_loopw [3,4] (fun n i wr=>∃ k:Nat,k≤l.length∧k≤400∧i=.int .i64 k∧n=.int .i64 (Gr (l.take k))∧Bw w wr) (fun _ i _=>400 -(intOf i).toNat)
 case atStart=>exact⟨0,Ar _,by omega,rfl,by rw[FJ];rfl,Ad _ _⟩
 case round=>
  obtain⟨k,hk,hk2,rfl,rfl,hb⟩:=hrel;have HB:=Hi hb;have asV:Gr (l.take k)≤400*(2*reachBytes):=by
   refine Ah (anK _ reachBytes (fun c hc=>Es c (List.mem_of_mem_take hc))) (Kj _ ?_);rw[Aw];omega
  unfold reachBytes at asV;by_cases hlt:k < l.length
  ·by_cases ad9:k < 400
   ·obtain⟨q,hix,hq,-⟩:=HL.index cap k hlt;have hkb:q.block < w.heap.size:=Bz hq.key;have c0:=(hb.cell hkb).trans hq.key;have c1:=(hb.cell (p:=⟨q.block,q.off+1,none⟩) hkb).trans hq.val;have hst:=anI l k hlt;have hin:=Es _ (BF hlt);unfold reachBytes at hin;have HST:=Hi hst;clear hst hq hb;generalize l[k]=x at*;generalize Gr (l.take k)=n at*;go_wp2_with fail
    go_quiet (fail)
    go_wp2_with fail;go_roundw
    case rel=>exact⟨k+1,by omega,by omega,by go_num,by rw[HST.out];go_num,HB.trans ((DK _ _).mono HB.size)⟩
    case measure=>simp[intOf];omega
   ·have hV:Hid (Rw l=true):=Hi (by unfold Rw;rw[Gs (show 200 < l.length by omega)];rfl);have SA:(200:Int) < (l.length:Int):=(by omega);clear hb;go_wp2_with fail;go_ret;exact⟨by rw[hV.out];rfl,HB⟩
  ·obtain rfl:k=l.length:=(by omega);rw[Ck] at asV;have hV:Rw l=(decide (200 < l.length) || decide (262144 < Gr l)):=by
    unfold Rw;by_cases h:200 < l.length
    ·simp[h]
    ·rw[ET (by omega)]
   have HV:=Hi hV;rw[Ck];clear hb hV;generalize Gr l=n at*;by_cases SA:200 < l.length
   ·have anO:(200:Int) < (l.length:Int):=(by omega);rw[Gs SA,Bool.true_or] at HV;clear SA;go_wp2_with fail;go_ret;exact⟨by rw[HV.out];rfl,HB⟩
   ·have anO:¬ (200:Int) < (l.length:Int):=(by omega);rw[Ma SA,Bool.false_or] at HV;clear SA;go_wp2_with fail;go_ret;have ayV:decide ((262144:Int) < (n:Int))=decide (262144 < n):=decide_eq_decide.2 (by omega);exact⟨by rw[HV.out,←ayV];rfl,HB⟩
structure VQ(w:World)(q:Addr)(v:Value):Prop where
 l:w.cell? ⟨q.block,q.off+1,none⟩=some v
 k:w.cell? ⟨q.block,q.off+2,none⟩=some (.slice none 0 0)
 t:w.cell? ⟨q.block,q.off+3,none⟩=some (.string (bs []))
theorem VQ.below{w w':World}{q:Addr}{v:Value}(h:VQ w q v)(hb:Bw w w'):VQ w' q v:=by
 have hl:=Bz h.l;exact⟨(hb.cell (p:=⟨q.block,q.off+1,none⟩) hl).trans h.l,(hb.cell (p:=⟨q.block,q.off+2,none⟩) hl).trans h.k,(hb.cell (p:=⟨q.block,q.off+3,none⟩) hl).trans h.t⟩
theorem dX{w:World}{v:Value}{t:TypeId}{g:Nat}{cs:Array Value}(hg:w.heap.size=g)(hc:cs[1]?=some v∧cs[2]?=some (.slice none 0 0)∧cs[3]?=some (.string (bs []))):VQ (w.alloc (.cells cs t)) ⟨g,0,none⟩ v:=by
 subst hg;have hx:=Aq w (.cells cs t);obtain⟨h1,h2,h3⟩:=hc;refine⟨?_,?_,?_⟩<;>(unfold World.cell?;rw[hx];simpa)
def ada(N:Int)(l:M)(w:World)(e:Ending)(w':World):Prop:=∃ h,e=.returned (.bool h)∧Bw w w'∧(h=false→l.length≤20∧Gr l≤262144∧Kg l≤16384∧N≤200)
theorem adb{N:Int}{q:Addr}{a:Option Addr}{cap:Nat}{l:M}{w:World}(hs:VQ w q (.slice a l.length cap))(hL:Av w a l)(hlen:l.length≤maxLen)(hok:∀ c∈l,c.1.length≤reachBytes∧c.2.length≤reachBytes):
  Calls prog 21 #[.int .i64 N,.slice (some q) 1 1] w fun e w'=>ada N l w e w':=by
 have HL:=Hi hL;have Es:=Hi hok;have HS:=Hi hs;have atv:=Hi hlen;have DU:l.length≤9223372036854775807:=by unfold maxLen at hlen;omega
 clear hL hok hlen hs;have Tk:∀ W,(Instr.indexAt 69 (.slice (some q) 1 1) (.int .i64 0)).run prog W=.ok (.pointer (some q)) W:=fun W=>by
  have:=Fw prog _ 68 underlying69 5 (by kernel_rfl) q 1 1 0 (by omega) W;rw[Nat.zero_mul,add_zero'] at this;exact this
 go_enter func21,ntmps21;go_wp2_with fail
 go_loopw [5,6] (fun n i wr=>((i=.int .i64 0∧n=.int .i64 0)∨(i=.int .i64 1∧n=.int .i64 (Kg l)∧l.length≤20∧Gr l≤262144))∧Bw w wr) (fun _ i _=>1 -(intOf i).toNat)
 case atStart=>exact⟨.inl ⟨rfl,rfl⟩,Ad _ _⟩
 case round=>
  obtain⟨hi,hb⟩:=hrel;have HB:=Hi hb;rcases hi with⟨rfl,rfl⟩|⟨rfl,rfl,h20,asV⟩
  ·obtain⟨c1,c2,c3⟩:=HS.below hb;clear hb;go_wp2_with fail;refine(anN (HL.below HB) atv Es).mono ?_;rintro e w1⟨rfl,hb1⟩;have HB1:=Hi (HB.trans (hb1.mono HB.size));obtain⟨c1,c2,c3⟩:=HS.below HB1.out;clear hb1;cases hV:Rw l with
   |true=>
    go_wp2_with fail;go_ret;exact⟨true,rfl,HB1,fun h=>by cases h⟩
   |false=>
    have HV:=Hi (anM hV);clear hV;by_cases h20:20 < l.length
    ·have Yj:(20:Int) < (l.length:Int):=(by omega);go_wp2_with fail;go_ret;exact⟨true,rfl,HB1,fun h=>by cases h⟩
    have Yj:¬ (20:Int) < (l.length:Int):=(by omega);go_wp2_with fail
    go_loopw [5,7] (fun n j wr=>∃ m:Nat,m≤l.length∧j=.int .i64 m∧n=.int .i64 ((Kg (l.take m):Nat):Int)∧Bw w wr) (fun _ j _=>20 -(intOf j).toNat)
    case atStart=>exact⟨0,by omega,rfl,by simp[Kg],HB1⟩
    case round=>
     obtain⟨m,hm,rfl,rfl,hb2⟩:=hrel;have HB2:=Hi hb2;obtain⟨c1,c2,c3⟩:=HS.below hb2;have htc:=anL (l.take m) reachBytes (fun s hs=>(Es s (List.mem_of_mem_take hs)).1);rw[Aw,FM hm] at htc;have htb:Kg (l.take m)≤20*(reachBytes+8192):=Ah htc (Kj _ (by omega));unfold reachBytes at htb;by_cases hmt:m < l.length
     ·obtain⟨q2,anP,hq2,-⟩:=HL.index cap m hmt;have hkb:q2.block < w.heap.size:=Bz hq2.key;have d0:=(hb2.cell hkb).trans hq2.key;have d1:=(hb2.cell (p:=⟨q2.block,q2.off+1,none⟩) hkb).trans hq2.val;have hsm:=anJ l m hmt;have hsl:=Es l[m] (BF hmt);unfold reachBytes at hsl;have K8:=Hi hsm;clear hsm htc hq2 hb2;generalize l[m]=s at*;generalize Kg (l.take m)=T at*;have jq:(if(8192:Int) < (s.2.length:Int) then(8192:Int) else(s.2.length:Int))=((min s.2.length 8192:Nat):Int):=(by split<;>omega);go_wp2_with fail
      go_quiet (fail)
      go_wp2_with fail;go_roundw
      case rel=>exact⟨m+1,by omega,by go_num,by rw[K8.out];go_num,HB2.trans ((DK _ _).mono HB2.size)⟩
      case measure=>simp[intOf];omega
     ·obtain rfl:m=l.length:=(by omega);rw[Ck] at htb ⊢;clear htc hmt hb2;go_wp2_with fail
      go_loopw [5,8] (fun n j wr=>j=.int .i64 0∧n=.int .i64 ((Kg l:Nat):Int)∧Bw w wr) (fun _ j _=>1)
      case atStart=>exact⟨rfl,rfl,HB2⟩
      case round=>
       obtain⟨rfl,rfl,hb3⟩:=hrel;have HB3:=Hi hb3;obtain⟨c1,c2,c3⟩:=HS.below hb3;clear hb3;go_wp2_with fail;go_roundw
       case rel=>exact⟨.inr ⟨rfl,rfl,by omega,HV.2⟩,HB3.out⟩
       case measure=>simp[intOf]
  ·clear hb
   have HP:Hid (∀ b,b=(decide (16384 < (Kg l:Int)) || decide (200 < N))→ada N l w (.returned (.bool b)) wr):=Hi (fun b hb=>⟨b,rfl,HB,fun h=>by
    subst hb;simp only[Bool.or_eq_false_iff,decide_eq_false_iff_not] at h;exact⟨h20,asV,by omega,by omega⟩⟩)
   clear asV;generalize Kg l=C at*;by_cases h81:(16384:Int) < (C:Int)
   ·go_wp2_with fail;go_ret;exact HP _ (by simp;omega)
   by_cases h1:200 < N
   ·go_wp2_with fail;go_ret;exact HP _ (by simp;omega)
   ·go_wp2_with fail;go_ret;exact HP _ (by simp;omega)
def J7(l:List T):Nat:=(l.map fun s=>2+min s.length 4096).sum
def Fh(l:Us):Nat:=(l.map fun u=>u.1.length+J7 u.2).sum
theorem anR(l:List T)(k:Nat)(h:k < l.length):J7 (l.take (k+1))=J7 (l.take k)+2+min l[k].length 4096:=by
 unfold J7;rw[BS h,C8,Ht];simp;omega
theorem anS(l:Us)(k:Nat)(h:k < l.length):Fh (l.take (k+1))=Fh (l.take k)+l[k].1.length+J7 l[k].2:=by
 unfold Fh;rw[BS h,C8,Ht];simp;omega
theorem ade(l:List T):J7 l≤l.length*4098:=by
 unfold J7
 induction l with
 |nil=>simp
 |cons x l ih=>
  rw[Bg,Cx,AX,Nat.succ_mul];omega
theorem anT(l:Us)(b:Nat)(h:∀ u∈l,u.1.length≤b∧u.2.length≤30):Fh l≤l.length*(b+30*4098):=by
 unfold Fh
 induction l with
 |nil=>simp
 |cons c l ih=>
  have h1:=ih (fun x hx=>h x (Dh _ hx));have h2:=h c Cc;have h3:=ade c.2;have h4:c.2.length*4098≤30*4098:=Kj _ h2.2;rw[Bg,Cx,AX,Nat.succ_mul];omega
theorem adf(l:Us):∀ c∈l,c.1.length≤Fh l:=by
 unfold Fh
 induction l with
 |nil=>intro x hx;simp at hx
 |cons y l ih=>
  intro x hx;rw[Bg,Cx];rcases AZ.1 hx with rfl|hx
  ·omega
  ·have:=ih x hx;omega
def adg(N:Int)(l:Us)(w:World)(e:Ending)(w':World):Prop:=∃ h,e=.returned (.bool h)∧Bw w w'∧(h=false→l.length≤20∧(∀ u∈l,u.2.length≤30)∧Fh l≤16384∧N≤200)
theorem adh{N:Int}{q:Addr}{a:Option Addr}{cap:Nat}{l:Us}{w:World}(hs:VQ w q (.slice a l.length cap))(hL:IJ w a l)(hlen:l.length≤maxLen)(hok:∀ c∈l,c.1.length≤reachBytes∧c.2.length≤maxLen):
  Calls prog 22 #[.int .i64 N,.slice (some q) 1 1] w fun e w'=>adg N l w e w':=by
 have HL:=Hi hL;have Es:=Hi hok;have HS:=Hi hs;have atv:=Hi hlen;have DU:l.length≤9223372036854775807:=by unfold maxLen at hlen;omega
 clear hL hok hlen hs;have Tk:∀ W,(Instr.indexAt 73 (.slice (some q) 1 1) (.int .i64 0)).run prog W=.ok (.pointer (some q)) W:=fun W=>by
  have:=Fw prog _ 72 underlying73 4 (by kernel_rfl) q 1 1 0 (by omega) W;rw[Nat.zero_mul,add_zero'] at this;exact this
 obtain⟨i0,hi0,hz0,hz1,hz2⟩:=Cz acU;go_enter func22,ntmps22;go_wp2_with fail
 go_loopw [5,6] (fun n i wr=>((i=.int .i64 0∧n=.int .i64 0)∨(i=.int .i64 1∧n=.int .i64 (Fh l)∧l.length≤20∧∀ u∈l,u.2.length≤30))∧Bw w wr) (fun _ i _=>1 -(intOf i).toNat)
 case atStart=>exact⟨.inl ⟨rfl,rfl⟩,Ad _ _⟩
 case round=>
  obtain⟨hi,hb⟩:=hrel;have HB:=Hi hb;rcases hi with⟨rfl,rfl⟩|⟨rfl,rfl,h20,hks⟩
  ·obtain⟨c1,c2,c3⟩:=HS.below hb;clear hb;by_cases h20:20 < l.length
   ·have Yj:(20:Int) < (l.length:Int):=(by omega);go_wp2_with fail;go_ret;exact⟨true,rfl,HB,fun h=>by cases h⟩
   have Yj:¬ (20:Int) < (l.length:Int):=(by omega);go_wp2_with fail
   go_loopw [5,7] (fun n j wr=>j=.int .i64 0∧n=.int .i64 0∧Bw w wr) (fun _ j _=>1)
   case atStart=>exact⟨rfl,rfl,HB⟩
   case round=>
    obtain⟨rfl,rfl,hb3⟩:=hrel;have HB3:=Hi hb3;obtain⟨c1,c2,c3⟩:=HS.below hb3;clear hb3;go_wp2_with fail
    go_loopw [5,8] (fun n j wr=>∃ m:Nat,m≤l.length∧j=.int .i64 m∧n=.int .i64 ((Fh (l.take m):Nat):Int)∧Bw w wr∧∀ u∈l.take m,u.2.length≤30) (fun _ j _=>20 -(intOf j).toNat)
    case atStart=>exact⟨0,by omega,rfl,by simp[Fh],HB3,by simp⟩
    case round=>
     obtain⟨m,hm,rfl,rfl,hb2,hks⟩:=hrel;have HB2:=Hi hb2;obtain⟨c1,c2,c3⟩:=HS.below hb2;have Gy:=Hi hks;have htc:=anT (l.take m) reachBytes (fun s hs=>⟨(Es s (List.mem_of_mem_take hs)).1,hks s hs⟩);rw[Aw,FM hm] at htc;have htb:Fh (l.take m)≤20*(reachBytes+30*4098):=Ah htc (Kj _ (by omega));unfold reachBytes at htb;by_cases hmt:m < l.length
     ·obtain⟨q2,anP,hq2⟩:=(HL.below hb2).index cap m hmt;obtain⟨kq,kc,d1,hkt,hkn⟩:=hq2.keys;have d0:=hq2.run;have hsm:=anS l m hmt;have hsl:=Es l[m] (BF hmt);unfold reachBytes maxLen at hsl;have K8:=Hi hsm;have Bo:Hid (∀ x∈l.take (m+1),x∈l.take m∨x=l[m]):=Hi fun x hx=>by
       rw[BS hmt] at hx;rcases Ee.1 hx with h|h
       ·exact .inl h
       ·exact .inr (by simpa using h)
      have qp:=Hi hkt;clear hsm htc hq2 hb2 hkt hkn hks;generalize l[m]=s at*;generalize Fh (l.take m)=U at*;have Ag:=Hi (HB2.trans ((Am wr (.cells #[.string (bs s.1),.slice kq s.2.length kc] 77)).mono HB2.size));by_cases h30:30 < s.2.length
      ·have anU:(30:Int) < (s.2.length:Int):=(by omega);go_wp2_with fail;go_ret;exact⟨true,rfl,Ag,fun h=>by cases h⟩
      have anU:¬ (30:Int) < (s.2.length:Int):=(by omega);go_wp2_with fail;have HA:=Hi (Aq wr (.cells #[.string (bs s.1),.slice kq s.2.length kc] 77));have HKA:=Hi (qp.below (Am wr (.cells #[.string (bs s.1),.slice kq s.2.length kc] 77)));have e1:(wr.alloc (.cells #[.string (bs s.1),.slice kq s.2.length kc] 77)).cell? ⟨wr.heap.size,1,none⟩=some (.slice kq s.2.length kc):=by
       unfold World.cell?;rw[HA.out];rfl
      generalize wr.alloc (.cells #[.string (bs s.1),.slice kq s.2.length kc] 77)=wa at*;generalize wr.heap.size=g at*;have e0:((U:Nat):Int)+(s.1.length:Int)=((U+s.1.length:Nat):Int):=(by omega);simp only[e0];clear e0
      go_loopw [5,10] (fun n j wr2=>∃ r:Nat,r≤s.2.length∧j=.int .i64 r∧n=.int .i64 ((U+s.1.length+J7 (s.2.take r):Nat):Int)∧Bw wa wr2) (fun _ j _=>30 -(intOf j).toNat)
      case atStart=>exact⟨0,by omega,rfl,by simp[J7],Ad _ _⟩
      case round=>
       obtain⟨r,hr,rfl,rfl,hb4⟩:=hrel;have Ay:=Hi hb4;have Yk:g < wa.heap.size:=Bz e1;have e2:=(hb4.cell (p:=⟨g,1,none⟩) Yk).trans e1;have Vx:=ade (s.2.take r);rw[Aw,FM hr] at Vx;have anW:J7 (s.2.take r)≤30*4098:=Ah Vx (Kj _ (by omega));clear Vx;by_cases hrt:r < s.2.length
       ·obtain⟨q3,arY,hc3⟩:=(HKA.below hb4).index kc r hrt;have LW:=anR s.2 r hrt;have Yl:=Hi LW;clear LW hb4;generalize s.2[r]=t at*;generalize J7 (s.2.take r)=O at*;have e0:((U+s.1.length+O:Nat):Int)=(U:Int)+(s.1.length:Int)+(O:Int):=(by omega);simp only[e0];clear e0;go_wp2_with fail;refine⟨⟨r+1,by omega,by go_num,?_,Ay⟩,by simp[intOf];omega⟩;rw[Yl.out]
        congr 1
        omega
       ·obtain rfl:r=s.2.length:=(by omega);rw[Ck] at anW ⊢;have hu1:(U+s.1.length+J7 s.2:Nat)=Fh (l.take (m+1)):=K8.symm;rw[hu1];clear hu1 hrt hb4
        have HR:=Hi (show ∀ y∈l.take (m+1),y.2.length≤30 from fun y hy=>by
         rcases Bo y hy with h|h
         ·exact Gy y h
         ·subst h;omega)
        go_wp2_with fail;go_roundw
        case rel=>exact⟨m+1,by omega,by go_num,rfl,Ag.trans (Ay.mono Ag.size),HR⟩
        case measure=>simp[intOf];omega
     ·obtain rfl:m=l.length:=(by omega);rw[Ck] at htb hks ⊢;clear htc hmt hb2;have anX:=Hi hks;clear hks;go_wp2_with fail;go_roundw
      case rel=>exact⟨.inr ⟨rfl,rfl,by omega,anX⟩,HB2.out⟩
      case measure=>simp[intOf]
  ·clear hb
   have HP:Hid (∀ b,b=(decide (16384 < (Fh l:Int)) || decide (200 < N))→adg N l w (.returned (.bool b)) wr):=Hi (fun b hb=>⟨b,rfl,HB,fun h=>by
    subst hb;simp only[Bool.or_eq_false_iff,decide_eq_false_iff_not] at h;exact⟨h20,hks,by omega,by omega⟩⟩)
   clear hks;generalize Fh l=C at*;by_cases h81:(16384:Int) < (C:Int)
   ·go_wp2_with fail;go_ret;exact HP _ (by simp;omega)
   by_cases h1:200 < N
   ·go_wp2_with fail;go_ret;exact HP _ (by simp;omega)
   ·go_wp2_with fail;go_ret;exact HP _ (by simp;omega)
def Ie(l:List Af):Nat:=(l.map fun c=>c.data.length).sum
theorem anY(l:List Af)(k:Nat)(h:k < l.length):Ie (l.take (k+1))=Ie (l.take k)+l[k].data.length:=by
 unfold Ie;rw[BS h,C8,Ht];simp
theorem anZ(l:List Af)(b:Nat)(h:∀ c∈l,c.data.length≤b):Ie l≤l.length*b:=by
 unfold Ie
 induction l with
 |nil=>simp
 |cons c l ih=>
  have h1:=ih (fun x hx=>h x (Dh _ hx));have h2:=h c Cc;rw[Bg,Cx,AX,Nat.succ_mul];omega
structure dY(N:Int)(l:M)(us:Us)(fs:List Af):Prop where
 dZ:l.length≤20
 ed:Gr l≤262144
 arZ:Kg l≤16384
 u20:us.length≤20
 uks:∀ u∈us,u.2.length≤30
 ek:Fh us≤16384
 f10:fs.length≤10
 adj:Ie fs≤4096
 n8:8≤N
 n200:N≤200
def eu(N:Int)(l:M)(us:Us)(fs:List Af)(w:World)(e:Ending)(w':World):Prop:=∃ h,e=.returned (.bool h)∧Bw w w'∧(h=false→dY N l us fs)
theorem ao0{N:Int}{a ua fa:Option Addr}{cap uc fc:Nat}{l:M}{us:Us}{fs:List Af}{w:World}(hL:Av w a l)(hlen:l.length≤maxLen)(hok:∀ c∈l,c.1.length≤reachBytes∧c.2.length≤reachBytes)
  (hU:IJ w ua us)(Ym:us.length≤maxLen)(Yn:∀ c∈us,c.1.length≤reachBytes∧c.2.length≤maxLen)(hF:D7 w fa fs)(Yo:fs.length≤maxLen)(OZ:∀ c∈fs,c.name.length≤reachBytes∧c.data.length≤reachBytes):
  Calls prog 5 #[.agg #[.int .i64 N,.slice a l.length cap,.slice ua us.length uc,.slice fa fs.length fc]] w fun e w'=>eu N l us fs w e w':=by
 have HL:=Hi hL;have Es:=Hi hok;have atv:=Hi hlen;have HU:=Hi hU;have adk:=Hi Yn;have adl:=Hi Ym;have HF:=Hi hF;have Yp:=Hi OZ;have DU:fs.length≤9223372036854775807:=by unfold maxLen at Yo;omega
 clear hL hok hlen hU Yn Ym hF OZ Yo;go_enter func5,ntmps5;go_wp2_with fail;have HB0:=Hi (Am w (.cells #[.int .i64 N,.slice a l.length cap,.slice ua us.length uc,.slice fa fs.length fc] 26));have hx:=Aq w (.cells #[.int .i64 N,.slice a l.length cap,.slice ua us.length uc,.slice fa fs.length fc] 26);generalize Yk:w.alloc (.cells #[.int .i64 N,.slice a l.length cap,.slice ua us.length uc,.slice fa fs.length fc] 26)=wa at*;have HX:Hid (∀ wr,Bw wa wr→wr.cell? ⟨w.heap.size,0,none⟩=some (.int .i64 N)∧wr.cell? ⟨w.heap.size,1,none⟩=some (.slice a l.length cap)∧wr.cell? ⟨w.heap.size,2,none⟩=some (.slice ua us.length uc)∧wr.cell? ⟨w.heap.size,3,none⟩=some (.slice fa fs.length fc)):=Hi fun wr hb=>by
  have hk:w.heap.size < wa.heap.size:=(BZ.1 hx).1;refine⟨(hb.cell (p:=⟨w.heap.size,0,none⟩) hk).trans ?_,(hb.cell (p:=⟨w.heap.size,1,none⟩) hk).trans ?_,(hb.cell (p:=⟨w.heap.size,2,none⟩) hk).trans ?_,(hb.cell (p:=⟨w.heap.size,3,none⟩) hk).trans ?_⟩<;>(unfold World.cell?;rw[hx];rfl)
 clear Yk hx
 go_loopw [3,4] (fun n i wr=>∃ k:Nat,k≤fs.length∧k≤20∧i=.int .i64 k∧n=.int .i64 (Ie (fs.take k))∧Bw wa wr) (fun _ i _=>20 -(intOf i).toNat)
 case atStart=>exact⟨0,Ar _,by omega,rfl,by rw[FJ];rfl,Ad _ _⟩
 case round=>
  obtain⟨k,hk,hk2,rfl,rfl,hb⟩:=hrel;have HB:=Hi hb;have HB2:=Hi (HB0.trans (hb.mono HB0.size));obtain⟨c0,c1,c2,c3⟩:=HX _ hb;have asV:Ie (fs.take k)≤20*reachBytes:=by
   refine Ah (anZ _ reachBytes (fun c hc=>(Yp c (List.mem_of_mem_take hc)).2)) (Kj _ ?_);rw[Aw];omega
  unfold reachBytes at asV;clear hb;by_cases hlt:k < fs.length
  ·by_cases ad9:k < 20
   ·obtain⟨q,hix,hq,-⟩:=(HF.below HB2).index fc k hlt;obtain⟨d0,d1,d2⟩:=hq.cells;have hst:=anY fs k hlt;have hin:=Yp _ (BF hlt);unfold reachBytes at hin;have HST:=Hi hst;clear hst hq;generalize fs[k]=x at*;generalize Ie (fs.take k)=n at*;go_wp2_with fail;go_roundw
    case rel=>exact⟨k+1,by omega,by omega,by go_num,by rw[HST.out];go_num,HB⟩
    case measure=>simp[intOf];omega
   ·have HS:Hid (fs.length≤10→Ie (fs.take k)≤4096→Ie fs≤4096):=Hi (fun h=>by omega);have Ag:=Hi (HB.trans ((Am wr (.cells #[.int .i64 0,.slice a l.length cap,.slice none 0 0,.string (bs []),.bool false] 68)).mono HB.size));go_wp2_with fail;refine(adb (l:=l) (dX rfl ⟨rfl,rfl,rfl⟩) (HL.below (HB0.trans (Ag.mono HB0.size))) atv Es).mono ?_;rintro e w1⟨h1,rfl,hb1,Yq⟩;have HB1:=Hi (Ag.trans (hb1.mono Ag.size));have Rx:=Hi Yq;clear hb1 Yq c0 c1 c2 c3 Ag;obtain⟨c0,c1,c2,c3⟩:=HX _ HB1.out;cases h1 with
    |true=>
     go_wp2_with fail;go_ret;exact⟨true,rfl,HB0.trans (HB1.mono HB0.size),fun h=>by cases h⟩
    |false=>
     have GG:=Hi (HB1.trans ((Am w1 (.cells #[.int .i64 0,.slice ua us.length uc,.slice none 0 0,.string (bs [])] 72)).mono HB1.size));go_wp2_with fail;refine(adh (l:=us) (dX rfl ⟨rfl,rfl,rfl⟩) (HU.below (HB0.trans (GG.mono HB0.size))) adl adk).mono ?_;rintro e w2⟨h2,rfl,hb2,Yr⟩;have HB3:=Hi (GG.trans (hb2.mono GG.size));have JV:=Hi Yr;clear hb2 Yr c0 c1 c2 c3 GG;obtain⟨c0,c1,c2,c3⟩:=HX _ HB3.out;have HT:Hid (eu N l us fs w (.returned (.bool true)) w2):=Hi ⟨true,rfl,HB0.trans (HB3.mono HB0.size),fun h=>by cases h⟩;cases h2 with
     |true=>
      go_wp2_with fail;go_ret;exact HT.out
     |false=>
      have h10:(10:Int) < (fs.length:Int):=(by omega);go_wp2_with fail;go_ret;exact HT.out
  ·obtain rfl:k=fs.length:=(by omega);rw[Ck] at asV ⊢;have HS:Hid (fs.length≤10→Ie fs≤4096→Ie fs≤4096):=Hi (fun _ h=>h);have Ag:=Hi (HB.trans ((Am wr (.cells #[.int .i64 0,.slice a l.length cap,.slice none 0 0,.string (bs []),.bool false] 68)).mono HB.size));go_wp2_with fail;refine(adb (l:=l) (dX rfl ⟨rfl,rfl,rfl⟩) (HL.below (HB0.trans (Ag.mono HB0.size))) atv Es).mono ?_;rintro e w1⟨h1,rfl,hb1,Yq⟩;have HB1:=Hi (Ag.trans (hb1.mono Ag.size));have Rx:=Hi Yq;clear hb1 Yq c0 c1 c2 c3 Ag;obtain⟨c0,c1,c2,c3⟩:=HX _ HB1.out;cases h1 with
   |true=>
    go_wp2_with fail;go_ret;exact⟨true,rfl,HB0.trans (HB1.mono HB0.size),fun h=>by cases h⟩
   |false=>
    have GG:=Hi (HB1.trans ((Am w1 (.cells #[.int .i64 0,.slice ua us.length uc,.slice none 0 0,.string (bs [])] 72)).mono HB1.size));go_wp2_with fail;refine(adh (l:=us) (dX rfl ⟨rfl,rfl,rfl⟩) (HU.below (HB0.trans (GG.mono HB0.size))) adl adk).mono ?_;rintro e w2⟨h2,rfl,hb2,Yr⟩;have HB3:=Hi (GG.trans (hb2.mono GG.size));have JV:=Hi Yr;clear hb2 Yr c0 c1 c2 c3 GG;obtain⟨c0,c1,c2,c3⟩:=HX _ HB3.out;have HT:Hid (eu N l us fs w (.returned (.bool true)) w2):=Hi ⟨true,rfl,HB0.trans (HB3.mono HB0.size),fun h=>by cases h⟩;cases h2 with
    |true=>
     go_wp2_with fail;go_ret;exact HT.out
    |false=>
     have HG:Hid (∀ b,b=(decide ((10:Int) < (fs.length:Int)) || decide ((4096:Int) < (Ie fs:Int)) || decide (N < 8))→eu N l us fs w (.returned (.bool b)) w2):=Hi fun b hb=>⟨b,rfl,HB0.trans (HB3.mono HB0.size),fun g=>by
      obtain⟨x1,x2,x3,x4⟩:=Rx (by first|rfl|trivial);obtain⟨y1,y2,y3,y4⟩:=JV (by first|rfl|trivial);subst hb;simp only[Bool.or_eq_false_iff,decide_eq_false_iff_not] at g;exact⟨x1,x2,x3,y1,y2,y3,by omega,by omega,by omega,x4⟩⟩
     clear HS;generalize Ie fs=D at*;by_cases h10:(10:Int) < (fs.length:Int)
     ·go_wp2_with fail;go_ret;exact HT.out
     by_cases h4:(4096:Int) < (D:Int)
     ·go_wp2_with fail;go_ret;exact HT.out
     by_cases h8:N < 8
     ·go_wp2_with fail;go_ret;exact HG _ (by simp<;>omega)
     ·go_wp2_with fail;go_ret;exact HG _ (by simp<;>omega)
end Hv
section
open Go.RowKit Go.Maps
theorem qw(l m:List (List UInt8))(a a':Option Addr)(cap cap':Nat)(w:World)(hl:BB w a l)(hm:BB w a' m)(h1:l.length≤maxLen)(h2:m.length≤maxLen):
  Calls prog 24 #[.slice a l.length cap,.slice a' m.length cap'] w fun e w'=>e=.returned (.bool (decide (l=m)))∧Bw w w':=by
 unfold maxLen at h1 h2;by_cases hlen:l.length=m.length
 ·have HL:=Hi hl;have HM:=Hi hm;have atv:=Hi hlen;have hbe:((l.length:Int) == (m.length:Int))=true:=by simp[hlen]
  have hbn:((l.length:Int) != (m.length:Int))=false:=by simp[hlen]
  clear hl hm hlen;go_enter func24,ntmps24;go_wp2_with fail
  go_loopw [5] (fun i wr=>∃ k:Nat,k≤l.length∧i=.int .i64 k∧l.take k=m.take k∧Bw w wr) (fun i _=>l.length -(intOf i).toNat)
  case atStart=>exact⟨0,by omega,rfl,rfl,Ad _ _⟩
  case round=>
   obtain⟨k,hk,rfl,ht,hb⟩:=hrel;have HT:=Hi ht;have HB:=Hi hb;clear ht hb;by_cases hlt:k < l.length
   ·have adn:k < m.length:=(by rw[←atv.out];exact hlt);obtain⟨q,au8,hq⟩:=(HL.below HB).index cap k hlt;obtain⟨q',eB,hq'⟩:=(HM.below HB).index cap' k adn;have ado:l.take (k+1)=l.take k++[l[k]]:=BS hlt;have adp:m.take (k+1)=m.take k++[m[k]]:=BS adn;have hne:l[k]≠m[k]→l≠m:=fun h e=>h (by subst e;rfl)
    have O9:=Hi (BD ado adp);have Kh:=Hi hne;clear ado adp hne;generalize l[k]=x at*;generalize m[k]=y at*;by_cases hxy:x=y
    ·subst hxy;have HR:=Hi (show l.take (k+1)=m.take (k+1) by rw[O9.1,O9.2,HT.out]);go_wp2_with fail
     go_quiet (fail)
     go_wp2_with fail;go_roundw
     case rel=>exact⟨k+1,by omega,by go_num,HR,HB.trans ((DK wr _).mono HB.size)⟩
     case measure=>simp[intOf];omega
    ·have hb1:(x == y)=false:=(by simp[hxy]);have hb2:(x != y)=true:=(by simp[hxy]);have HR:=Hi (show decide (l=m)=false by simpa using Kh hxy);clear hxy;go_wp2_with fail
     go_quiet (fail)
     go_wp2_with fail;go_ret;rw[HR.out];exact⟨rfl,HB.trans ((DK wr _).mono HB.size)⟩
   ·obtain rfl:k=l.length:=by omega
    have HR:=Hi (show decide (l=m)=true by
     have h:=HT.out;rw[ET (Ab _),ET (by rw[atv.out];exact Ab _)] at h;simpa using h)
    go_wp2_with fail;go_ret;rw[HR.out];exact⟨rfl,HB⟩
 ·have hbe:((l.length:Int) == (m.length:Int))=false:=by simp;omega
  have hbn:((l.length:Int) != (m.length:Int))=true:=by simp;omega
  have HR:=Hi (show decide (l=m)=false by simp;exact fun e=>hlen (by rw[e]));clear hl hm hlen;go_enter func24,ntmps24;go_wp2_with fail;go_ret;rw[HR.out];exact⟨rfl,Ad _ _⟩
end
section
open Go.RowKit Go.WideShapes Go.ChangeShapes Go.Deep
structure adq(w:World)(v:Value)(l:List (List UInt8)):Prop where
 at_:∃ a cap,v=.slice a l.length cap∧BB w a l∧(a=none→cap=0)
 len:l.length≤maxLen
 all:∀ s∈l,s.length≤reachBytes
theorem adr{H:Type}{enc:TypeId×Value→H}{W:World}{base:Nat}{sp:Nat→Bool}{hd:Bool}{n:Nat}{cs:List Value}{y:DataW H×List MemPlace}
  (h:DataW.trod enc prog W base sp hd n 27 cs=some y)(hz:∀ n∈DataW.weights prog 27 y.1,n≤reachBytes):∃ v l,cs=[v]∧adq W v l:=by
 rcases Go.Deep.open_slice underlying27 h with⟨rfl,_⟩|⟨a,len,cap,m,k,D,Pl,rfl,_,hl,hm,hmm,hx,hi⟩
 ·exact⟨_,[],rfl,⟨none,0,rfl,fun i hi=>by simp at hi,fun _=>rfl⟩,by simp,by simp⟩
 ·have hC:prog.cellsOf 9=1:=by kernel_rfl
  rw[hC] at hi;have hlm:len≤m:=by rw[hmm];split<;>omega
  obtain⟨l,hll,hP⟩:=WE (P:=fun i (x:List UInt8)=>W.cell? (a.add i)=some (.string (bs x))∧x.length≤reachBytes) len (fun i hil=>by
   obtain⟨cs',h1,h2⟩:=hi i (by omega);obtain⟨_,hl1,hat⟩:=World.cells?_some h1;obtain⟨v,e1,e2,_⟩:=DataW.trod_string underlying9 h2;subst e1;refine⟨v.data.toList,?_,?_⟩
   ·have:=hat 0 (by omega);rw[add_zero',Nat.mul_one] at this;rw[this];rfl
   ·refine hz _ ?_;have hD:D i=.lit (.string v.data.toList):=congrArg Prod.fst e2;rw[hx];simp only[DataW.weights,underlying27];exact Dh _ (List.mem_append_left _ (Zq (AV.2 ⟨i,List.mem_range.2 hil,rfl⟩) (by rw[hD];simp[DataW.weights]))))
  refine⟨_,l,rfl,⟨some a,cap,by rw[hll],fun i hil=>⟨a,rfl,(hP i hil).1⟩,fun e=>by cases e⟩,by omega,fun x hxm=>?_⟩;obtain⟨i,hil,rfl⟩:=List.getElem_of_mem hxm;exact(hP i hil).2
theorem ao1{H:Type}{enc:TypeId×Value→H}{W:World}{base:Nat}{v:Value}{d:DataW H}{p:List MemPlace}
  (ho:Value.okWide prog W .any base 27 v)(h:DataW.Trod enc prog W 0 (fun _=>true) true 27 v d p)(hz:∀ n∈DataW.weights prog 27 d,(decide (n≤reachBytes))=true):∃ l,adq W v l:=by
 obtain⟨a0,len,cap,rfl⟩:=okWide_slice underlying27 ho;obtain⟨fuel,hf⟩:=h;obtain⟨v,l,e,ht⟩:=adr hf (fun n hn=>Ld (hz n hn));simp[Value.cells] at e;subst e;exact⟨l,ht⟩
end
section
open Go.RowKit Go.Maps
open Wal
theorem ao2{s:List UInt8}{j:Nat}(h:j < s.length):Crc.val (s.drop j)=s[j].toNat+256*Crc.val (s.drop (j+1)):=by
 rw[Na h];rfl
theorem ao3(s:List UInt8)(j:Nat)(h:s.length≤8)(hj:j+1≤s.length):256*Crc.val (s.drop (j+1))+256≤18446744073709551616:=by
 have h1:=Crc.Gg (s.drop (j+1));have h2:256 ^ (s.drop (j+1)).length≤256 ^ 7:=Nat.pow_le_pow_right (by decide) (by rw[BA];omega);have h3:(256:Nat) ^ 7=72057594037927936:=by decide
 omega
theorem qx(s:List UInt8)(w:World)(h8:s.length≤8):
  Calls prog 235 #[.string (bs s)] w fun e w'=>e=.returned (.int .u64 (Crc.val s:Nat))∧w=w':=by
 go_enter func235,ntmps235;go_wp2_with fail
 go_loop [3,4] (fun v i=>∃ j:Nat,j≤s.length∧i=.int .i64 ((j:Int) -1)∧v=.int .u64 (Crc.val (s.drop j):Nat)) (fun _ i=>(intOf i+1).toNat)
 case atStart=>exact⟨s.length,by omega,rfl,by rw[List.drop_length];rfl⟩
 case round=>
  obtain⟨j,hj,rfl,rfl⟩:=hrel;cases j with
  |zero=>
   rw[List.drop_zero];go_wp2_with fail;go_ret;exact⟨rfl,rfl⟩
  |succ j=>
   have e:((j+1:Nat):Int) -1=(j:Int):=(by omega);have hlt:j < s.length:=(by omega);have hv:=ao2 hlt;have hb:=ao3 s j h8 (by omega);have hc:=s[j].toNat_lt;simp only[e];clear e;have HV:=Hi hv;generalize Crc.val (s.drop (j+1))=V at*;have w1:IntKind.u64.wrap ((V:Int)*256)=(V:Int)*256:=IntWalk.u64_in _ (by omega);have w2:IntKind.u64.wrap ((s[j].toNat:Int))=(s[j].toNat:Int):=IntWalk.u64_in _ (by omega);have w3:IntKind.u64.wrap ((V:Int)*256+(s[j].toNat:Int))=(V:Int)*256+(s[j].toNat:Int):=IntWalk.u64_in _ (by omega);clear hv hb;go_wp2_with fail
   go_round
   case rel=>exact⟨j,by omega,rfl,by rw[HV.out];congr 1;omega⟩
   case measure=>simp[intOf]
theorem Yt(s:List UInt8)(w:World)(h:s.length≤65535):
  Calls prog 204 #[.string (bs s)] w fun e w'=>e=.returned (.tuple #[.string (bs (Crc.le 2 s.length++s)),.int .i64 0])∧Bw w w':=by
 go_enter func204,ntmps204;go_wp2_with fail;refine(YX s.length 2 _ (by omega) (by decide)).mono ?_;rintro e w1⟨rfl,hb⟩;go_wp2_with fail;go_ret2;exact⟨rfl,hb⟩
theorem Yu(s:List UInt8)(w:World)(h:65535 < s.length):
  Calls prog 204 #[.string (bs s)] w fun e w'=>e=.returned (.tuple #[.string (bs []),.int .i64 5])∧w=w':=by
 go_enter func204,ntmps204;go_wp2_with fail;go_ret2;exact⟨rfl,rfl⟩
theorem eD(s:List UInt8)(w:World)(hl:s.length≤1099511627776):
  Calls prog 236 #[.string (bs s)] w fun e w'=>e=.returned (.tuple #[.string (bs (Dx s).1),.int .i64 ((Dx s).2.1:Nat),.int .i64 (Dx s).2.2])∧w=w':=by
 by_cases h2:s.length < 2
 ·have hR:Hid (Dx s=([],0,6)):=Hi (by unfold Dx Fu;rw[Ac h2]);rw[hR.out];go_enter func236,ntmps236;go_wp2_with fail;go_ret3;exact⟨rfl,rfl⟩
 ·have hc2:∀ W,(Instr.slice 9 (.string (bs s)) none (some (.int .i64 2)) none).run prog W=.ok (.string (bs (s.take 2))) W:=fun W=>Ji prog W 9 underlying9 s 2 (by omega)
  have avm:(s.take 2).length=2:=by rw[Aw];omega
  have hv2:=Crc.Gg (s.take 2);rw[avm] at hv2;have hval:=fun(W:World)=>qx (s.take 2) W (by omega)
  have hR:Dx s=if 2+Crc.val (s.take 2)≤s.length then((s.take (2+Crc.val (s.take 2))).drop 2,2+Crc.val (s.take 2),0) else([],0,6):=by
   unfold Dx Fu;rw[Aa h2];by_cases hq:2+Crc.val (s.take 2)≤s.length
   ·rw[Ac hq,Ac hq]
   ·rw[Aa hq,Aa hq]
  generalize Crc.val (s.take 2)=v at*;have hv3:v < 65536:=hv2;have U0:=Hi hval;have HR:=Hi hR;have e2:IntKind.i64.wrap (v:Int)=(v:Int):=CZ _ (by omega);clear avm hv2 hval hR;by_cases h3:2+v≤s.length
  ·have uV:∀ W,(Instr.slice 9 (.string (bs s)) (some (.int .i64 2)) (some (.int .i64 (2+(v:Int)))) none).run prog W=.ok (.string (bs ((s.take (2+v)).drop 2))) W:=fun W=>by
    have:=Um prog W 9 underlying9 s 2 (2+v) (by omega) h3;rw[Int.natCast_add] at this;exact this
   have HR2:=Hi (HR.trans (Ac h3));go_enter func236,ntmps236;go_wp2_with fail;refine(U0 _).mono ?_;rintro e w1⟨rfl,rfl⟩;go_wp2_with fail;go_ret3;rw[HR2.out];exact⟨rfl,rfl⟩
  ·have HR2:=Hi (HR.trans (Aa h3));go_enter func236,ntmps236;go_wp2_with fail;refine(U0 _).mono ?_;rintro e w1⟨rfl,rfl⟩;go_wp2_with fail;go_ret3;rw[HR2.out];exact⟨rfl,rfl⟩
def eF(l:List (List UInt8))(k:Nat)(v:Value):Prop:=∃ S,v=.string (bs (Crc.le 2 l.length++S))∧textsE (l.take k)=some S
theorem eF.next{l:List (List UInt8)}{k:Nat}{S x:List UInt8}(h:textsE (l.take (k+1))=(CO x).map (S++ ·))(hx:x.length≤65535){v:Value}(hv:v=.string (bs (Crc.le 2 l.length++(S++(Crc.le 2 x.length++x))))):eF l (k+1) v:=
 ⟨S++(Crc.le 2 x.length++x),hv,by rw[h];unfold CO;rw[Ac hx];rfl⟩
theorem ao4(s:List UInt8)(w:World)(hs:s.length≤1000000000):
  Calls prog 211 #[.string (bs s)] w fun e w'=>Il w s e w':=by
 by_cases h2:s.length < 2
 ·have hR:Hid (C9 s=none):=Hi (by unfold C9;rw[Ac h2]);go_enter func211,ntmps211;go_wp2_with fail;go_ret2;exact Hy hR.out rfl (Ad _ _)
 ·have hc2:∀ W,(Instr.slice 9 (.string (bs s)) none (some (.int .i64 2)) none).run prog W=.ok (.string (bs (s.take 2))) W:=fun W=>Ji prog W 9 underlying9 s 2 (by omega)
  have hc3:∀ W,(Instr.slice 9 (.string (bs s)) (some (.int .i64 2)) none none).run prog W=.ok (.string (bs (s.drop 2))) W:=fun W=>Ik prog W 9 underlying9 s 2 (by omega)
  have avm:(s.take 2).length=2:=by rw[Aw];omega
  have hv2:=Crc.Gg (s.take 2);rw[avm] at hv2;have hval:=fun(W:World)=>qx (s.take 2) W (by omega)
  have hrr:C9 s=(readTs (Crc.val (s.take 2)) (s.drop 2)).bind fun q=>if q.2=[] then some q.1 else none:=by unfold C9;rw[Aa h2]
  generalize Crc.val (s.take 2)=n at*;have jY:n < 65536:=hv2;have U0:=Hi hval;have HRR:=Hi hrr;have e2:IntKind.i64.wrap (n:Int)=(n:Int):=CZ _ (by omega);clear avm hv2 hval hrr;go_enter func211,ntmps211;go_wp2_with fail;refine(U0 _).mono ?_;rintro e w1⟨rfl,rfl⟩;go_wp2_with fail
  go_loopw [0,5,6] (fun sv lv i wr=>∃ (j:Nat) (S:List UInt8) (l:List (List UInt8)),j≤n∧i=.int .i64 j∧sv=.string (bs S)∧wr.ownsRow 0 9 1 lv l.length (strCells l)∧l.length=j∧S.length≤s.length∧Bw w wr∧(∀ g,lv.ownBlock=some g→w.heap.size≤g)∧readTs n (s.drop 2)=(readTs (n -j) S).map fun q=>(l++q.1,q.2)) (fun _ _ i _=>n -(intOf i).toNat)
  case atStart=>exact⟨0,s.drop 2,[],by omega,rfl,rfl,by rw[WM];exact DJ _ _ _ _,rfl,by rw[BA];omega,Ad _ _,fun g e=>by simp[Value.ownBlock] at e,by simp⟩
  case round=>
   obtain⟨j,S,l,hj,rfl,rfl,hown,hll,RX,hb,avn,hrs⟩:=hrel;have HO:=Hi hown;have HB:=Hi hb;have HN:=Hi avn;have Dn:=Hi hrs;have JF:=Hi hll;obtain⟨qv,cv,rfl⟩:=AA hown;clear hown hb avn hrs hll hc2 hc3;by_cases hlt:j < n
   ·cases hr:Fu S with
    |none=>
     have hR:Hid (C9 s=none):=Hi (by rw[HRR.out,Ur hlt Dn hr];rfl);have qy:Hid (Dx S=([],0,6)):=Hi (by unfold Dx;rw[hr]);clear hr;go_wp2_with fail;refine(eD S _ (by omega)).mono ?_;rw[qy.out];rintro e w2⟨rfl,rfl⟩;go_wp2_with fail;go_ret2;exact Hy hR.out rfl HB.out
    |some r=>
     obtain⟨t,m⟩:=r;have qy:Hid (Dx S=(t,m,0)):=Hi (by unfold Dx;rw[hr]);have RY:=Hi (Uq hlt Dn hr);obtain⟨_,hmS,_⟩:=RN hr;have hcut:∀ W,(Instr.slice 9 (.string (bs S)) (some (.int .i64 (m:Int))) none none).run prog W=.ok (.string (bs (S.drop m))) W:=fun W=>Ik prog W 9 underlying9 S m hmS
     obtain⟨i0,hi0,hz0,hz1,hz2⟩:=Cz Nr;have hlb:l.length≤65536:=(by have:=JF.out;omega);clear hr;go_wp2_with fail;refine(eD S _ (by omega)).mono ?_;rw[qy.out];rintro e w2⟨rfl,rfl⟩
     go_wp2_with (
      at_builtin
      refine wpList_append_own_at _ rfl _ _ _ rfl 0 9 i0 _ 1 16 underlying27 hi0 hz0 hz1 hz2 rfl (by omega) (.slice qv l.length cv) l.length (strCells l) rfl (HO.alloc _) ⟨wr.heap.size,0,none⟩ 1 1 [.string (bs t)] rfl rfl (World.news_of_block (cs:=#[.string (bs t)]) (t:=9) (fr:=(0,0)) (Aq wr _)) (fun u hu=>by rw[DT] at hu;subst hu;rfl) (by unfold maxLen;omega) (by omega) (Ar _) ?_;intro v' w6 hown asx _ hat;have HO6:=Hi (show w6.ownsRow 0 9 1 v' (l++[t]).length (strCells (l++[t])) by rw[Mi,Aj];exact hown);have Em:=Hi ((HB.alloc HB.size (.cells #[.string (bs t)] 9)).grown asx (Ah HB.size (by rw[Ai];omega)) HN)
      have HN6:=Hi (show ∀ g,v'.ownBlock=some g→w.heap.size≤g from fun g hg=>by
       rcases hat with hat|hat
       ·rw[hat] at hg;exact HN g hg
       ·rw[hat] at hg;have:=EH hg;rw[Ai] at this;have:=HB.size;omega)
      clear hown asx hat)
     go_roundw
     case rel=>exact⟨j+1,S.drop m,l++[t],by omega,by go_num,rfl,HO6,by rw[Aj,JF.out];rfl,by rw[BA];omega,Em,HN6,RY⟩
     case measure=>simp[intOf];omega
   ·obtain rfl:j=n:=(by omega);by_cases hS:S=[]
    ·subst hS;have hR:Hid (C9 s=some l):=Hi (by rw[HRR.out,Dn.out,Nat.sub_self];simp[readTs]);go_wp2_with fail;go_ret2;exact Wu hR.out rfl HO HB HN.out
    ·have hR:Hid (C9 s=none):=Hi (by rw[HRR.out,Dn.out,Nat.sub_self];simp[readTs,hS]);have hne:S.isEmpty=false:=by
      cases S with
      |nil=>exact absurd rfl hS
      |cons=>rfl
     clear hS;go_wp2_with fail;go_ret2;exact Hy hR.out rfl HB.out
end
end Go.Proofs.YtmbbhdebddbhoaaGreat
