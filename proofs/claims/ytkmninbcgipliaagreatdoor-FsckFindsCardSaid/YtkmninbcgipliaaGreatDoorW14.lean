/- HvS REnt RPut ManE -/
import Derived.Test.YtkmninbcgipliaaGreatDoorW13
set_option maxHeartbeats 8000000
set_option maxRecDepth 100000
set_option linter.all false
namespace Go.Proofs.YtkmninbcgipliaaGreatDoor
open Go.Proofs.Tryz
open Go.RowKit
open Go.Maps
namespace Hv
open Aw Ah Bu Kp Bz Hex BH Al Mem Ci
open Aq
def Kl(l:M):Nat:=(l.map fun p=>p.1.length+p.2.length).sum
def PG(l:M):Nat:=(l.map fun p=>p.1.length+min p.2.length 8192).sum
theorem aAt(l:M)(k:Nat)(h:k < l.length):Kl (l.take (k+1))=Kl (l.take k)+l[k].1.length+l[k].2.length:=by
 unfold Kl;rw[Cr h,CQ,LX];simp;omega
theorem aAr(l:M)(k:Nat)(h:k < l.length):PG (l.take (k+1))=PG (l.take k)+l[k].1.length+min l[k].2.length 8192:=by
 unfold PG;rw[Cr h,CQ,LX];simp;omega
theorem aAs(l:M)(b:Nat)(h:∀ c∈l,c.1.length≤b∧c.2.length≤b):Kl l≤l.length*(2*b):=by
 unfold Kl
 induction l with
 |nil=>simp
 |cons c l ih=>
  have h1:=ih (fun x hx=>h x (Fs _ hx));have h2:=h c Gl;rw[Ce,DY,BM,Nat.succ_mul];omega
theorem aAq(l:M)(b:Nat)(h:∀ c∈l,c.1.length≤b):PG l≤l.length*(b+8192):=by
 unfold PG
 induction l with
 |nil=>simp
 |cons c l ih=>
  have h1:=ih (fun x hx=>h x (Fs _ hx));have h2:=h c Gl;rw[Ce,DY,BM,Nat.succ_mul];omega
theorem anO(l:M):∀ c∈l,c.1.length+c.2.length≤Kl l:=by
 unfold Kl
 induction l with
 |nil=>intro x hx;simp at hx
 |cons y l ih=>
  intro x hx;rw[Ce,DY];rcases Ch.1 hx with rfl|hx
  ·omega
  ·have:=ih x hx;omega
def YX(l:M):Bool:=decide (200 < l.length) || decide (262144 < Kl (l.take 400))
theorem azd{l:M}(h:YX l=false):l.length≤200∧Kl l≤262144:=by
 unfold YX at h;simp only[Bool.or_eq_false_iff,decide_eq_false_iff_not] at h;obtain⟨h1,h2⟩:=h;rw[Gx (by omega)] at h2;exact⟨by omega,by omega⟩
theorem azc{w:World}{a:Option Addr}{cap:Nat}{l:M}(hL:Bg w a l)(hlen:l.length≤maxLen)(hok:∀ c∈l,c.1.length≤reachBytes∧c.2.length≤reachBytes):
  Calls prog 89 #[.slice a l.length cap] w (Rt w (.bool (YX l))):=by
 have HL:=Hi hL;have Gy:=Hi hok;have FK:l.length≤9223372036854775807:=by unfold maxLen at hlen;omega
 clear hL hok hlen
 go_in
 go_wp2
 go_loopw [3,4] (fun n i wr=>∃ k:Nat,k≤l.length∧k≤400∧i=.int .i64 k∧n=.int .i64 (Kl (l.take k))∧Bw w wr) (fun _ i _=>400 -(intOf i).toNat)
 case atStart=>exact⟨0,AV _,by omega,rfl,by rw[Gm];rfl,Ai _ _⟩
 case round=>
  obtain⟨k,hk,J8,rfl,rfl,hb⟩:=hrel;have HB:=Hi hb;have Df:Kl (l.take k)≤400*(2*reachBytes):=by
   refine Ay (aAs _ reachBytes (fun c hc=>Gy c (List.mem_of_mem_take hc))) (PN _ ?_);rw[Bc];omega
  unfold reachBytes at Df;by_cases hlt:k < l.length
  ·by_cases aj9:k < 400
   ·obtain⟨q,Cn,hq,-⟩:=HL.index cap k hlt;have SL:q.block < w.heap.size:=Cv hq.key;have c0:=(hb.cell SL).trans hq.key;have c1:=(hb.cell (p:=⟨q.block,q.off+1,none⟩) SL).trans hq.val;have Bj:=aAt l k hlt;have Dj:=Gy _ (CK hlt);unfold reachBytes at Dj;have Ba:=Hi Bj;clear Bj hq hb;generalize l[k]=x at*;generalize Kl (l.take k)=n at*;go_wp2
    go_quiet (fail)
    go_wp2;go_roundw
    case rel=>exact⟨k+1,by omega,by omega,by go_num,by rw[Ba.out];go_num,HB.trans ((FP _ _).mono HB.size)⟩
    case measure=>simp[intOf];omega
   ·have hV:Hid (YX l=true):=Hi (by unfold YX;rw[LY (show 200 < l.length by omega)];rfl);have ZZ:(200:Int) < (l.length:Int):=(by omega);clear hb;go_wp2;go_ret;exact⟨by rw[hV.out];rfl,HB⟩
  ·obtain rfl:k=l.length:=(by omega);rw[D5] at Df;have hV:YX l=(decide (200 < l.length) || decide (262144 < Kl l)):=by
    unfold YX;by_cases h:200 < l.length
    ·simp[h]
    ·rw[Gx (by omega)]
   have HV:=Hi hV;rw[D5];clear hb hV;generalize Kl l=n at*;by_cases ZZ:200 < l.length
   ·have avY:(200:Int) < (l.length:Int):=(by omega);rw[LY ZZ,Bool.true_or] at HV;clear ZZ;go_wp2;go_ret;exact⟨by rw[HV.out];rfl,HB⟩
   ·have avY:¬ (200:Int) < (l.length:Int):=(by omega);rw[decide_eq_false ZZ,Bool.false_or] at HV;clear ZZ;go_wp2;go_ret;have uk:decide ((262144:Int) < (n:Int))=decide (262144 < n):=decide_eq_decide.2 (by omega);exact⟨by rw[HV.out,←uk];rfl,HB⟩
structure dX(w:World)(q:Addr)(v:Value):Prop where
 l:w.cell? ⟨q.block,q.off+1,none⟩=some v
 k:w.cell? ⟨q.block,q.off+2,none⟩=some ↑()
 t:w.cell? ⟨q.block,q.off+3,none⟩=some (.string (bs []))
theorem dX.below{w w':World}{q:Addr}{v:Value}(h:dX w q v)(hb:Bw w w'):dX w' q v:=by
 have hl:=Cv h.l;exact⟨(hb.cell (p:=⟨q.block,q.off+1,none⟩) hl).trans h.l,(hb.cell (p:=⟨q.block,q.off+2,none⟩) hl).trans h.k,(hb.cell (p:=⟨q.block,q.off+3,none⟩) hl).trans h.t⟩
theorem wH{w:World}{v:Value}{t:TypeId}{g:Nat}{cs:Array Value}(hg:w.heap.size=g)(hc:cs[1]?=some v∧cs[2]?=some (.slice none 0 0)∧cs[3]?=some (.string (bs []))):dX (w.alloc (.cells cs t)) ⟨g,0,none⟩ v:=by
 subst hg;have hx:=AU w (.cells cs t);obtain⟨h1,h2,h3⟩:=hc;refine⟨?_,?_,?_⟩<;>(unfold World.cell?;rw[hx];simpa)
def agE(N:Int)(l:M)(w:World)(e:Ending)(w':World):Prop:=∃ h,e=.returned (.bool h)∧Bw w w'∧(h=false→l.length≤20∧Kl l≤262144∧PG l≤16384∧N≤200)
theorem ake{N:Int}{q:Addr}{a:Option Addr}{cap:Nat}{l:M}{w:World}(hs:dX w q (.slice a l.length cap))(hL:Bg w a l)(hlen:l.length≤maxLen)(hok:∀ c∈l,c.1.length≤reachBytes∧c.2.length≤reachBytes):
  Calls prog 36 #[.int .i64 N,.slice (some q) 1 1] w fun e w'=>agE N l w e w':=by
 have HL:=Hi hL;have Gy:=Hi hok;have HS:=Hi hs;have FO:=Hi hlen;have FK:l.length≤9223372036854775807:=by unfold maxLen at hlen;omega
 clear hL hok hlen hs;have aH:∀ W,(Instr.indexAt 91 (.slice (some q) 1 1) (.int .i64 0)).run prog W=.ok (.pointer (some q)) W:=fun W=>by
  have:=Hy prog _ 90 underlying91 5 (by kernel_rfl) q 1 1 0 (by omega) W;rw[Nat.zero_mul,add_zero'] at this;exact this
 go_in
 go_wp2
 go_loopw [5,6] (fun n i wr=>((i=.int .i64 0∧n=.int .i64 0)∨(i=.int .i64 1∧n=.int .i64 (PG l)∧l.length≤20∧Kl l≤262144))∧Bw w wr) (fun _ i _=>1 -(intOf i).toNat)
 case atStart=>exact⟨.inl ⟨rfl,rfl⟩,Ai _ _⟩
 case round=>
  obtain⟨hi,hb⟩:=hrel;have HB:=Hi hb;rcases hi with⟨rfl,rfl⟩|⟨rfl,rfl,Va,Df⟩
  ·obtain⟨c1,c2,c3⟩:=HS.below hb;clear hb;go_wp2_with fail;refine(azc (HL.below HB) FO Gy).mono ?_;rintro e w1⟨rfl,Ak⟩;have HB1:=bH HB Ak;obtain⟨c1,c2,c3⟩:=HS.below HB1.out;clear Ak;cases hV:YX l with
   |true=>
    go_wp2;go_ret;exact⟨true,rfl,HB1,fun h=>by cases h⟩
   |false=>
    have HV:=Hi (azd hV);clear hV;by_cases Va:20 < l.length
    ·have abq:(20:Int) < (l.length:Int):=(by omega);go_wp2;go_ret;exact⟨true,rfl,HB1,fun h=>by cases h⟩
    have abq:¬ (20:Int) < (l.length:Int):=(by omega);go_wp2
    go_loopw [5,7] (fun n j wr=>∃ m:Nat,m≤l.length∧j=.int .i64 m∧n= ↑((PG (l.take m):Nat):Int)∧Bw w wr) (fun _ j _=>20 -(intOf j).toNat)
    case atStart=>exact⟨0,by omega,rfl,by simp[PG],HB1⟩
    case round=>
     obtain⟨m,hm,rfl,rfl,Ac⟩:=hrel;have Aj:=Hi Ac;obtain⟨c1,c2,c3⟩:=HS.below Ac;have X3:=aAq (l.take m) reachBytes (fun s hs=>(Gy s (List.mem_of_mem_take hs)).1);rw[Bc,Iq hm] at X3;have bn:PG (l.take m)≤20*(reachBytes+8192):=Ay X3 (PN _ (by omega));unfold reachBytes at bn;by_cases Vo:m < l.length
     ·obtain⟨q2,acd,Dw,-⟩:=HL.index cap m Vo;have SL:q2.block < w.heap.size:=Cv Dw.key;have d0:=(Ac.cell SL).trans Dw.key;have d1:=(Ac.cell (p:=⟨q2.block,q2.off+1,none⟩) SL).trans Dw.val;have FU:=aAr l m Vo;have CS:=Gy l[m] (CK Vo);unfold reachBytes at CS;have MO:=Hi FU;clear FU X3 Dw Ac;generalize l[m]=s at*;generalize PG (l.take m)=T at*;have hmn:(if(8192:Int) < (s.2.length:Int) then(8192:Int) else(s.2.length:Int))=((min s.2.length 8192:Nat):Int):=(by split<;>omega);go_wp2
      go_quiet (fail)
      go_wp2;go_roundw
      case rel=>exact⟨m+1,by omega,by go_num,by rw[MO.out];go_num,Aj.trans ((FP _ _).mono Aj.size)⟩
      case measure=>simp[intOf];omega
     ·obtain rfl:m=l.length:=(by omega);rw[D5] at bn ⊢;clear X3 Vo Ac;go_wp2
      go_loopw [5,8] (fun n j wr=>j=.int .i64 0∧n= ↑((PG l:Nat):Int)∧Bw w wr) (fun _ j _=>1)
      case atStart=>exact⟨rfl,rfl,Aj⟩
      case round=>
       obtain⟨rfl,rfl,Av⟩:=hrel;have Au:=Hi Av;obtain⟨c1,c2,c3⟩:=HS.below Av;clear Av;go_wp2;go_roundw
       case rel=>exact⟨.inr ⟨rfl,rfl,by omega,HV.2⟩,Au.out⟩
       case measure=>simp[intOf]
  ·clear hb
   have HP:Hid (∀ b,b=(decide (16384 < (PG l:Int)) || decide (200 < N))→agE N l w (.returned (.bool b)) wr):=Hi (fun b hb=>⟨b,rfl,HB,fun h=>by
    subst hb;simp only[Bool.or_eq_false_iff,decide_eq_false_iff_not] at h;exact⟨Va,Df,by omega,by omega⟩⟩)
   clear Df;generalize PG l=C at*;by_cases h81:(16384:Int) < (C:Int)
   ·go_wp2;go_ret;exact HP _ (by simp;omega)
   by_cases h1:200 < N
   ·go_wp2;go_ret;exact HP _ (by simp;omega)
   ·go_wp2;go_ret;exact HP _ (by simp;omega)
def NT(l:List T):Nat:=(l.map fun s=>2+min s.length 4096).sum
def IP(l:Us):Nat:=(l.map fun u=>u.1.length+NT u.2).sum
theorem ayG(l:List T)(k:Nat)(h:k < l.length):NT (l.take (k+1))=NT (l.take k)+2+min l[k].length 4096:=by
 unfold NT;rw[Cr h,CQ,LX];simp;omega
theorem aDB(l:Us)(k:Nat)(h:k < l.length):IP (l.take (k+1))=IP (l.take k)+l[k].1.length+NT l[k].2:=by
 unfold IP;rw[Cr h,CQ,LX];simp;omega
theorem amj(l:List T):NT l≤l.length*4098:=by
 unfold NT
 induction l with
 |nil=>simp
 |cons x l ih=>
  rw[Ce,DY,BM,Nat.succ_mul];omega
theorem aDA(l:Us)(b:Nat)(h:∀ u∈l,u.1.length≤b∧u.2.length≤30):IP l≤l.length*(b+30*4098):=by
 unfold IP
 induction l with
 |nil=>simp
 |cons c l ih=>
  have h1:=ih (fun x hx=>h x (Fs _ hx));have h2:=h c Gl;have h3:=amj c.2;have h4:c.2.length*4098≤30*4098:=PN _ h2.2;rw[Ce,DY,BM,Nat.succ_mul];omega
theorem apT(l:Us):∀ c∈l,c.1.length≤IP l:=by
 unfold IP
 induction l with
 |nil=>intro x hx;simp at hx
 |cons y l ih=>
  intro x hx;rw[Ce,DY];rcases Ch.1 hx with rfl|hx
  ·omega
  ·have:=ih x hx;omega
def agF(N:Int)(l:Us)(w:World)(e:Ending)(w':World):Prop:=∃ h,e=.returned (.bool h)∧Bw w w'∧(h=false→l.length≤20∧(∀ u∈l,u.2.length≤30)∧IP l≤16384∧N≤200)
theorem akf{N:Int}{q:Addr}{a:Option Addr}{cap:Nat}{l:Us}{w:World}(hs:dX w q (.slice a l.length cap))(hL:NF w a l)(hlen:l.length≤maxLen)(hok:∀ c∈l,c.1.length≤reachBytes∧c.2.length≤maxLen):
  Calls prog 37 #[.int .i64 N,.slice (some q) 1 1] w fun e w'=>agF N l w e w':=by
 have HL:=Hi hL;have Gy:=Hi hok;have HS:=Hi hs;have FO:=Hi hlen;have FK:l.length≤9223372036854775807:=by unfold maxLen at hlen;omega
 clear hL hok hlen hs;have aH:∀ W,(Instr.indexAt 95 (.slice (some q) 1 1) (.int .i64 0)).run prog W=.ok (.pointer (some q)) W:=fun W=>by
  have:=Hy prog _ 94 underlying95 4 (by kernel_rfl) q 1 1 0 (by omega) W;rw[Nat.zero_mul,add_zero'] at this;exact this
 obtain⟨i0,Bh,AY,AZ,Bb⟩:=Dy aDF
 go_in
 go_wp2
 go_loopw [5,6] (fun n i wr=>((i=.int .i64 0∧n=.int .i64 0)∨(i=.int .i64 1∧n=.int .i64 (IP l)∧l.length≤20∧∀ u∈l,u.2.length≤30))∧Bw w wr) (fun _ i _=>1 -(intOf i).toNat)
 case atStart=>exact⟨.inl ⟨rfl,rfl⟩,Ai _ _⟩
 case round=>
  obtain⟨hi,hb⟩:=hrel;have HB:=Hi hb;rcases hi with⟨rfl,rfl⟩|⟨rfl,rfl,Va,Gt⟩
  ·obtain⟨c1,c2,c3⟩:=HS.below hb;clear hb;by_cases Va:20 < l.length
   ·have abq:(20:Int) < (l.length:Int):=(by omega);go_wp2;go_ret;exact⟨true,rfl,HB,fun h=>by cases h⟩
   have abq:¬ (20:Int) < (l.length:Int):=(by omega);go_wp2
   go_loopw [5,7] (fun n j wr=>j=.int .i64 0∧n=.int .i64 0∧Bw w wr) (fun _ j _=>1)
   case atStart=>exact⟨rfl,rfl,HB⟩
   case round=>
    obtain⟨rfl,rfl,Av⟩:=hrel;have Au:=Hi Av;obtain⟨c1,c2,c3⟩:=HS.below Av;clear Av;go_wp2
    go_loopw [5,8] (fun n j wr=>∃ m:Nat,m≤l.length∧j=.int .i64 m∧n= ↑((IP (l.take m):Nat):Int)∧Bw w wr∧∀ u∈l.take m,u.2.length≤30) (fun _ j _=>20 -(intOf j).toNat)
    case atStart=>exact⟨0,by omega,rfl,by simp[IP],Au,by simp⟩
    case round=>
     obtain⟨m,hm,rfl,rfl,Ac,Gt⟩:=hrel;have Aj:=Hi Ac;obtain⟨c1,c2,c3⟩:=HS.below Ac;have KH:=Hi Gt;have X3:=aDA (l.take m) reachBytes (fun s hs=>⟨(Gy s (List.mem_of_mem_take hs)).1,Gt s hs⟩);rw[Bc,Iq hm] at X3;have bn:IP (l.take m)≤20*(reachBytes+30*4098):=Ay X3 (PN _ (by omega));unfold reachBytes at bn;by_cases Vo:m < l.length
     ·obtain⟨q2,acd,Dw⟩:=(HL.below Ac).index cap m Vo;obtain⟨kq,kc,d1,mE,fT⟩:=Dw.keys;have d0:=Dw.run;have FU:=aDB l m Vo;have CS:=Gy l[m] (CK Vo);unfold reachBytes maxLen at CS;have MO:=Hi FU;have CL:Hid (∀ x∈l.take (m+1),x∈l.take m∨x=l[m]):=Hi fun x hx=>by
       rw[Cr Vo] at hx;rcases Es.1 hx with h|h
       ·exact .inl h
       ·exact .inr (by simpa using h)
      have yV:=Hi mE;clear FU X3 Dw Ac mE fT Gt;generalize l[m]=s at*;generalize IP (l.take m)=U at*;have Ar:=Hi (Aj.trans ((AQ wr (.cells #[s.1,.slice kq s.2.length kc] 63)).mono Aj.size));by_cases h30:30 < s.2.length
      ·have avT:(30:Int) < (s.2.length:Int):=(by omega);go_wp2;go_ret;exact⟨true,rfl,Ar,fun h=>by cases h⟩
      have avT:¬ (30:Int) < (s.2.length:Int):=(by omega);go_wp2_with fail;have HA:=Hi (AU wr (.cells #[s.1,.slice kq s.2.length kc] 63));have HKA:=Hi (yV.below (AQ wr (.cells #[s.1,.slice kq s.2.length kc] 63)));have e1:(wr.alloc (.cells #[s.1,.slice kq s.2.length kc] 63)).cell? ⟨wr.heap.size,1,none⟩=some (.slice kq s.2.length kc):=by
       unfold World.cell?;rw[HA.out];rfl
      generalize wr.alloc (.cells #[s.1,.slice kq s.2.length kc] 63)=wa at*;generalize wr.heap.size=g at*;have e0:((U:Nat):Int)+(s.1.length:Int)=((U+s.1.length:Nat):Int):=(by omega);simp only[e0];clear e0
      go_loopw [5,10] (fun n j wr2=>∃ r:Nat,r≤s.2.length∧j=.int .i64 r∧n= ↑((U+s.1.length+NT (s.2.take r):Nat):Int)∧Bw wa wr2) (fun _ j _=>30 -(intOf j).toNat)
      case atStart=>exact⟨0,by omega,rfl,by simp[NT],Ai _ _⟩
      case round=>
       obtain⟨r,hr,rfl,rfl,AB⟩:=hrel;have AX:=Hi AB;have ny:g < wa.heap.size:=Cv e1;have e2:=(AB.cell (p:=⟨g,1,none⟩) ny).trans e1;have Vq:=amj (s.2.take r);rw[Bc,Iq hr] at Vq;have axO:NT (s.2.take r)≤30*4098:=Ay Vq (PN _ (by omega));clear Vq;by_cases aZ:r < s.2.length
       ·obtain⟨q3,aFV,KN⟩:=(HKA.below AB).index kc r aZ;have Rw:=ayG s.2 r aZ;have jU:=Hi Rw;clear Rw AB;generalize s.2[r]=t at*;generalize NT (s.2.take r)=O at*;have e0:((U+s.1.length+O:Nat):Int)=(U:Int)+(s.1.length:Int)+(O:Int):=(by omega);simp only[e0];clear e0;go_wp2_with fail;refine⟨⟨r+1,by omega,by go_num,?_,AX⟩,by simp[intOf];omega⟩;rw[jU.out]
        congr 1
        omega
       ·obtain rfl:r=s.2.length:=(by omega);rw[D5] at axO ⊢;have G8:(U+s.1.length+NT s.2:Nat)=IP (l.take (m+1)):=MO.symm;rw[G8];clear G8 aZ AB
        have HR:=Hi (show ∀ y∈l.take (m+1),y.2.length≤30 from fun y hy=>by
         rcases CL y hy with h|h
         ·exact KH y h
         ·subst h;omega)
        go_wp2;go_roundw
        case rel=>exact⟨m+1,by omega,by go_num,rfl,Ar.trans (AX.mono Ar.size),HR⟩
        case measure=>simp[intOf];omega
     ·obtain rfl:m=l.length:=(by omega);rw[D5] at bn Gt ⊢;clear X3 Vo Ac;have arb:=Hi Gt;clear Gt;go_wp2;go_roundw
      case rel=>exact⟨.inr ⟨rfl,rfl,by omega,arb⟩,Aj.out⟩
      case measure=>simp[intOf]
  ·clear hb
   have HP:Hid (∀ b,b=(decide (16384 < (IP l:Int)) || decide (200 < N))→agF N l w (.returned (.bool b)) wr):=Hi (fun b hb=>⟨b,rfl,HB,fun h=>by
    subst hb;simp only[Bool.or_eq_false_iff,decide_eq_false_iff_not] at h;exact⟨Va,Gt,by omega,by omega⟩⟩)
   clear Gt;generalize IP l=C at*;by_cases h81:(16384:Int) < (C:Int)
   ·go_wp2;go_ret;exact HP _ (by simp;omega)
   by_cases h1:200 < N
   ·go_wp2;go_ret;exact HP _ (by simp;omega)
   ·go_wp2;go_ret;exact HP _ (by simp;omega)
def Ma(l:List Am):Nat:=(l.map fun c=>c.data.length).sum
theorem aty(l:List Am)(k:Nat)(h:k < l.length):Ma (l.take (k+1))=Ma (l.take k)+l[k].data.length:=by
 unfold Ma;rw[Cr h,CQ,LX];simp
theorem atx(l:List Am)(b:Nat)(h:∀ c∈l,c.data.length≤b):Ma l≤l.length*b:=by
 unfold Ma
 induction l with
 |nil=>simp
 |cons c l ih=>
  have h1:=ih (fun x hx=>h x (Fs _ hx));have h2:=h c Gl;rw[Ce,DY,BM,Nat.succ_mul];omega
structure qY(N:Int)(l:M)(us:Us)(fs:List Am):Prop where
 vH:l.length≤20
 vJ:Kl l≤262144
 aGy:PG l≤16384
 u20:us.length≤20
 uks:∀ u∈us,u.2.length≤30
 xM:IP us≤16384
 f10:fs.length≤10
 aiz:Ma fs≤4096
 n8:8≤N
 n200:N≤200
def qV(N:Int)(l:M)(us:Us)(fs:List Am)(w:World)(e:Ending)(w':World):Prop:=∃ h,e=.returned (.bool h)∧Bw w w'∧(h=false→qY N l us fs)
theorem ax3{N:Int}{a ua fa:Option Addr}{cap uc fc:Nat}{l:M}{us:Us}{fs:List Am}{w:World}(hL:Bg w a l)(hlen:l.length≤maxLen)(hok:∀ c∈l,c.1.length≤reachBytes∧c.2.length≤reachBytes)
  (hU:NF w ua us)(ng:us.length≤maxLen)(nk:∀ c∈us,c.1.length≤reachBytes∧c.2.length≤maxLen)(hF:Eh w fa fs)(aks:fs.length≤maxLen)(lZ:∀ c∈fs,c.name.length≤reachBytes∧c.data.length≤reachBytes):
  Calls prog 11 #[.agg #[.int .i64 N,.slice a l.length cap,.slice ua us.length uc,.slice fa fs.length fc]] w fun e w'=>qV N l us fs w e w':=by
 have HL:=Hi hL;have Gy:=Hi hok;have FO:=Hi hlen;have HU:=Hi hU;have agz:=Hi nk;have agw:=Hi ng;have HF:=Hi hF;have jB:=Hi lZ;have FK:fs.length≤9223372036854775807:=by unfold maxLen at aks;omega
 clear hL hok hlen hU nk ng hF lZ aks
 go_in
 go_wp2_with fail;have AP:=Hi (AQ w (.cells #[.int .i64 N,.slice a l.length cap,.slice ua us.length uc,.slice fa fs.length fc] 34));have hx:=AU w (.cells #[.int .i64 N,.slice a l.length cap,.slice ua us.length uc,.slice fa fs.length fc] 34);generalize ny:w.alloc (.cells #[.int .i64 N,.slice a l.length cap,.slice ua us.length uc,.slice fa fs.length fc] 34)=wa at*;have HX:Hid (∀ wr,Bw wa wr→wr.cell? w.heap.size=some (.int .i64 N)∧wr.cell? ⟨w.heap.size,1,none⟩=some (.slice a l.length cap)∧wr.cell? ⟨w.heap.size,2,none⟩=some (.slice ua us.length uc)∧wr.cell? ⟨w.heap.size,3,none⟩=some (.slice fa fs.length fc)):=Hi fun wr hb=>by
  have hk:w.heap.size < wa.heap.size:=(Dn.1 hx).1;refine⟨(hb.cell (p:=⟨w.heap.size,0,none⟩) hk).trans ?_,(hb.cell (p:=⟨w.heap.size,1,none⟩) hk).trans ?_,(hb.cell (p:=⟨w.heap.size,2,none⟩) hk).trans ?_,(hb.cell (p:=⟨w.heap.size,3,none⟩) hk).trans ?_⟩<;>(unfold World.cell?;rw[hx];rfl)
 clear ny hx
 go_loopw [3,4] (fun n i wr=>∃ k:Nat,k≤fs.length∧k≤20∧i=.int .i64 k∧n=.int .i64 (Ma (fs.take k))∧Bw wa wr) (fun _ i _=>20 -(intOf i).toNat)
 case atStart=>exact⟨0,AV _,by omega,rfl,by rw[Gm];rfl,Ai _ _⟩
 case round=>
  obtain⟨k,hk,J8,rfl,rfl,hb⟩:=hrel;have HB:=Hi hb;have Aj:=bH AP hb;obtain⟨c0,c1,c2,c3⟩:=HX _ hb;have Df:Ma (fs.take k)≤20*reachBytes:=by
   refine Ay (atx _ reachBytes (fun c hc=>(jB c (List.mem_of_mem_take hc)).2)) (PN _ ?_);rw[Bc];omega
  unfold reachBytes at Df;clear hb;by_cases hlt:k < fs.length
  ·by_cases aj9:k < 20
   ·obtain⟨q,Cn,hq,-⟩:=(HF.below Aj).index fc k hlt;obtain⟨d0,d1,d2⟩:=hq.cells;have Bj:=aty fs k hlt;have Dj:=jB _ (CK hlt);unfold reachBytes at Dj;have Ba:=Hi Bj;clear Bj hq;generalize fs[k]=x at*;generalize Ma (fs.take k)=n at*;go_wp2;go_roundw
    case rel=>exact⟨k+1,by omega,by omega,by go_num,by rw[Ba.out];go_num,HB⟩
    case measure=>simp[intOf];omega
   ·have HS:Hid (fs.length≤10→Ma (fs.take k)≤4096→Ma fs≤4096):=Hi (fun h=>by omega);have Ar:=Hi (HB.trans ((AQ wr (.cells #[.int .i64 0,.slice a l.length cap,(),.string (bs []),false] 90)).mono HB.size));go_wp2_with fail;refine(ake (l:=l) (wH rfl ⟨rfl,rfl,rfl⟩) (HL.below (bT AP Ar)) FO Gy).mono ?_;rintro e w1⟨h1,rfl,Ak,mh⟩;have HB1:=bH Ar Ak;have XF:=Hi mh;clear Ak mh c0 c1 c2 c3 Ar;obtain⟨c0,c1,c2,c3⟩:=HX _ HB1.out;cases h1 with
    |true=>
     go_wp2;go_ret;exact⟨true,rfl,AP.trans (HB1.mono AP.size),fun h=>by cases h⟩
    |false=>
     have AO:=Hi (HB1.trans ((AQ w1 (.cells #[.int .i64 0,.slice ua us.length uc,(),.string (bs [])] 94)).mono HB1.size));go_wp2_with fail;refine(akf (l:=us) (wH rfl ⟨rfl,rfl,rfl⟩) (HU.below (bT AP AO)) agw agz).mono ?_;rintro e w2⟨h2,rfl,Ac,mo⟩;have Au:=bH AO Ac;have UJ:=Hi mo;clear Ac mo c0 c1 c2 c3 AO;obtain⟨c0,c1,c2,c3⟩:=HX _ Au.out;have HT:Hid (qV N l us fs w (.returned true) w2):=Hi ⟨true,rfl,AP.trans (Au.mono AP.size),fun h=>by cases h⟩;cases h2 with
     |true=>
      go_wp2;go_ret;exact HT.out
     |false=>
      have eZ:(10:Int) < (fs.length:Int):=(by omega);go_wp2;go_ret;exact HT.out
  ·obtain rfl:k=fs.length:=(by omega);rw[D5] at Df ⊢;have HS:Hid (fs.length≤10→Ma fs≤4096→Ma fs≤4096):=Hi (fun _ h=>h);have Ar:=Hi (HB.trans ((AQ wr (.cells #[.int .i64 0,.slice a l.length cap,(),.string (bs []),false] 90)).mono HB.size));go_wp2_with fail;refine(ake (l:=l) (wH rfl ⟨rfl,rfl,rfl⟩) (HL.below (bT AP Ar)) FO Gy).mono ?_;rintro e w1⟨h1,rfl,Ak,mh⟩;have HB1:=bH Ar Ak;have XF:=Hi mh;clear Ak mh c0 c1 c2 c3 Ar;obtain⟨c0,c1,c2,c3⟩:=HX _ HB1.out;cases h1 with
   |true=>
    go_wp2;go_ret;exact⟨true,rfl,AP.trans (HB1.mono AP.size),fun h=>by cases h⟩
   |false=>
    have AO:=Hi (HB1.trans ((AQ w1 (.cells #[.int .i64 0,.slice ua us.length uc,(),.string (bs [])] 94)).mono HB1.size));go_wp2_with fail;refine(akf (l:=us) (wH rfl ⟨rfl,rfl,rfl⟩) (HU.below (bT AP AO)) agw agz).mono ?_;rintro e w2⟨h2,rfl,Ac,mo⟩;have Au:=bH AO Ac;have UJ:=Hi mo;clear Ac mo c0 c1 c2 c3 AO;obtain⟨c0,c1,c2,c3⟩:=HX _ Au.out;have HT:Hid (qV N l us fs w (.returned true) w2):=Hi ⟨true,rfl,AP.trans (Au.mono AP.size),fun h=>by cases h⟩;cases h2 with
    |true=>
     go_wp2;go_ret;exact HT.out
    |false=>
     have HG:Hid (∀ b,b=(decide ((10:Int) < (fs.length:Int)) || decide ((4096:Int) < (Ma fs:Int)) || decide (N < 8))→qV N l us fs w (.returned (.bool b)) w2):=Hi fun b hb=>⟨b,rfl,AP.trans (Au.mono AP.size),fun g=>by
      obtain⟨x1,x2,x3,x4⟩:=XF (by first|rfl|trivial);obtain⟨y1,y2,y3,y4⟩:=UJ (by first|rfl|trivial);subst hb;simp only[Bool.or_eq_false_iff,decide_eq_false_iff_not] at g;exact⟨x1,x2,x3,y1,y2,y3,by omega,by omega,by omega,x4⟩⟩
     clear HS;generalize Ma fs=D at*;by_cases eZ:(10:Int) < (fs.length:Int)
     ·go_wp2;go_ret;exact HT.out
     by_cases h4:(4096:Int) < (D:Int)
     ·go_wp2;go_ret;exact HT.out
     by_cases h8:N < 8
     ·go_wp2;go_ret;exact HG _ (by simp<;>omega)
     ·go_wp2;go_ret;exact HG _ (by simp<;>omega)
end Hv
namespace Mem
open Aw Ah Aq Bu Kp Bz Hex BH
def aa4(w:World)(q:Option Addr)(cap:Nat)(l:M)(i:Value)(wr:World):Prop:=∃ k:Nat,k≤l.length∧i=.int .i64 k∧Bw w wr∧BK wr w.heap.size (.slice q l.length cap) l
theorem aBk(name data:T)(l:M)(h:Ad.Cm name data=some l)(w:World)(hd:data.length≤1000000):Calls prog 185 #[name,data] w fun e w'=>∃ q cap,e=.returned (.tuple #[.slice q l.length cap,true])∧BK w' w.heap.size (.slice q l.length cap) l∧(q=none→cap=0)∧Bw w w':=by
 have hsh:=(iJ h).2;obtain⟨hne,DF,IJ,s,H8,KX⟩:=Ng h;have mO:Ab.EK data=(s,0):=by rw[KX];exact Ab.adT s
 have CS:s.length≤1000000:=by
  have:data.length=s.length+4:=by rw[KX];unfold Ab.FN;rw[AA,Ab.Cb]
  omega
 have HO:=Hi (aox data w (by omega));rw[mO] at HO;have HG:=Hi (fun(W:World)=>aoq s l (sU H8 (D8.RN DF)) W (by omega));have Iw:=Hi (fun p hp=>(IJ p hp).1);have FY:=Hi DF;have Sr:=Hi hsh;have hlz:((l.length:Int) == 0)=false:=Ev.2 (fun e=>hne (Ku.1 (by omega)));have EA:l.length≤65535:=(iJ h).1;clear h mO H8 KX DF IJ hne hsh
 go_in
 go_wp2_with fail;refine HO.mono ?_;rintro e w1⟨rfl,Ak⟩;have HB1:=Hi Ak;clear Ak;go_wp2_with fail;refine(HG _).mono ?_;rintro e w2⟨v,rfl,DC,Ac⟩;obtain⟨q,cap,rfl,hq,hc⟩:=FQ DC;have BV:=Hi (EM DC HB1.size);have Aj:=bH HB1 Ac;have HQ:=Hi hq;clear DC Ac hq hc;go_wp2
 go_loopw [9] (fun i wr=>aa4 w q cap l i wr) (fun i _=>l.length -(intOf i).toNat)
 case atStart=>exact⟨0,AV _,rfl,Aj,BV⟩
 case round=>
  obtain⟨k,E9,rfl,hb,hr⟩:=hrel;have HB:=Hi hb;have HR:=Hi hr;clear hb hr Aj BV;by_cases hlt:k < l.length
  ·obtain⟨a,Cn,c0,-⟩:=Z6 HR hlt;have F8:=(Sr _ (CK hlt)).1;have LJ:=Iw _ (CK hlt);by_cases KQ:k=0
   ·subst KQ;generalize l[0]=x at*;have HN:=Hi (fun(W:World)=>aeh x.1 W (by omega));rw[LJ] at HN;have aH:∀ W,(Instr.indexAt 30 (.slice q l.length cap) (.int .i64 0)).run prog W=.ok (.pointer (some a)) W:=Cn;have HC:=Hi (fun(V:World) (hb:Bw wr V)=>(hb.cell (Cv c0)).trans c0);clear Cn c0 LJ;go_wp2_with fail;have HS:=Hi (fun(V:World) (hb:Bw wr V)=>(show(fun V:World=>V.cell? a=some ↑x.1) V from HC V hb));refine wp_region_held (S:=(fun V:World=>V.cell? a=some ↑x.1)) (by kernel_rfl) ?_;have BR:=Hi ((Ai wr.heap.size wr).drew);refine Ap 0 (HS _ BR) ?_;refine Ap 1 (HS _ BR) ?_;refine Ap 2 (HS _ BR) ?_;refine Ap 3 (HS _ BR) ?_;refine Ap 4 (HS _ BR) ?_;refine Ap 6 (HS _ BR) ?_;refine MF 5 (fun K1 Gs=>?_);go_simp;refine(HN _).mono ?_;rintro e wA⟨rfl,E8⟩;have Ar:=Hi (show Bw wr wA from BR.trans (E8.mono (Ag _)));clear E8;refine Gs _ _ (HS _ Ar) ?_;try simp only[Act.put,np]
    refine Ap 7 (HS _ Ar) ?_;refine Ap 8 (HS _ Ar) ?_;refine Ap 9 (HS _ Ar) ?_;refine Ap 10 (HS _ Ar) ?_;refine Ap 11 (HS _ Ar) ?_;refine Io 12 (HS _ Ar) ?_;refine Io 13 (HS _ Ar) ?_;refine Io 14 (HS _ Ar) ?_;refine Io 15 (HS _ Ar) ?_;refine Io 16 (HS _ Ar) ?_;refine Io 17 (HS _ Ar) ?_;refine Io 18 (HS _ Ar) ?_;refine Io 19 (HS _ Ar) ?_;refine Io 20 (HS _ Ar) ?_;refine Io 21 (HS _ Ar) ?_;refine Io 22 (HS _ Ar) ?_;refine Io 23 (HS _ Ar) ?_;refine Ap 24 (HS _ Ar) ?_;refine Ap 25 (HS _ Ar) ?_;refine wpAnyH_done (by kernel_rfl) ?_ _;clear Gs K1;have CJ:=Hi (show aa4 w q cap l (.int .i64 1) wA from⟨1,by omega,rfl,HB.trans (Ar.mono HB.size),Cc HR Ar⟩);go_wp2;go_roundw
    case rel=>exact CJ.out
    case measure=>show l.length -(1:Int).toNat < l.length -(0:Int).toNat;omega
   ·obtain⟨a',acf,c1,-⟩:=Z6 HR (show k -1 < l.length by omega);have Rx:IntKind.i64.wrap ((k:Int) -1)=((k -1:Nat):Int):=(by rw[EN _ (by omega)];omega);have GI:(0:Int) < (k:Int):=(by omega);have U5:0 < k:=(by omega);have hne:((l[k -1]'(by omega)).1 == l[k].1)=false:=by
     have h1:=List.pairwise_iff_getElem.1 FY (k -1) k (by omega) hlt (by omega);exact Ev.2 (fun e=>by rw[e] at h1;exact Td _ h1)
    obtain⟨y,hy⟩:=ex (l[k -1]'(by omega));obtain⟨x,hx⟩:=ex (l[k]);rw[hy] at c1 hne;rw[hx] at c0 F8 LJ hne;have HN:=Hi (fun(W:World)=>aeh x.1 W (by omega));rw[LJ] at HN;have HC:=Hi (fun(V:World) (hb:Bw wr V)=>CB ((hb.cell (Cv c0)).trans c0) ((hb.cell (Cv c1)).trans c1));clear c0 c1 LJ hx hy;go_wp2_with fail;have HS:=Hi (fun(V:World) (hb:Bw wr V)=>(show(fun V:World=>V.cell? a=some ↑x.1∧V.cell? a'=some ↑y.1) V from HC V hb));refine wp_region_held (S:=(fun V:World=>V.cell? a=some ↑x.1∧V.cell? a'=some ↑y.1)) (by kernel_rfl) ?_;have BR:=Hi ((Ai wr.heap.size wr).drew);refine Ap 0 (HS _ BR) ?_;refine Ap 1 (HS _ BR) ?_;refine Ap 2 (HS _ BR) ?_;refine Ap 3 (HS _ BR) ?_;refine Ap 4 (HS _ BR) ?_;refine Ap 6 (HS _ BR) ?_;refine MF 5 (fun K1 Gs=>?_);go_simp;refine(HN _).mono ?_;rintro e wA⟨rfl,E8⟩;have Ar:=Hi (show Bw wr wA from BR.trans (E8.mono (Ag _)));clear E8;refine Gs _ _ (HS _ Ar) ?_;try simp only[Act.put,np]
    refine Ap 7 (HS _ Ar) ?_;refine Ap 8 (HS _ Ar) ?_;refine Ap 9 (HS _ Ar) ?_;refine Ap 10 (HS _ Ar) ?_;refine Ap 11 (HS _ Ar) ?_;refine Ap 12 (HS _ Ar) ?_;refine Ap 13 (HS _ Ar) ?_;refine Ap 14 (HS _ Ar) ?_;refine Ap 15 (HS _ Ar) ?_;refine Ap 16 (HS _ Ar) ?_;refine Ap 17 (HS _ Ar) ?_;refine Ap 18 (HS _ Ar) ?_;refine Ap 19 (HS _ Ar) ?_;refine Ap 20 (HS _ Ar) ?_;refine Ap 21 (HS _ Ar) ?_;refine Ap 22 (HS _ Ar) ?_;refine Ap 23 (HS _ Ar) ?_;refine Ap 24 (HS _ Ar) ?_;refine Ap 25 (HS _ Ar) ?_;refine wpAnyH_done (by kernel_rfl) ?_ _;clear Gs K1;have CJ:=Hi (show aa4 w q cap l (.int .i64 ((k:Int)+1)) wA from⟨k+1,by omega,by go_num,HB.trans (Ar.mono HB.size),Cc HR Ar⟩);go_wp2;go_roundw
    case rel=>exact CJ.out
    case measure=>
     show l.length -((k:Int)+1).toNat < l.length -((k:Int)).toNat
     omega
  ·obtain rfl:k=l.length:=(by omega);go_wp2;go_ret2;exact⟨q,cap,rfl,HR,HQ,HB⟩
end Mem
section
open Ah Aq
section
variable {w w':World}
def ZW(most:Nat)(A:M)(l:List Am):Int:=if l.all Am.may=false then 2 else if most < used (made A l) then 4 else 0
def Xg(most:Nat)(A:M)(l:List Am):M:=if l.all Am.may=true∧used (made A l)≤most then made A l else A
theorem ao9{r most cap:Nat}{a:Option Addr}{v:Value}{A:M}{l:List Am}(h:I9 w r v A (most:Int))(hu:Up A)(hl:Eh w a l)(aG5:most≤2000000000000)(hA:used A≤3000000)(EA:l.length≤100000)(hw:Ff l≤900000):
  Calls prog 44 #[r,.slice a l.length cap] w fun e w'=>e=.returned (.int .i64 (ZW most A l))∧∃ v',I9 w' r v' (Xg most A l) (most:Int)∧A7 (fun k=>k=r) w w':=by
 have Ij:=RV A;have FL:=VF hu l;have hok:∀ c∈l,c.name.length≤maxLen∧c.data.length≤maxLen:=fun c hc=>by
  have:=aq9 hc;unfold maxLen;omega
 have HR:=Hi h;have HL:=Hi hl;have Gy:=Hi hok;clear h hl hok
 go_in
 go_wp2
 go_loopw [5] (fun i wr=>∃ k:Nat,k≤l.length∧i= ↑(k:Int)∧(l.take k).all Am.may=true∧Bw w wr) (fun i _=>l.length -(intOf i).toNat)
 case atStart=>exact⟨0,AV _,rfl,rfl,Ai _ _⟩
 case round=>
  obtain⟨k,hk,rfl,hall,hb⟩:=hrel;have Ga:=Hi hall;have HB:=Hi hb;clear hall;by_cases hlt:k < l.length
  ·obtain⟨p,II,hp,_⟩:=(HL.below hb).index cap k hlt;obtain⟨p0,p1,p2⟩:=hp.cells;obtain⟨o1,o2⟩:=Gy _ (CK hlt);have HM:=Hi (aov l[k].name l[k].data l[k].gone wr o1 o2);obtain⟨mv,EH⟩:=ex (Am.may l[k]);rw[show(⟨l[k].name,l[k].data,l[k].gone⟩:Am)=l[k] from rfl,EH] at HM;have Sl:=Hi EH;have KU:=CK hlt;cases mv with
   |true=>
    have HN:=Hi (show(l.take (k+1)).all Am.may=true by rw[Cr hlt,List.all_append,Ga.out,Bool.true_and];simp[Sl.out]);clear hb hp KU EH o1 o2;generalize l[k]=c at*;go_wp2_with fail;refine HM.mono ?_;rintro e w2⟨rfl,Ac⟩;have Aj:=bH HB Ac;clear Ac;go_wp2;go_roundw
    case rel=>exact⟨k+1,by omega,by go_num,HN,Aj⟩
    case measure=>simp[intOf];omega
   |false=>
    have Ro:l.all Am.may=false:=by
     rw[Bool.eq_false_iff];intro e;rw[Nl] at e;rw[e _ KU] at EH;cases EH
    have HC:=Hi (show ZW most A l=2 by unfold ZW;rw[Ae Ro]);have HX:=Hi (show Xg most A l=A by unfold Xg;rw[A9 (by rw[Ro];simp)]);clear hb hp KU EH o1 o2 Ro;generalize l[k]=c at*;go_wp2_with fail;refine HM.mono ?_;rintro e w2⟨rfl,Ac⟩;have Aj:=bH HB Ac;clear Ac;go_wp2;go_ret;exact⟨by rw[HC.out];rfl,v,by rw[HX.out];exact HR.below Aj,A7.of_below Aj⟩
  ·obtain rfl:k=l.length:=(by omega);have hall:=Ga.out;rw[D5] at hall;have HW:=Hi (aoT (cap:=cap) (HR.below hb) hu (HL.below hb) (by omega) (by omega));have Tx:=Hi hall;clear hb hall Ga;go_wp2_with fail;refine HW.mono ?_;rintro e w2⟨v2,rfl,DC,Ac⟩;obtain⟨q2,cap2,rfl⟩:=Bp DC;have Aj:=bH HB Ac;have BV:=Hi DC;have ET:=Hi (fun(W:World) (hW:Bw w2 W)=>aeo (BD DC (ub hW) (fun _ _ f=>f)) (by omega));have FZ:=HR.below Aj.out;have c1:w2.cell? ⟨r,1,none⟩=some ↑(most:Int):=cr FZ.1;have HRF:=Hi FZ;obtain⟨F,hF⟩:=ex (made A l);rw[hF] at ET BV ⊢;have Zp:=Hi hF;obtain⟨U,hU⟩:=ex (used F);rw[hU] at ET;rw[hF,hU] at FL;have jY:=Hi hU;clear DC Ac FZ hU hF;have lT:ZW most A l=if most < U then 4 else 0:=by
    unfold ZW;rw[A9 (by rw[Tx.out];simp),Zp.out,jY.out]
   have mI:Xg most A l=if most < U then A else F:=by
    unfold Xg;rw[Zp.out,jY.out];by_cases e:most < U
    ·rw[Ae e,A9 (by omega)]
    ·rw[A9 e,Ae ⟨Tx,by omega⟩]
   have Tz:=Hi (CB lT mI);clear lT mI Ij hw EA hA hlt hk;by_cases GI:most < U
   ·have Rk:(most:Int) < (U:Int):=(by omega);have HG:=Hi GI;clear GI;go_wp2
    go_region_held3 (fun V=>V.cell? ⟨r,1,none⟩=some ↑(most:Int)) (go_keep)
     (first|(go_at_call 120;refine(ET _ ((Ai _ _).drew)).mono ?_;rintro e wA ⟨rfl,E8⟩;have Ar:=Hi (Aj.trans ((show Bw w2 wA from((Ai _ w2).drew).trans E8).mono Aj.size));clear E8;have cA:wA.cell? ⟨r,1,none⟩=some ↑(most:Int):=(by rw[BJ _ _ _ _ _ _ (HR.below Ar).1];rfl)))
    all_goals
     go_wp2;go_ret;exact⟨by rw[Tz.1,Ae HG.out];rfl,v,by rw[Tz.2,Ae HG.out];exact HR.below Ar.out,A7.of_below Ar.out⟩
   ·have Rk:¬ (most:Int) < (U:Int):=(by omega);have HG:=Hi GI;clear GI;go_wp2
    go_region_held3 (fun V=>V.cell? ⟨r,1,none⟩=some ↑(most:Int)) (go_keep)
     (first|(go_at_call 120;refine(ET _ ((Ai _ _).drew)).mono ?_;rintro e wA ⟨rfl,E8⟩;have Ar:=Hi ((show Bw w2 wA from((Ai _ w2).drew).trans E8));clear E8;have cA:wA.cell? ⟨r,1,none⟩=some ↑(most:Int):=(by rw[BJ _ _ _ _ _ _ (HR.below (bT Aj Ar)).1];rfl)))
    all_goals
     have D6:=bH Aj Ar;have FZ:=HR.below D6.out;have d0:wA.cell? r=some v:=cr FZ.1;have df:=CG _ _ 0 _ _ FZ.1;have GV:=Hi (CB FZ.1 (BD BV (ub Ar) (fun _ _ f=>f)));clear FZ c1;go_wp2;go_ret;refine⟨by rw[Tz.1,A9 HG.out];rfl,.slice q2 F.length cap2,?_,(A7.of_below (F:=fun k=>k=r) D6).setCell (p:=⟨r,0,none⟩) (.inl rfl) _⟩;rw[Tz.2,A9 HG.out];refine⟨Cs _ _ 0 _ _ _ GV.1,BD GV.2 ((A7.refl (fun k=>k=r) wA).setCell (p:=⟨r,0,none⟩) (.inl rfl) _) (fun g hg e=>?_)⟩;rw[e] at hg;exact Bf.ne (Cx GV.2 hg) ⟨_,_,GV.1⟩ (by decide) rfl
end
end
namespace Mem
open Aw Ah Aq Bu Kp Bz Hex BH
theorem aoS{w:World}{r:Nat}{v:Value}{A:M}{most:Int}(h:I9 w r v A most)(hA:used A≤1000000000):
  Calls prog 103 #[r] w (Rt w (.int .i64 (used A:Nat))):=by
 obtain⟨q,cap,rfl⟩:=Bp h.2;have c0:w.cell? r=some (.slice q A.length cap):=cr h.1;have HU:=Hi (aeo h.2 hA);clear h
 go_in
 go_wp2_with fail;refine HU.mono ?_;rintro e w1⟨rfl,hb⟩;have HB:=Hi hb;clear hb;go_wp2;go_ret;exact⟨rfl,HB⟩
theorem aBr{w:World}{r:Nat}{v:Value}{A:M}{most:Int}(h:I9 w r v A most)(hA:A.length≤1000000)(name:T)(NK:∀ d,Ah.get A name=some d→d.length≤1000000)(hf:∀ d,Ah.get A name=some d→(fileOf Ad A name).isSome=true):
  Calls prog 100 #[r,name] w fun e w'=>∃ q cap,e=.returned (.tuple #[.slice q ((fileOf Ad A name).getD []).length cap,.bool (Ah.get A name).isSome,false])∧BK w' w.heap.size (.slice q ((fileOf Ad A name).getD []).length cap) ((fileOf Ad A name).getD [])∧(q=none→cap=0)∧Bw w w':=by
 have HG:=Hi (aor h hA name);have Yu:∀ d,Ah.get A name=some d→fileOf Ad A name=Ad.Cm name d:=fun d hd=>by unfold fileOf;rw[hd];rfl
 have hfn:Ah.get A name=none→fileOf Ad A name=none:=fun hd=>by unfold fileOf;rw[hd];rfl
 clear h;cases hx:Ah.get A name with
 |none=>
  rw[hx] at HG;rw[hfn hx];clear hx hf Yu hfn NK
  go_in
  go_wp2_with fail;refine HG.mono ?_;rintro e w1⟨rfl,hb⟩;have HB:=Hi hb;clear hb;go_wp2_with fail;exact EO (v:=.tuple #[(),false,false]) (by simp[results,results100,go_sem]) rfl ⟨none,0,rfl,Xi _ _,fun _=>rfl,HB⟩
 |some d=>
  rw[hx] at HG;have h1:=hf d hx;rw[Yu d hx] at h1 ⊢;obtain⟨l,hl⟩:=KD.1 h1;rw[hl];have HE:=Hi (fun(W:World)=>aBk name d l hl W (NK d hx));clear hx hf Yu hfn NK h1 hl
  go_in
  go_wp2_with fail;refine HG.mono ?_;rintro e w1⟨rfl,hb⟩;have HB:=Hi hb;clear hb;go_wp2_with fail;refine(HE _).mono ?_;rintro e w2⟨q,cap,rfl,hr,hq,Ac⟩;have HR:=Hi (EM hr HB.size);have Aj:=bH HB Ac;clear Ac hr;go_wp2_with fail;exact EO (v:=.tuple #[.slice q l.length cap,true,false]) (by simp[results,results100,go_sem]) rfl ⟨q,cap,rfl,HR,hq,Aj⟩
theorem aqa{K:Kind}(hK:K.Cg)(l:M):Ff (FX K l)≤l.length*65560:=by
 induction l using VD with
 |h0=>exact AV _
 |h1 l p ih=>
  rw[xC];have e:∀ a b:List Am,Ff (a++b)=Ff a+Ff b:=fun a b=>by unfold Ff;rw[CQ,LX]
  rw[e,AA,La];have h2:Ff [Nf K (l++[p]) (K.nm p.1)]≤65560:=by
   show 8+(K.nm p.1).length+((C9 (BN K (l++[p]) (K.nm p.1))).getD []).length+0≤_
   rw[hK.len];cases hc:C9 (BN K (l++[p]) (K.nm p.1)) with
   |none=>show 8+17+0+0≤_;decide
   |some d=>
    have:=eD hc
    show 8+17+d.length+0≤_
    omega
  omega
def aa5(w:World)(xb:Nat)(A l:M)(i:Value)(wr:World):Prop:=
 ∃ (k:Nat) (vx:Value),k≤l.length∧i= ↑(k:Int)∧I9 wr xb vx (made A (FX Ad (l.take k))) (1099511627776:Nat)∧Fits Ad (l.take k)∧Bw w wr
theorem aBB{w:World}{r n cap:Nat}{a:Option Addr}{v:Value}{A l:M}(h:I9 w r v A (Cy n))(hu:Up A)(CP:∀ k,Ah.get A (Ad.nm k)=none)(hn:n≤16384)(hA:used A≤Cy n)(hk:Bg w a l)(hl:l.length≤20)(E9:∀ x∈l,x.1.length≤1000000)(FU:∀ j name,Small (BN Ad (l.take j) name)):
  Calls prog 41 #[r,.slice a l.length cap] w fun e w'=>e=.returned (.int .i64 (Ha Ad n A l).1)∧∃ v',I9 w' r v' (Ha Ad n A l).2 (Cy n)∧A7 (fun k=>k=r) w w':=by
 obtain⟨vq,vc,rfl⟩:=Bp h.2;have Jo:=bU hn;have HR:=Hi h;have HU:=Hi hu;have DU:=Hi CP;have HK:=Hi hk;have GU:=Hi E9;have MO:=Hi FU
 have ET:=Hi (show ∀ k,used (made A (FX Ad (l.take k)))≤2000000 from fun k=>by
  have h1:=VF hu (FX Ad (l.take k));have h2:=aqa Jc (l.take k);have h3:(l.take k).length≤20:=by rw[Bc];omega
  have h4:=PN 65560 h3;omega)
 have cr0:w.cell? r=some (.slice vq A.length vc):=cr h.1;have axU:=Ao h.1
 have P8:=Hi (show I9 (w.alloc (.cells #[.slice vq A.length vc,.int .i64 1099511627776] 174)) w.heap.size (.slice vq A.length vc) (made A (FX Ad (l.take 0))) (1099511627776:Nat) from by
  rw[Gm];exact⟨AU w _,(h.below (AQ w _)).2⟩)
 have AP:=Hi (AQ w (.cells #[.slice vq A.length vc,.int .i64 1099511627776] 174));clear h hu CP hk E9 FU
 go_in
 go_wp2_with fail;have Q3:=Hi (show aa5 w w.heap.size A l (.int .i64 0) (w.alloc (.cells #[.slice vq A.length vc,.int .i64 1099511627776] 174)) from⟨0,.slice vq A.length vc,AV _,rfl,P8,by rw[Gm];exact ab0,AP⟩);generalize w.alloc (.cells #[.slice vq A.length vc,.int .i64 1099511627776] 174)=V0 at*;clear P8 AP cr0
 go_loopw [6] (fun i wr=>aa5 w w.heap.size A l i wr) (fun i _=>l.length -(intOf i).toNat)
 case atStart=>exact Q3.out
 case round=>
  obtain⟨k,vx,hk,rfl,hx,Ck,hb⟩:=hrel;have HX:=Hi hx;have M3:=Hi Ck;have HB:=Hi hb;clear Ck hb Q3;by_cases hlt:k < l.length
  ·obtain⟨q,Cn,hp,-⟩:=(HK.below HB).index cap k hlt;have nD:=GU _ (CK hlt);have CL:=Hi (Cr hlt);have QQ:=Hi (fun(hF:Fits Ad l)=>hF k hlt);obtain⟨x,nC⟩:=ex (l[k]);rw[nC] at hp nD CL QQ;have c0:=hp.key;have c1:=hp.val;have HPX:=Hi hp;have HN:=Hi (fun(W:World)=>aeh x.1 W (by omega));have Oo:=sW HU (K:=Ad) (l.take k) (Ad.nm x.1);rw[DU.out] at Oo;have Qs:=kL HU DU (fun p _=>rfl) M3 x.1
   have Fx:=Hi (fun(W:World) (hW:Bw wr W)=>aBr (HX.below hW) (by have:=RV (made A (FX Ad (l.take k)));have:=ET k;omega) (Ad.nm x.1) (fun d hd=>by
    rw[Oo] at hd;split at hd
    ·injection hd with hd
     rw[←hd];cases hc:C9 (BN Ad (l.take k) (Ad.nm x.1)) with
     |none=>exact AV _
     |some d=>exact Ay (eD hc) (by decide)
    ·cases hd) (fun d hd=>by
    rw[Oo] at hd;rw[Qs];split at hd
    ·rename_i Dj
     rw[Ae Dj];rfl
    ·cases hd))
   rw[aie HU DU (fun p _=>rfl) M3 x.1] at Fx;clear Oo Qs hp nC hx;generalize U9:Ad.nm x.1=name at*;have MM:=Hi U9;clear U9;have XE:=Hi (TS (K:=Ad) (l.take k) name);have Nu:=Hi (show BN Ad (l.take (k+1)) name=put x.1 x.2 (BN Ad (l.take k) name) from by rw[CL.out,Oh,Ae MM.out]);have Lr:=Hi (MO (k+1) name);have Pt:(BN Ad (l.take k) name).length≤20:=by
    have h1:=tu Ad (l.take k) name;rw[Bc] at h1;omega
   generalize BN Ad (l.take k) name=G at*;generalize (Ah.get (made A (FX Ad (l.take k))) name).isSome=isb at*;obtain⟨xk,xv⟩:=x;simp only at*;go_wp2_with fail;refine(HN _).mono ?_;rintro e w1⟨rfl,Ak⟩;have HB1:=Hi Ak;clear Ak;go_wp2_with fail;refine(Fx _ HB1).mono ?_;rintro e w2⟨q2,c2,rfl,DC,Dw,Ac⟩;have Aj:=bH HB1 Ac;have BV:=Hi (EM DC (AV _));clear DC Ac;have c0:w2.cell? q=some ↑xk:=(Aj.cell (Cv c0)).trans c0;have c1:w2.cell? ⟨q.block,q.off+1,none⟩=some ↑xv:=(Aj.cell (p:=⟨q.block,q.off+1,none⟩) (Cv c1)).trans c1;have HW:=Hi (aBV (w:=w2) (cap:=c2) (⟨xk,xv,false⟩:Am) rfl BV XE (by omega));rw[show Am.on G (⟨xk,xv,false⟩:Am)=put xk xv G from rfl] at HW;go_wp2_with fail;refine HW.mono ?_;rintro e w3⟨v3,rfl,hr3,Av⟩;obtain⟨q3,c3,rfl,Uc,KN⟩:=FQ hr3;have Au:=bH Aj Av;have WZ:=Lr.out;rw[Nu.out] at WZ;have HD:=Hi (aB0 (cap:=c3) (Bg.CR hr3) (D8.RN (XE.put xk xv)) (by have:=WZ.1;omega) WZ.2)
   have jD:=Hi (show Fits Ad l→(C9 (put xk xv G)).isSome=true from fun hF=>by
    have h1:=QQ hF
    first
    |(rw[MM.out,Nu.out] at h1;exact h1)
    |(rw[Nu.out] at h1;exact h1))
   have OZ:=Hi (show FX Ad (l.take (k+1))=FX Ad (l.take k)++[⟨name,(C9 (put xk xv G)).getD [],false⟩] from by
    rw[CL.out,xC,←CL.out]
    congr 1
    unfold Nf;rw[show Ad.nm ((xk,xv):T×T).1=name from MM.out,Nu.out])
   have UH:=Hi (show Fits Ad (l.take (k+1))↔Fits Ad (l.take k)∧(C9 (put xk xv G)).isSome=true from by
    rw[CL.out,Fits.nU,←CL.out,show Ad.nm ((xk,xv):T×T).1=name from MM.out,Nu.out])
   clear hr3 Av WZ Uc KN QQ HW c0 c1;generalize put xk xv G=G2 at*;by_cases DV:(C9 G2).isSome=true
   ·rw[Ae DV] at HD;obtain⟨d,hd⟩:=KD.1 DV;rw[hd] at HD OZ;simp only[RZ] at HD OZ;have NK:=eD hd;have Zq:=Hi (UH.2 ⟨M3,DV⟩);have Ei:name.length=17:=by rw[←MM.out];exact Jc.len _
    have JX:=Hi (show Am.may ⟨name,d,false⟩=true from by
     have h1:=ae1 Jc Zq (p:=(xk,xv)) (by rw[CL.out];simp);have h2:Nf Ad (l.take (k+1)) (Ad.nm ((xk,xv):T×T).1)=⟨name,d,false⟩:=by
      unfold Nf;rw[show Ad.nm ((xk,xv):T×T).1=name from MM.out,Nu.out,hd];rfl
     rw[h2] at h1;exact h1)
    clear DV hd jD;go_wp2_with fail;refine HD.mono ?_;rintro e w4⟨rfl,AB⟩;have AX:=bH Au AB;have BO:=AQ w4 (.cells #[.string (bs name),.string (bs d),false] 57);have Ro:=AU w4 (.cells #[.string (bs name),.string (bs d),false] 57);have Ar:=bH AX BO;have Ns:=Hi (ao9 (most:=1099511627776) (cap:=1) (HX.below Ar) (HU.made _) (rO (c:=⟨name,d,false⟩) Ro) (by omega) (by have:=ET k;omega) (by simp) (by show 8+name.length+d.length+0≤_;omega));have mJ:Xg 1099511627776 (made A (FX Ad (l.take k))) [⟨name,d,false⟩]=made A (FX Ad (l.take (k+1))):=by
     unfold Xg;have h1:=ET (k+1);rw[OZ.out,vL] at h1;rw[Ae ⟨by simp[JX.out],by omega⟩,OZ.out,vL]
    rw[mJ] at Ns;have De:=HB.trans (Ar.mono HB.size);have D6:=Hi De;clear AB BO Ro mJ De;generalize ZW 1099511627776 (made A (FX Ad (l.take k))) [⟨name,d,false⟩]=cc at*;go_wp2_with fail;refine Ns.mono ?_;rintro e w5⟨rfl,v5,Uj,Mm⟩;have CJ:=Hi (show aa5 w w.heap.size A l (.int .i64 ((k:Int)+1)) w5 from⟨k+1,v5,by omega,by go_num,Uj,Zq,Cz D6 Mm (fun i e=>Nat.le_of_eq e.symm) D6.size⟩);clear Uj Mm;go_wp2;go_roundw
    case rel=>exact CJ.out
    case measure=>
     show l.length -((k:Int)+1).toNat < l.length -((k:Int)).toNat
     omega
   ·rw[A9 DV] at HD
    have VX:=Hi (show Ha Ad n A l=(5,A) from by
     unfold Ha;rw[A9 (fun hF=>DV (jD hF))])
    generalize (C9 G2).getD []=dd at*;clear DV jD UH;go_wp2_with fail;refine HD.mono ?_;rintro e w4⟨rfl,AB⟩;have AX:=Hi (HB.trans ((bT Au AB).mono HB.size));clear AB;go_wp2;go_ret;rw[VX.out];exact⟨rfl,_,HR.below AX,A7.of_below AX⟩
  ·obtain rfl:k=l.length:=(by omega);have Ck:=M3.out;rw[D5] at Ck hx;have FL:=ET l.length;rw[D5] at FL;have JZ:=Hi (ae5 (A:=A) Jc (n:=n) Ck);rw[←apX HU.out,←nY HU.out] at JZ;have ZM:=Hi (fun(W:World) (hW:Bw wr W)=>aoS (hx.below hW) (by omega));have Sz:=Hi hx;obtain⟨xq,xc,rfl⟩:=Bp hx.2;have FZ:=HR.below HB.out;have c1:wr.cell? ⟨r,1,none⟩=some ↑(Cy n:Int):=cr FZ.1;clear Ck hx FZ HX;generalize hF:made A (FX Ad l)=F at*;obtain⟨U,lC⟩:=ex (used F);rw[lC] at ZM JZ FL;clear hF lC;by_cases GI:Cy n < U
   ·have Rk:(Cy n:Int) < (U:Int):=(by omega);rw[Ae GI] at JZ;clear GI;go_wp2
    go_region_held3 (fun V=>V.cell? ⟨r,1,none⟩=some ↑(Cy n:Int)) (go_keep)
     (first|(go_at_call 103;refine(ZM _ ((Ai _ _).drew)).mono ?_;rintro e wA ⟨rfl,E8⟩;have Ar:=Hi (HB.trans ((show Bw wr wA from((Ai _ wr).drew).trans E8).mono HB.size));clear E8;have cA:wA.cell? ⟨r,1,none⟩=some ↑(Cy n:Int):=(by rw[BJ _ _ _ _ _ _ (HR.below Ar).1];rfl)))
    all_goals
     go_wp2;go_ret;rw[JZ.out];exact⟨rfl,_,HR.below Ar,A7.of_below Ar⟩
   ·have Rk:¬ (Cy n:Int) < (U:Int):=(by omega);rw[A9 GI] at JZ;clear GI;go_wp2
    go_region_held3 (fun V=>V.cell? ⟨r,1,none⟩=some ↑(Cy n:Int)) (go_keep)
     (first|(go_at_call 103;refine(ZM _ ((Ai _ _).drew)).mono ?_;rintro e wA ⟨rfl,E8⟩;have Ar:=Hi (show Bw wr wA from((Ai _ wr).drew).trans E8);clear E8;have cA:wA.cell? ⟨r,1,none⟩=some ↑(Cy n:Int):=(by rw[BJ _ _ _ _ _ _ (HR.below (bT HB Ar)).1];rfl)))
    all_goals
     have D6:=bH HB Ar;have FZ:=HR.below D6.out;have Kk:=Sz.below Ar.out;have d0:wA.cell? r=some (.slice vq A.length vc):=cr FZ.1;have df:=CG _ _ 0 _ _ FZ.1;have x0:wA.cell? w.heap.size=some (.slice xq F.length xc):=cr Kk.1;have GV:=Hi (CB FZ.1 Kk.2);clear FZ c1 Kk;go_wp2;go_ret;rw[JZ.out];refine⟨rfl,.slice xq F.length xc,?_,(A7.of_below (F:=fun k=>k=r) D6).setCell (p:=⟨r,0,none⟩) (.inl rfl) _⟩;refine⟨Cs _ _ 0 _ _ _ GV.1,BD GV.2 ((A7.refl (fun k=>k=r) wA).setCell (p:=⟨r,0,none⟩) (.inl rfl) _) (fun g hg e=>?_)⟩;rw[e] at hg;exact Bf.ne (Cx GV.2 hg) ⟨_,_,GV.1⟩ (by decide) rfl
end Mem
namespace Aq
open Aw Ah
section
variable {B:Nat}{w0 w w':World}{b y n N:Nat}{A A':M}
def ZP(w w':World):Prop:=∀ (base:Nat) (v:Value) (l:List T),Bt w base v l→Bt w' base v l
theorem ZP.below(hb:Bw w w'):ZP w w':=fun _ _ _ h=>Cc h hb
theorem ZP.trans{w1 w2 w3:World}(h:ZP w1 w2)(k:ZP w2 w3):ZP w1 w3:=fun a v l r=>k a v l (h a v l r)
theorem ZP.upd{bl:Nat→Prop}(hu:A7 (I8 w bl) w w'):ZP w w':=fun _ _ _ h=>BD h hu (fun _ hg e=>e.not (Cx h hg) (by decide))
end
end Aq
namespace Aq
open Aw Ah
structure Em(B:Nat)(w0 W:World)(b y n N:Nat)(A:M)(L:List (Nat×Obj)):Prop where
 x:Wo B w0 W b y n N A (fun k=>∃ o,(k,o)∈L)
 at_:∀ k o,(k,o)∈L→W.heap[k]?=some o
section
variable {B:Nat}{w0 w w':World}{b y n N:Nat}{A A':M}{L:List (Nat×Obj)}
theorem Em.of(h:MyF B w0 w b y n N A):Em B w0 w b y n N A []:=by
 obtain⟨h1,h2,bl,h3,h4⟩:=h;exact⟨⟨h1,h2,fun k hk=>by obtain⟨o,ho⟩:=hk;simp at ho,bl,h3,fun k hk=>⟨h4 k hk,fun⟨o,ho⟩=>by simp at ho⟩⟩,fun k o h=>by simp at h⟩
theorem Em.AR(h:Em B w0 w b y n N A L):Below B w0 w:=h.x.1
theorem Em.step(h:Em B w0 w b y n N A L)(hb:Bw w w'):Em B w0 w' b y n N A L:=
 ⟨h.x.step hb,fun k o ho=>(hb.block k (Dn.1 (h.at_ k o ho)).1).trans (h.at_ k o ho)⟩
theorem Em.cell(h:Em B w0 w b y n N A L){k:Nat}{cs:Array Value}{t:TypeId}(hm:(k,.cells cs t)∈L)(i:Nat):w.cell? ⟨k,i,none⟩=cs[i]? :=BJ w k i cs t _ (h.at_ _ _ hm)
theorem Em.pick(h:Em B w0 w b y n N A L):∃ bl,Tw w b y bl n N A∧(∀ k,bl k→k < w.heap.size)∧∀ {N':Nat} {A':M} {w':World},Goes w b y bl n N' A' w'→Em B w0 w' b y n N' A' L∧ZP w w':=by
 obtain⟨⟨h1,h2,hx,bl,h3,h4⟩,ha⟩:=h;refine⟨_,h3.shrink,fun k hk=>hk.2,fun {N' A' w'} ⟨CY,g1,g2,g3⟩=>?_⟩;obtain⟨k1,k2⟩:=Wo.turn h1 h2 hx (fun k hk=>h4 k hk.1) g1 g2 g3;exact⟨⟨k1,fun k o ho=>(k2 k ⟨o,ho⟩).trans (ha k o ho)⟩,ZP.upd g2⟩
theorem iy(h:Em B w0 w b y n N A L):Up A∧Ah.Good A∧used A≤Cy n:=by
 obtain⟨bl,h1,h3,h2⟩:=h.pick;exact⟨h1.up.1,h1.up.2.1,h1.up.2.2.1⟩
end
end Aq
namespace Aq
open Aw Ah
theorem az9{w:World}{base:Nat}(hb:base≤w.heap.size)(l:List T)(hl:l.length≤1000)(cs:Array Value)(hc:cs=(strCells l).toArray){g n:Nat}(hg:w.heap.size=g)(hn:l.length=n):Bt (w.alloc (.cells cs 9)) base (.slice g n n) l:=by
 subst hc hg hn;have:=World.ownsRow_lit (base:=base) (e:=9) (size:=1) w (strCells l).toArray l.length hb (by unfold maxLen;omega) (by simp[strCells]);exact this
end Aq
namespace Aq
abbrev T:=List UInt8
end Aq
namespace Aq
open Aw Ah
theorem aAv{l:List T}{x:T}{k:Nat}(hk:k < l.length)(h:∀ j,(hj:j < l.length)→j < k→l[j] < x)(hx:¬ l[k] < x):
  l.takeWhile (fun y=>decide (y < x))=l.take k∧l.dropWhile (fun y=>decide (y < x))=l.drop k:=by
 induction l generalizing k with
 |nil=>simp at hk
 |cons y l ih=>
  cases k with
  |zero=>
   have:¬ y < x:=hx;rw[List.takeWhile_cons_of_neg (by simpa using this),List.dropWhile_cons_of_neg (by simpa using this)];exact⟨rfl,rfl⟩
  |succ k=>
   have h0:y < x:=h 0 (by simp) (by omega);obtain⟨g1,g2⟩:=ih (k:=k) (by simpa using hk) (fun j hj Yy=>h (j+1) (by simpa using hj) (by omega)) hx;rw[List.takeWhile_cons_of_pos (by simpa using h0),List.dropWhile_cons_of_pos (by simpa using h0),g1,g2];exact⟨rfl,rfl⟩
theorem aAu{l:List T}{x:T}(h:∀ j,(hj:j < l.length)→l[j] < x):l.takeWhile (fun y=>decide (y < x))=l∧l.dropWhile (fun y=>decide (y < x))=[]:=by
 induction l with
 |nil=>exact⟨rfl,rfl⟩
 |cons y l ih=>
  have h0:y < x:=h 0 (by simp);obtain⟨g1,g2⟩:=ih (fun j hj=>h (j+1) (by simpa using hj));rw[List.takeWhile_cons_of_pos (by simpa using h0),List.dropWhile_cons_of_pos (by simpa using h0),g1,g2];exact⟨rfl,rfl⟩
theorem anZ{l:List T}{x:T}{k:Nat}(hk:k≤l.length)(h:∀ j,(hj:j < l.length)→j < k→l[j] < x)(hx:∀ hk:k < l.length,¬ l[k] < x):
  Km l x=if(∃ hk:k < l.length,l[k]=x) then l else l.take k++[x]++l.drop k:=by
 unfold Km;by_cases hlt:k < l.length
 ·obtain⟨g1,g2⟩:=aAv hlt h (hx hlt);rw[g1,g2,List.head?_drop,CZ hlt];by_cases he:l[k]=x
  ·rw[Ae (by rw[he]),Ae ⟨hlt,he⟩,Lb]
  ·rw[A9 (by simpa using he),A9 (fun⟨_,e⟩=>he e)];simp
 ·obtain rfl:k=l.length:=by omega
  obtain⟨g1,g2⟩:=aAu (fun j hj=>h j hj hj);rw[g1,g2,A9 (by simp),A9 (fun⟨e,_⟩=>hlt e)];simp
def UW(q:Option Addr)(cap k:Nat):Option Addr:=if cap=k then q else q.map (·.add k)
theorem aCk(P:Program)(W:World)(t e:TypeId)(i:TypeInfo)(hu:P.underlying t=some (.slice e))(hi:P.info? e=some i)(q:Option Addr)(n cap k:Nat)(hk:k≤n)(hc:n≤cap):
  (Instr.slice t (.slice q n cap) none (some ↑(k:Int)) none).run P W=.ok (.slice q k cap) W:=by
 cases q<;>simp[Instr.slice,He hu,Instr.sliceBounds,sizeOf,typeInfo,hi,go_sem]<;>omega
theorem aCj(P:Program)(W:World)(t e:TypeId)(i:TypeInfo)(hu:P.underlying t=some (.slice e))(hi:P.info? e=some i)(hs:i.size=1)(q:Option Addr)(n cap k:Nat)(hk:k≤n):
  (Instr.slice t (.slice q n cap) (some ↑(k:Int)) none none).run P W=.ok (.slice (UW q cap k) (n -k) (cap -k)) W:=by
 cases q
 ·simp[Instr.slice,He hu,Instr.sliceBounds,sizeOf,typeInfo,hi,go_sem,UW];exact fun h=>absurd h (by omega)
 ·simp[Instr.slice,He hu,Instr.sliceBounds,sizeOf,typeInfo,hi,hs,go_sem,UW];exact fun h=>absurd h (by omega)
theorem apF{w:World}{q:Option Addr}{l:List T}(h:Dz w q l)(k:Nat):Dz w q (l.take k):=fun i hi=>by
 rw[Bc] at hi;obtain⟨p,hp,hc⟩:=h i (by omega);exact⟨p,hp,by rw[hc,List.getElem_take]⟩
theorem apE{w:World}{q:Option Addr}{l:List T}(h:Dz w q l){cap k:Nat}(hk:k≤l.length)(hc:l.length≤cap):Dz w (UW q cap k) (l.drop k):=fun i hi=>by
 rw[CF] at hi;obtain⟨p,hp,BQ⟩:=h (k+i) (by omega);refine⟨p.add k,?_,?_⟩
 ·unfold UW;rw[A9 (by omega),hp];rfl
 ·rw[Addr.add_add,BQ,List.getElem_drop]
theorem aoE{w:World}{base UY:Nat}{v:Value}{l:List T}(h:Bt w base v l)(hb:UY≤base):Bt w UY v l:=by
 refine⟨h.1,?_⟩;rcases h.2 with h2|⟨g,cap,cur,e0,Ig,h3⟩
 ·exact .inl h2
 ·exact .inr ⟨g,cap,cur,e0,Ay hb Ig,h3⟩
section
variable {w w':World}
theorem aAF{base:Nat}{v:Value}{l:List T}(x:T)(h:Bt w base v l)(hb:base≤w.heap.size)(hl:l.length≤100000):
  Calls prog 249 #[v,x] w fun e w'=>∃ v',e=.returned v'∧Bt w' base v' (Km l x)∧Bw w w':=by
 obtain⟨q,cap,rfl⟩:=Bp h;have H9:=Hd h;have aN:l.length≤cap:=by
  rcases h.parts with⟨e,e2⟩|⟨_,cap',e,_,hc,_⟩
  ·rw[e2];exact AV _
  ·injection e with _ _ e;rw[e];exact hc
 have Hr:q=none→cap=0:=fun e=>by
  rcases h.parts with⟨e1,_⟩|⟨_,cap',e1,_⟩
  ·injection e1
  ·injection e1 with e1;rw[e1] at e;cases e
 obtain⟨i0,Bh,AY,AZ,Bb⟩:=Dy aeB;have WY:∀ (W:World) (k:Nat),k≤l.length→(Instr.slice 61 (.slice q l.length cap) none (some ↑(k:Int)) none).run prog W=.ok (.slice q k cap) W:=fun W k hk=>aCk prog W _ 9 i0 underlying61 Bh q l.length cap k hk aN
 have Ta:∀ (W:World) (k:Nat),k≤l.length→(Instr.slice 61 (.slice q l.length cap) (some ↑(k:Int)) none none).run prog W=.ok (.slice (UW q cap k) (l.length -k) (cap -k)) W:=fun W k hk=>aCj prog W _ 9 i0 underlying61 Bh AZ q l.length cap k hk
 have HSF:=Hi WY;have Sq:=Hi Ta;have qi:=Hi aN;have qH:=Hi Hr;clear WY Ta aN Hr;have H:=Hi h;clear h
 go_in
 go_wp2
 go_loop [5] (fun i=>∃ k:Nat,k≤l.length∧i= ↑(k:Int)∧∀ j,(hj:j < l.length)→j < k→l[j] < x) (fun i=>l.length -(intOf i).toNat)
 case atStart=>exact⟨0,AV _,rfl,fun j _ e=>by omega⟩
 case round=>
  obtain⟨k,hk,rfl,hall⟩:=hrel;have Ga:=Hi hall;clear hall;by_cases hlt:k < l.length
  ·obtain⟨qk,EC,Dw⟩:=H9.index cap k hlt;obtain⟨X,hX⟩:=ex (l[k]);rw[hX] at Dw;have HX:=Hi hX;clear hX;by_cases tY:X < x
   ·have Ct:Op.bytesLess X x=true:=(by rw[Go.Proofs.bytesLess_eq];simpa using tY);go_wp2_with fail;refine⟨⟨k+1,by omega,by go_num,fun j hj Yy=>?_⟩,by simp[intOf];omega⟩;by_cases e:j=k
    ·subst e;rw[HX.out];exact tY
    ·exact Ga j hj (by omega)
   ·have Ct:Op.bytesLess X x=false:=(by rw[Go.Proofs.bytesLess_eq];simpa using tY);have gK:=anZ (l:=l) (x:=x) hk Ga (fun _=>by rw[HX.out];exact tY);by_cases tX:X=x
    ·have HP:=Hi (show Km l x=l by rw[gK,Ae ⟨hlt,by rw[HX.out,tX]⟩]);subst tX;clear gK;go_wp2;go_ret;exact⟨_,rfl,by rw[HP.out];exact H.out,Ai _ _⟩
    ·have HP:=Hi (show Km l x=l.take k++[x]++l.drop k by rw[gK,A9 (fun⟨_,e⟩=>tX (by rw[←HX.out,e]))]);have aFw:(X == x)=false:=(by simpa using tX);clear gK;have WY:=fun W=>HSF W k hk
     have Ta:=fun W=>Sq W k hk
     go_wp2_with (first
      |(at_builtin;refine xY rfl _ _ rfl w.heap.size ↑() [] (l.take k) rfl (by unfold Bt;rw[ME];exact DZ _ _ _ _) q cap (by rw[Bc,Iq hk];rfl) (apF H9 k) qH (by rw[Bc,IV];omega) (Ag _) ?_;intro v1 w1 DW NL WK;rw[EE] at DW;unfold Bt at DW;rw[Bc,Iq hk] at DW;obtain⟨q1,Wu,rfl⟩:=Bp DW;have Dc:=Hi DW;have HB1:=Hi (((Ai _ w).grown NL (Ag _) (fun j e=>by cases e)));clear DW NL WK)
      |(at_builtin;refine wpList_append_own_at _ rfl _ _ 61 rfl w.heap.size 9 i0 _ 1 16 underlying61 Bh AY AZ Bb rfl (by decide) (.slice q1 k Wu) k (strCells (l.take k)) rfl (Dc.alloc _) ⟨w1.heap.size,0,none⟩ 1 1 [.string (bs x)] rfl rfl (cell_one_new _ _ _) (by simp[Value.oneCell']) (by unfold maxLen;omega) (by omega) (by rw[Az];have:=HB1.size;omega) ?_;intro v2 w2 Dt Ec _ WL;obtain⟨g2,cap2,rfl⟩:=ownsRow_succ Dt;have PZ:=Hi Dt;have Aj:=Hi ((HB1.alloc HB1.size (.cells #[x] 9)).grown Ec (by rw[Az];have:=HB1.size;omega) (fun j hj=>DT Dc hj));clear Dt Ec WL)
      |(at_builtin;refine xY rfl _ _ rfl w.heap.size (.slice g2 (k+1) cap2) (l.take k++[x]) (l.drop k) rfl (by unfold Bt;rw[AA,Bc,Iq hk,Tj];exact PZ.out) (UW q cap k) (cap -k) (by rw[CF];rfl) ((apE H9 hk qi).below Aj) (fun e=>by have:=qH.out;unfold UW at e;split at e;omega;cases q with|none=>have:=this rfl;omega|some _=>cases e) (by rw[AA,Bc,CF,La];omega) Aj.size ?_;intro v3 w3 Kg Yv lJ;have OX:=Hi Kg;have Au:=Hi (Aj.grown Yv Aj.size (fun j hj=>DT PZ hj));clear Kg Yv lJ))
     go_ret;exact⟨_,rfl,by rw[HP.out];exact aoE OX hb,Au⟩
  ·have HP:=Hi (show Km l x=l.take k++[x]++l.drop k by rw[anZ (l:=l) (x:=x) hk Ga (fun e=>absurd e hlt),A9 (fun⟨e,_⟩=>hlt e)]);have WY:=fun W=>HSF W k hk
   have Ta:=fun W=>Sq W k hk
   go_wp2_with (first
    |(at_builtin;refine xY rfl _ _ rfl w.heap.size ↑() [] (l.take k) rfl (by unfold Bt;rw[ME];exact DZ _ _ _ _) q cap (by rw[Bc,Iq hk];rfl) (apF H9 k) qH (by rw[Bc,IV];omega) (Ag _) ?_;intro v1 w1 DW NL WK;rw[EE] at DW;unfold Bt at DW;rw[Bc,Iq hk] at DW;obtain⟨q1,Wu,rfl⟩:=Bp DW;have Dc:=Hi DW;have HB1:=Hi (((Ai _ w).grown NL (Ag _) (fun j e=>by cases e)));clear DW NL WK)
    |(at_builtin;refine wpList_append_own_at _ rfl _ _ 61 rfl w.heap.size 9 i0 _ 1 16 underlying61 Bh AY AZ Bb rfl (by decide) (.slice q1 k Wu) k (strCells (l.take k)) rfl (Dc.alloc _) ⟨w1.heap.size,0,none⟩ 1 1 [.string (bs x)] rfl rfl (cell_one_new _ _ _) (by simp[Value.oneCell']) (by unfold maxLen;omega) (by omega) (by rw[Az];have:=HB1.size;omega) ?_;intro v2 w2 Dt Ec _ WL;obtain⟨g2,cap2,rfl⟩:=ownsRow_succ Dt;have PZ:=Hi Dt;have Aj:=Hi ((HB1.alloc HB1.size (.cells #[x] 9)).grown Ec (by rw[Az];have:=HB1.size;omega) (fun j hj=>DT Dc hj));clear Dt Ec WL)
    |(at_builtin;refine xY rfl _ _ rfl w.heap.size (.slice g2 (k+1) cap2) (l.take k++[x]) (l.drop k) rfl (by unfold Bt;rw[AA,Bc,Iq hk,Tj];exact PZ.out) (UW q cap k) (cap -k) (by rw[CF];rfl) ((apE H9 hk qi).below Aj) (fun e=>by have:=qH.out;unfold UW at e;split at e;omega;cases q with|none=>have:=this rfl;omega|some _=>cases e) (by rw[AA,Bc,CF,La];omega) Aj.size ?_;intro v3 w3 Kg Yv lJ;have OX:=Hi Kg;have Au:=Hi (Aj.grown Yv Aj.size (fun j hj=>DT PZ hj));clear Kg Yv lJ))
   go_ret;exact⟨_,rfl,by rw[HP.out];exact aoE OX hb,Au⟩
theorem aAI(l:List T)(x:T):(Km l x).length≤l.length+1:=by
 induction l with
 |nil=>simp[Km]
 |cons y l ih=>
  rw[ae2];split
  ·simpa using ih
  ·split<;>simp
theorem aee{q:Option Addr}{cap:Nat}{l:List T}(h:Dz w q l)(hl:l.length≤50000):
  Calls prog 195 #[.slice q l.length cap] w fun e w'=>∃ v',e=.returned v'∧Bt w' w.heap.size v' (aef l)∧Bw w w':=by
 have H:=Hi h;clear h
 go_in
 go_wp2
 go_loopw [3,4] (fun ov i wr=>∃ (k:Nat) (o:List T),k≤l.length∧i= ↑(k:Int)∧o=(l.take k).foldl Km []∧o.length≤k∧Bt wr w.heap.size ov o∧Bw w wr) (fun _ i _=>l.length -(intOf i).toNat)
 case atStart=>exact⟨0,[],AV _,rfl,rfl,Ag _,by unfold Bt;rw[ME];exact DZ _ _ _ _,Ai _ _⟩
 case round=>
  obtain⟨k,o,hk,rfl,ho,hok,Af,hb⟩:=hrel;have HO:=Hi ho;have HR:=Hi Af;have HB:=Hi hb;clear ho Af hb;by_cases hlt:k < l.length
  ·obtain⟨qk,EC,Dw⟩:=(H.below HB).index cap k hlt;obtain⟨X,hX⟩:=ex (l[k]);rw[hX] at Dw;have HX:=Hi hX;clear hX;go_wp2_with fail;refine(aAF X HR HB.size (by omega)).mono ?_;rintro e w1⟨v1,rfl,DW,Ak⟩;have Dc:=Hi DW;have HB1:=bH HB Ak;clear DW Ak;go_wp2_with fail;refine⟨⟨k+1,Km o X,by omega,by go_num,?_,?_,Dc,HB1⟩,by simp[intOf];omega⟩
   ·rw[Cr hlt,List.foldl_append,←HO.out,HX.out];rfl
   ·have:=aAI o X;omega
  ·obtain rfl:k=l.length:=(by omega);go_wp2;go_ret;refine⟨_,rfl,?_,HB⟩;have e:=HO.out;rw[D5] at e;unfold aef;rw[←e];exact HR.out
