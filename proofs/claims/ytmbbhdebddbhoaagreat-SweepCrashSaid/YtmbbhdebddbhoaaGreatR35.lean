/- HvS SameT RefOct -/
import Derived.Test.YtmbbhdebddbhoaaGreatR33
import Derived.Test.YtmbbhdebddbhoaaGreatR34
set_option maxHeartbeats 8000000
set_option maxRecDepth 100000
set_option linter.all false
namespace Go.Proofs.YtmbbhdebddbhoaaGreat
open Tryz
namespace Hv
open Go.RowKit Go.Maps
open Wal Fil Prs Kp Cm Hex Sha Al Mem Dep
open Man
def Jf(l:M):Nat:=(l.map fun p=>p.1.length+p.2.length).sum
def Oi(l:M):Nat:=(l.map fun p=>p.1.length+min p.2.length 8192).sum
theorem axi(l:M)(k:Nat)(h:k < l.length):Jf (l.take (k+1))=Jf (l.take k)+l[k].1.length+l[k].2.length:=by
 unfold Jf;rw[Cw h,CF,JH];simp;omega
theorem axg(l:M)(k:Nat)(h:k < l.length):Oi (l.take (k+1))=Oi (l.take k)+l[k].1.length+min l[k].2.length 8192:=by
 unfold Oi;rw[Cw h,CF,JH];simp;omega
theorem axh(l:M)(b:Nat)(h:∀ c∈l,c.1.length≤b∧c.2.length≤b):Jf l≤l.length*(2*b):=by
 unfold Jf
 induction l with
 |nil=>simp
 |cons c l ih=>
  have h1:=ih (fun x hx=>h x (DT _ hx));have h2:=h c Dg;rw[BL,Dq,Br,Nat.succ_mul];omega
theorem axf(l:M)(b:Nat)(h:∀ c∈l,c.1.length≤b):Oi l≤l.length*(b+8192):=by
 unfold Oi
 induction l with
 |nil=>simp
 |cons c l ih=>
  have h1:=ih (fun x hx=>h x (DT _ hx));have h2:=h c Dg;rw[BL,Dq,Br,Nat.succ_mul];omega
theorem alz(l:M):∀ c∈l,c.1.length+c.2.length≤Jf l:=by
 unfold Jf
 induction l with
 |nil=>intro x hx;simp at hx
 |cons y l ih=>
  intro x hx;rw[BL,Dq];rcases Bt.1 hx with rfl|hx
  ·omega
  ·have:=ih x hx;omega
def Xy(l:M):Bool:=decide (200 < l.length) || decide (262144 < Jf (l.take 400))
theorem aw5{l:M}(h:Xy l=false):l.length≤200∧Jf l≤262144:=by
 unfold Xy at h;simp only[Bool.or_eq_false_iff,decide_eq_false_iff_not] at h;obtain⟨h1,h2⟩:=h;rw[Gn (by omega)] at h2;exact⟨by omega,by omega⟩
theorem aw4{w:World}{a:Option Addr}{cap:Nat}{l:M}(hL:AO w a l)(hlen:l.length≤maxLen)(Cb:∀ c∈l,c.1.length≤reachBytes∧c.2.length≤reachBytes):
  Calls prog 59 #[.slice a l.length cap] w fun e w'=>e=.returned (.bool (Xy l))∧Bw w w':=by
 have HL:=Hi hL;have FQ:=Hi Cb;have EC:l.length≤9223372036854775807:=by unfold maxLen at hlen;omega
 clear hL Cb hlen;go_enter func59,ntmps59;go_wp2_with fail
 go_loopw [3,4] (fun n i wr=>∃ k:Nat,k≤l.length∧k≤400∧i=.int .i64 k∧n=.int .i64 (Jf (l.take k))∧Bw w wr) (fun _ i _=>400 -(intOf i).toNat)
 case atStart=>exact⟨0,AB _,by omega,rfl,by rw[GZ];rfl,Af _ _⟩
 case round=>
  obtain⟨k,hk,hk2,rfl,rfl,hb⟩:=hrel;have HB:=Hi hb;have CB:Jf (l.take k)≤400*(2*reachBytes):=by
   refine Ap (axh _ reachBytes (fun c hc=>FQ c (List.mem_of_mem_take hc))) (NC _ ?_);rw[AL];omega
  unfold reachBytes at CB;by_cases hlt:k < l.length
  ·by_cases ahd:k < 400
   ·obtain⟨q,Cu,hq,-⟩:=HL.index cap k hlt;have Kg:q.block < w.heap.size:=BS hq.key;have c0:=(hb.cell Kg).trans hq.key;have c1:=(hb.cell (p:=⟨q.block,q.off+1,none⟩) Kg).trans hq.val;have AP:=axi l k hlt;have Be:=FQ _ (Ci hlt);unfold reachBytes at Be;have AR:=Hi AP;clear AP hq hb;generalize l[k]=x at*;generalize Jf (l.take k)=n at*;go_wp2_with fail
    go_quiet (fail)
    go_wp2_with fail;go_roundw
    case rel=>exact⟨k+1,by omega,by omega,by go_num,by rw[AR.out];go_num,HB.trans ((F6 _ _).mono HB.size)⟩
    case measure=>simp[intOf];omega
   ·have hV:Hid (Xy l=true):=Hi (by unfold Xy;rw[Kr (show 200 < l.length by omega)];rfl);have YG:(200:Int) < (l.length:Int):=(by omega);clear hb;go_wp2_with fail;go_ret;exact⟨by rw[hV.out];rfl,HB⟩
  ·obtain rfl:k=l.length:=(by omega);rw[CY] at CB;have hV:Xy l=(decide (200 < l.length) || decide (262144 < Jf l)):=by
    unfold Xy;by_cases h:200 < l.length
    ·simp[h]
    ·rw[Gn (by omega)]
   have HV:=Hi hV;rw[CY];clear hb hV;generalize Jf l=n at*;by_cases YG:200 < l.length
   ·have at1:(200:Int) < (l.length:Int):=(by omega);rw[Kr YG,Bool.true_or] at HV;clear YG;go_wp2_with fail;go_ret;exact⟨by rw[HV.out];rfl,HB⟩
   ·have at1:¬ (200:Int) < (l.length:Int):=(by omega);rw[Pp YG,Bool.false_or] at HV;clear YG;go_wp2_with fail;go_ret;have qA:decide ((262144:Int) < (n:Int))=decide (262144 < n):=decide_eq_decide.2 (by omega);exact⟨by rw[HV.out,←qA];rfl,HB⟩
structure aP(w:World)(q:Addr)(v:Value):Prop where
 l:w.cell? ⟨q.block,q.off+1,none⟩=some v
 k:w.cell? ⟨q.block,q.off+2,none⟩=some (.slice none 0 0)
 t:w.cell? ⟨q.block,q.off+3,none⟩=some (.string (bs []))
theorem aP.below{w w':World}{q:Addr}{v:Value}(h:aP w q v)(hb:Bw w w'):aP w' q v:=by
 have hl:=BS h.l;exact⟨(hb.cell (p:=⟨q.block,q.off+1,none⟩) hl).trans h.l,(hb.cell (p:=⟨q.block,q.off+2,none⟩) hl).trans h.k,(hb.cell (p:=⟨q.block,q.off+3,none⟩) hl).trans h.t⟩
theorem sQ{w:World}{v:Value}{t:TypeId}{g:Nat}{cs:Array Value}(hg:w.heap.size=g)(hc:cs[1]?=some v∧cs[2]?=some (.slice none 0 0)∧cs[3]?=some (.string (bs []))):aP (w.alloc (.cells cs t)) ⟨g,0,none⟩ v:=by
 subst hg;have hx:=AJ w (.cells cs t);obtain⟨h1,h2,h3⟩:=hc;refine⟨?_,?_,?_⟩<;>(unfold World.cell?;rw[hx];simpa)
def aeX(N:Int)(l:M)(w:World)(e:Ending)(w':World):Prop:=∃ h,e=.returned (.bool h)∧Bw w w'∧(h=false→l.length≤20∧Jf l≤262144∧Oi l≤16384∧N≤200)
theorem aih{N:Int}{q:Addr}{a:Option Addr}{cap:Nat}{l:M}{w:World}(hs:aP w q (.slice a l.length cap))(hL:AO w a l)(hlen:l.length≤maxLen)(Cb:∀ c∈l,c.1.length≤reachBytes∧c.2.length≤reachBytes):
  Calls prog 21 #[.int .i64 N,.slice (some q) 1 1] w fun e w'=>aeX N l w e w':=by
 have HL:=Hi hL;have FQ:=Hi Cb;have HS:=Hi hs;have EY:=Hi hlen;have EC:l.length≤9223372036854775807:=by unfold maxLen at hlen;omega
 clear hL Cb hlen hs;have YW:∀ W,(Instr.indexAt 69 (.slice (some q) 1 1) (.int .i64 0)).run prog W=.ok (.pointer (some q)) W:=fun W=>by
  have:=Hr prog _ 68 underlying69 5 (by kernel_rfl) q 1 1 0 (by omega) W;rw[Nat.zero_mul,add_zero'] at this;exact this
 go_enter func21,ntmps21;go_wp2_with fail
 go_loopw [5,6] (fun n i wr=>((i=.int .i64 0∧n=.int .i64 0)∨(i=.int .i64 1∧n=.int .i64 (Oi l)∧l.length≤20∧Jf l≤262144))∧Bw w wr) (fun _ i _=>1 -(intOf i).toNat)
 case atStart=>exact⟨.inl ⟨rfl,rfl⟩,Af _ _⟩
 case round=>
  obtain⟨hi,hb⟩:=hrel;have HB:=Hi hb;rcases hi with⟨rfl,rfl⟩|⟨rfl,rfl,Sc,CB⟩
  ·obtain⟨c1,c2,c3⟩:=HS.below hb;clear hb;go_wp2_with fail;refine(aw4 (HL.below HB) EY FQ).mono ?_;rintro e w1⟨rfl,Ad⟩;have HB1:=Hi (HB.trans (Ad.mono HB.size));obtain⟨c1,c2,c3⟩:=HS.below HB1.out;clear Ad;cases hV:Xy l with
   |true=>
    go_wp2_with fail;go_ret;exact⟨true,rfl,HB1,fun h=>by cases h⟩
   |false=>
    have HV:=Hi (aw5 hV);clear hV;by_cases Sc:20 < l.length
    ·have iJ:(20:Int) < (l.length:Int):=(by omega);go_wp2_with fail;go_ret;exact⟨true,rfl,HB1,fun h=>by cases h⟩
    have iJ:¬ (20:Int) < (l.length:Int):=(by omega);go_wp2_with fail
    go_loopw [5,7] (fun n j wr=>∃ m:Nat,m≤l.length∧j=.int .i64 m∧n=.int .i64 ((Oi (l.take m):Nat):Int)∧Bw w wr) (fun _ j _=>20 -(intOf j).toNat)
    case atStart=>exact⟨0,by omega,rfl,by simp[Oi],HB1⟩
    case round=>
     obtain⟨m,hm,rfl,rfl,A8⟩:=hrel;have Ag:=Hi A8;obtain⟨c1,c2,c3⟩:=HS.below A8;have Vz:=axf (l.take m) reachBytes (fun s hs=>(FQ s (List.mem_of_mem_take hs)).1);rw[AL,H8 hm] at Vz;have Zl:Oi (l.take m)≤20*(reachBytes+8192):=Ap Vz (NC _ (by omega));unfold reachBytes at Zl;by_cases Qe:m < l.length
     ·obtain⟨q2,auj,CV,-⟩:=HL.index cap m Qe;have Kg:q2.block < w.heap.size:=BS CV.key;have d0:=(A8.cell Kg).trans CV.key;have d1:=(A8.cell (p:=⟨q2.block,q2.off+1,none⟩) Kg).trans CV.val;have Fg:=axg l m Qe;have Cz:=FQ l[m] (Ci Qe);unfold reachBytes at Cz;have NR:=Hi Fg;clear Fg Vz CV A8;generalize l[m]=s at*;generalize Oi (l.take m)=T at*;have hmn:(if(8192:Int) < (s.2.length:Int) then(8192:Int) else(s.2.length:Int))=((min s.2.length 8192:Nat):Int):=(by split<;>omega);go_wp2_with fail
      go_quiet (fail)
      go_wp2_with fail;go_roundw
      case rel=>exact⟨m+1,by omega,by go_num,by rw[NR.out];go_num,Ag.trans ((F6 _ _).mono Ag.size)⟩
      case measure=>simp[intOf];omega
     ·obtain rfl:m=l.length:=(by omega);rw[CY] at Zl ⊢;clear Vz Qe A8;go_wp2_with fail
      go_loopw [5,8] (fun n j wr=>j=.int .i64 0∧n=.int .i64 ((Oi l:Nat):Int)∧Bw w wr) (fun _ j _=>1)
      case atStart=>exact⟨rfl,rfl,Ag⟩
      case round=>
       obtain⟨rfl,rfl,Ak⟩:=hrel;have Am:=Hi Ak;obtain⟨c1,c2,c3⟩:=HS.below Ak;clear Ak;go_wp2_with fail;go_roundw
       case rel=>exact⟨.inr ⟨rfl,rfl,by omega,HV.2⟩,Am.out⟩
       case measure=>simp[intOf]
  ·clear hb
   have HP:Hid (∀ b,b=(decide (16384 < (Oi l:Int)) || decide (200 < N))→aeX N l w (.returned (.bool b)) wr):=Hi (fun b hb=>⟨b,rfl,HB,fun h=>by
    subst hb;simp only[Bool.or_eq_false_iff,decide_eq_false_iff_not] at h;exact⟨Sc,CB,by omega,by omega⟩⟩)
   clear CB;generalize Oi l=C at*;by_cases h81:(16384:Int) < (C:Int)
   ·go_wp2_with fail;go_ret;exact HP _ (by simp;omega)
   by_cases h1:200 < N
   ·go_wp2_with fail;go_ret;exact HP _ (by simp;omega)
   ·go_wp2_with fail;go_ret;exact HP _ (by simp;omega)
def MG(l:List T):Nat:=(l.map fun s=>2+min s.length 4096).sum
def Ht(l:Us):Nat:=(l.map fun u=>u.1.length+MG u.2).sum
theorem avs(l:List T)(k:Nat)(h:k < l.length):MG (l.take (k+1))=MG (l.take k)+2+min l[k].length 4096:=by
 unfold MG;rw[Cw h,CF,JH];simp;omega
theorem azV(l:Us)(k:Nat)(h:k < l.length):Ht (l.take (k+1))=Ht (l.take k)+l[k].1.length+MG l[k].2:=by
 unfold Ht;rw[Cw h,CF,JH];simp;omega
theorem akl(l:List T):MG l≤l.length*4098:=by
 unfold MG
 induction l with
 |nil=>simp
 |cons x l ih=>
  rw[BL,Dq,Br,Nat.succ_mul];omega
theorem azU(l:Us)(b:Nat)(h:∀ u∈l,u.1.length≤b∧u.2.length≤30):Ht l≤l.length*(b+30*4098):=by
 unfold Ht
 induction l with
 |nil=>simp
 |cons c l ih=>
  have h1:=ih (fun x hx=>h x (DT _ hx));have h2:=h c Dg;have h3:=akl c.2;have h4:c.2.length*4098≤30*4098:=NC _ h2.2;rw[BL,Dq,Br,Nat.succ_mul];omega
theorem anE(l:Us):∀ c∈l,c.1.length≤Ht l:=by
 unfold Ht
 induction l with
 |nil=>intro x hx;simp at hx
 |cons y l ih=>
  intro x hx;rw[BL,Dq];rcases Bt.1 hx with rfl|hx
  ·omega
  ·have:=ih x hx;omega
def aeY(N:Int)(l:Us)(w:World)(e:Ending)(w':World):Prop:=∃ h,e=.returned (.bool h)∧Bw w w'∧(h=false→l.length≤20∧(∀ u∈l,u.2.length≤30)∧Ht l≤16384∧N≤200)
theorem aii{N:Int}{q:Addr}{a:Option Addr}{cap:Nat}{l:Us}{w:World}(hs:aP w q (.slice a l.length cap))(hL:Ls w a l)(hlen:l.length≤maxLen)(Cb:∀ c∈l,c.1.length≤reachBytes∧c.2.length≤maxLen):
  Calls prog 22 #[.int .i64 N,.slice (some q) 1 1] w fun e w'=>aeY N l w e w':=by
 have HL:=Hi hL;have FQ:=Hi Cb;have HS:=Hi hs;have EY:=Hi hlen;have EC:l.length≤9223372036854775807:=by unfold maxLen at hlen;omega
 clear hL Cb hlen hs;have YW:∀ W,(Instr.indexAt 73 (.slice (some q) 1 1) (.int .i64 0)).run prog W=.ok (.pointer (some q)) W:=fun W=>by
  have:=Hr prog _ 72 underlying73 4 (by kernel_rfl) q 1 1 0 (by omega) W;rw[Nat.zero_mul,add_zero'] at this;exact this
 obtain⟨i0,Ba,AQ,AU,AV⟩:=Du anG;go_enter func22,ntmps22;go_wp2_with fail
 go_loopw [5,6] (fun n i wr=>((i=.int .i64 0∧n=.int .i64 0)∨(i=.int .i64 1∧n=.int .i64 (Ht l)∧l.length≤20∧∀ u∈l,u.2.length≤30))∧Bw w wr) (fun _ i _=>1 -(intOf i).toNat)
 case atStart=>exact⟨.inl ⟨rfl,rfl⟩,Af _ _⟩
 case round=>
  obtain⟨hi,hb⟩:=hrel;have HB:=Hi hb;rcases hi with⟨rfl,rfl⟩|⟨rfl,rfl,Sc,DY⟩
  ·obtain⟨c1,c2,c3⟩:=HS.below hb;clear hb;by_cases Sc:20 < l.length
   ·have iJ:(20:Int) < (l.length:Int):=(by omega);go_wp2_with fail;go_ret;exact⟨true,rfl,HB,fun h=>by cases h⟩
   have iJ:¬ (20:Int) < (l.length:Int):=(by omega);go_wp2_with fail
   go_loopw [5,7] (fun n j wr=>j=.int .i64 0∧n=.int .i64 0∧Bw w wr) (fun _ j _=>1)
   case atStart=>exact⟨rfl,rfl,HB⟩
   case round=>
    obtain⟨rfl,rfl,Ak⟩:=hrel;have Am:=Hi Ak;obtain⟨c1,c2,c3⟩:=HS.below Ak;clear Ak;go_wp2_with fail
    go_loopw [5,8] (fun n j wr=>∃ m:Nat,m≤l.length∧j=.int .i64 m∧n=.int .i64 ((Ht (l.take m):Nat):Int)∧Bw w wr∧∀ u∈l.take m,u.2.length≤30) (fun _ j _=>20 -(intOf j).toNat)
    case atStart=>exact⟨0,by omega,rfl,by simp[Ht],Am,by simp⟩
    case round=>
     obtain⟨m,hm,rfl,rfl,A8,DY⟩:=hrel;have Ag:=Hi A8;obtain⟨c1,c2,c3⟩:=HS.below A8;have Jm:=Hi DY;have Vz:=azU (l.take m) reachBytes (fun s hs=>⟨(FQ s (List.mem_of_mem_take hs)).1,DY s hs⟩);rw[AL,H8 hm] at Vz;have Zl:Ht (l.take m)≤20*(reachBytes+30*4098):=Ap Vz (NC _ (by omega));unfold reachBytes at Zl;by_cases Qe:m < l.length
     ·obtain⟨q2,auj,CV⟩:=(HL.below A8).index cap m Qe;obtain⟨kq,kc,d1,jA,Vp⟩:=CV.keys;have d0:=CV.run;have Fg:=azV l m Qe;have Cz:=FQ l[m] (Ci Qe);unfold reachBytes maxLen at Cz;have NR:=Hi Fg;have BN:Hid (∀ x∈l.take (m+1),x∈l.take m∨x=l[m]):=Hi fun x hx=>by
       rw[Cw Qe] at hx;rcases Fp.1 hx with h|h
       ·exact .inl h
       ·exact .inr (by simpa using h)
      have wu:=Hi jA;clear Fg Vz CV A8 jA Vp DY;generalize l[m]=s at*;generalize Ht (l.take m)=U at*;have Ao:=Hi (Ag.trans ((Aw wr (.cells #[.string (bs s.1),.slice kq s.2.length kc] 77)).mono Ag.size));by_cases h30:30 < s.2.length
      ·have asY:(30:Int) < (s.2.length:Int):=(by omega);go_wp2_with fail;go_ret;exact⟨true,rfl,Ao,fun h=>by cases h⟩
      have asY:¬ (30:Int) < (s.2.length:Int):=(by omega);go_wp2_with fail;have HA:=Hi (AJ wr (.cells #[.string (bs s.1),.slice kq s.2.length kc] 77));have HKA:=Hi (wu.below (Aw wr (.cells #[.string (bs s.1),.slice kq s.2.length kc] 77)));have e1:(wr.alloc (.cells #[.string (bs s.1),.slice kq s.2.length kc] 77)).cell? ⟨wr.heap.size,1,none⟩=some (.slice kq s.2.length kc):=by
       unfold World.cell?;rw[HA.out];rfl
      generalize wr.alloc (.cells #[.string (bs s.1),.slice kq s.2.length kc] 77)=wa at*;generalize wr.heap.size=g at*;have e0:((U:Nat):Int)+(s.1.length:Int)=((U+s.1.length:Nat):Int):=(by omega);simp only[e0];clear e0
      go_loopw [5,10] (fun n j wr2=>∃ r:Nat,r≤s.2.length∧j=.int .i64 r∧n=.int .i64 ((U+s.1.length+MG (s.2.take r):Nat):Int)∧Bw wa wr2) (fun _ j _=>30 -(intOf j).toNat)
      case atStart=>exact⟨0,by omega,rfl,by simp[MG],Af _ _⟩
      case round=>
       obtain⟨r,hr,rfl,rfl,Ar⟩:=hrel;have AZ:=Hi Ar;have jZ:g < wa.heap.size:=BS e1;have e2:=(Ar.cell (p:=⟨g,1,none⟩) jZ).trans e1;have cz:=akl (s.2.take r);rw[AL,H8 hr] at cz;have auM:MG (s.2.take r)≤30*4098:=Ap cz (NC _ (by omega));clear cz;by_cases Zi:r < s.2.length
       ·obtain⟨q3,aBW,Js⟩:=(HKA.below Ar).index kc r Zi;have Qi:=avs s.2 r Zi;have gQ:=Hi Qi;clear Qi Ar;generalize s.2[r]=t at*;generalize MG (s.2.take r)=O at*;have e0:((U+s.1.length+O:Nat):Int)=(U:Int)+(s.1.length:Int)+(O:Int):=(by omega);simp only[e0];clear e0;go_wp2_with fail;refine⟨⟨r+1,by omega,by go_num,?_,AZ⟩,by simp[intOf];omega⟩;rw[gQ.out]
        congr 1
        omega
       ·obtain rfl:r=s.2.length:=(by omega);rw[CY] at auM ⊢;have F8:(U+s.1.length+MG s.2:Nat)=Ht (l.take (m+1)):=NR.symm;rw[F8];clear F8 Zi Ar
        have HR:=Hi (show ∀ y∈l.take (m+1),y.2.length≤30 from fun y hy=>by
         rcases BN y hy with h|h
         ·exact Jm y h
         ·subst h;omega)
        go_wp2_with fail;go_roundw
        case rel=>exact⟨m+1,by omega,by go_num,rfl,Ao.trans (AZ.mono Ao.size),HR⟩
        case measure=>simp[intOf];omega
     ·obtain rfl:m=l.length:=(by omega);rw[CY] at Zl DY ⊢;clear Vz Qe A8;have aoM:=Hi DY;clear DY;go_wp2_with fail;go_roundw
      case rel=>exact⟨.inr ⟨rfl,rfl,by omega,aoM⟩,Ag.out⟩
      case measure=>simp[intOf]
  ·clear hb
   have HP:Hid (∀ b,b=(decide (16384 < (Ht l:Int)) || decide (200 < N))→aeY N l w (.returned (.bool b)) wr):=Hi (fun b hb=>⟨b,rfl,HB,fun h=>by
    subst hb;simp only[Bool.or_eq_false_iff,decide_eq_false_iff_not] at h;exact⟨Sc,DY,by omega,by omega⟩⟩)
   clear DY;generalize Ht l=C at*;by_cases h81:(16384:Int) < (C:Int)
   ·go_wp2_with fail;go_ret;exact HP _ (by simp;omega)
   by_cases h1:200 < N
   ·go_wp2_with fail;go_ret;exact HP _ (by simp;omega)
   ·go_wp2_with fail;go_ret;exact HP _ (by simp;omega)
def KH(l:List Aj):Nat:=(l.map fun c=>c.data.length).sum
theorem aqW(l:List Aj)(k:Nat)(h:k < l.length):KH (l.take (k+1))=KH (l.take k)+l[k].data.length:=by
 unfold KH;rw[Cw h,CF,JH];simp
theorem aqV(l:List Aj)(b:Nat)(h:∀ c∈l,c.data.length≤b):KH l≤l.length*b:=by
 unfold KH
 induction l with
 |nil=>simp
 |cons c l ih=>
  have h1:=ih (fun x hx=>h x (DT _ hx));have h2:=h c Dg;rw[BL,Dq,Br,Nat.succ_mul];omega
structure nN(N:Int)(l:M)(us:Us)(fs:List Aj):Prop where
 rU:l.length≤20
 rX:Jf l≤262144
 aCD:Oi l≤16384
 u20:us.length≤20
 uks:∀ u∈us,u.2.length≤30
 uF:Ht us≤16384
 f10:fs.length≤10
 agU:KH fs≤4096
 n8:8≤N
 n200:N≤200
def nK(N:Int)(l:M)(us:Us)(fs:List Aj)(w:World)(e:Ending)(w':World):Prop:=∃ h,e=.returned (.bool h)∧Bw w w'∧(h=false→nN N l us fs)
theorem au3{N:Int}{a ua fa:Option Addr}{cap uc fc:Nat}{l:M}{us:Us}{fs:List Aj}{w:World}(hL:AO w a l)(hlen:l.length≤maxLen)(Cb:∀ c∈l,c.1.length≤reachBytes∧c.2.length≤reachBytes)
  (hU:Ls w ua us)(jV:us.length≤maxLen)(jW:∀ c∈us,c.1.length≤reachBytes∧c.2.length≤maxLen)(hF:DW w fa fs)(jm:fs.length≤maxLen)(U5:∀ c∈fs,c.name.length≤reachBytes∧c.data.length≤reachBytes):
  Calls prog 5 #[.agg #[.int .i64 N,.slice a l.length cap,.slice ua us.length uc,.slice fa fs.length fc]] w fun e w'=>nK N l us fs w e w':=by
 have HL:=Hi hL;have FQ:=Hi Cb;have EY:=Hi hlen;have HU:=Hi hU;have aeT:=Hi jW;have aeQ:=Hi jV;have HF:=Hi hF;have fK:=Hi U5;have EC:fs.length≤9223372036854775807:=by unfold maxLen at jm;omega
 clear hL Cb hlen hU jW jV hF U5 jm;go_enter func5,ntmps5;go_wp2_with fail;have Bc:=Hi (Aw w (.cells #[.int .i64 N,.slice a l.length cap,.slice ua us.length uc,.slice fa fs.length fc] 26));have hx:=AJ w (.cells #[.int .i64 N,.slice a l.length cap,.slice ua us.length uc,.slice fa fs.length fc] 26);generalize jZ:w.alloc (.cells #[.int .i64 N,.slice a l.length cap,.slice ua us.length uc,.slice fa fs.length fc] 26)=wa at*;have HX:Hid (∀ wr,Bw wa wr→wr.cell? ⟨w.heap.size,0,none⟩=some (.int .i64 N)∧wr.cell? ⟨w.heap.size,1,none⟩=some (.slice a l.length cap)∧wr.cell? ⟨w.heap.size,2,none⟩=some (.slice ua us.length uc)∧wr.cell? ⟨w.heap.size,3,none⟩=some (.slice fa fs.length fc)):=Hi fun wr hb=>by
  have hk:w.heap.size < wa.heap.size:=(CR.1 hx).1;refine⟨(hb.cell (p:=⟨w.heap.size,0,none⟩) hk).trans ?_,(hb.cell (p:=⟨w.heap.size,1,none⟩) hk).trans ?_,(hb.cell (p:=⟨w.heap.size,2,none⟩) hk).trans ?_,(hb.cell (p:=⟨w.heap.size,3,none⟩) hk).trans ?_⟩<;>(unfold World.cell?;rw[hx];rfl)
 clear jZ hx
 go_loopw [3,4] (fun n i wr=>∃ k:Nat,k≤fs.length∧k≤20∧i=.int .i64 k∧n=.int .i64 (KH (fs.take k))∧Bw wa wr) (fun _ i _=>20 -(intOf i).toNat)
 case atStart=>exact⟨0,AB _,by omega,rfl,by rw[GZ];rfl,Af _ _⟩
 case round=>
  obtain⟨k,hk,hk2,rfl,rfl,hb⟩:=hrel;have HB:=Hi hb;have Ag:=Hi (Bc.trans (hb.mono Bc.size));obtain⟨c0,c1,c2,c3⟩:=HX _ hb;have CB:KH (fs.take k)≤20*reachBytes:=by
   refine Ap (aqV _ reachBytes (fun c hc=>(fK c (List.mem_of_mem_take hc)).2)) (NC _ ?_);rw[AL];omega
  unfold reachBytes at CB;clear hb;by_cases hlt:k < fs.length
  ·by_cases ahd:k < 20
   ·obtain⟨q,Cu,hq,-⟩:=(HF.below Ag).index fc k hlt;obtain⟨d0,d1,d2⟩:=hq.cells;have AP:=aqW fs k hlt;have Be:=fK _ (Ci hlt);unfold reachBytes at Be;have AR:=Hi AP;clear AP hq;generalize fs[k]=x at*;generalize KH (fs.take k)=n at*;go_wp2_with fail;go_roundw
    case rel=>exact⟨k+1,by omega,by omega,by go_num,by rw[AR.out];go_num,HB⟩
    case measure=>simp[intOf];omega
   ·have HS:Hid (fs.length≤10→KH (fs.take k)≤4096→KH fs≤4096):=Hi (fun h=>by omega);have Ao:=Hi (HB.trans ((Aw wr (.cells #[.int .i64 0,.slice a l.length cap,.slice none 0 0,.string (bs []),.bool false] 68)).mono HB.size));go_wp2_with fail;refine(aih (l:=l) (sQ rfl ⟨rfl,rfl,rfl⟩) (HL.below (Bc.trans (Ao.mono Bc.size))) EY FQ).mono ?_;rintro e w1⟨h1,rfl,Ad,jv⟩;have HB1:=Hi (Ao.trans (Ad.mono Ao.size));have Wj:=Hi jv;clear Ad jv c0 c1 c2 c3 Ao;obtain⟨c0,c1,c2,c3⟩:=HX _ HB1.out;cases h1 with
    |true=>
     go_wp2_with fail;go_ret;exact⟨true,rfl,Bc.trans (HB1.mono Bc.size),fun h=>by cases h⟩
    |false=>
     have Jj:=Hi (HB1.trans ((Aw w1 (.cells #[.int .i64 0,.slice ua us.length uc,.slice none 0 0,.string (bs [])] 72)).mono HB1.size));go_wp2_with fail;refine(aii (l:=us) (sQ rfl ⟨rfl,rfl,rfl⟩) (HU.below (Bc.trans (Jj.mono Bc.size))) aeQ aeT).mono ?_;rintro e w2⟨h2,rfl,A8,jw⟩;have Am:=Hi (Jj.trans (A8.mono Jj.size));have NI:=Hi jw;clear A8 jw c0 c1 c2 c3 Jj;obtain⟨c0,c1,c2,c3⟩:=HX _ Am.out;have HT:Hid (nK N l us fs w (.returned (.bool true)) w2):=Hi ⟨true,rfl,Bc.trans (Am.mono Bc.size),fun h=>by cases h⟩;cases h2 with
     |true=>
      go_wp2_with fail;go_ret;exact HT.out
     |false=>
      have Ij:(10:Int) < (fs.length:Int):=(by omega);go_wp2_with fail;go_ret;exact HT.out
  ·obtain rfl:k=fs.length:=(by omega);rw[CY] at CB ⊢;have HS:Hid (fs.length≤10→KH fs≤4096→KH fs≤4096):=Hi (fun _ h=>h);have Ao:=Hi (HB.trans ((Aw wr (.cells #[.int .i64 0,.slice a l.length cap,.slice none 0 0,.string (bs []),.bool false] 68)).mono HB.size));go_wp2_with fail;refine(aih (l:=l) (sQ rfl ⟨rfl,rfl,rfl⟩) (HL.below (Bc.trans (Ao.mono Bc.size))) EY FQ).mono ?_;rintro e w1⟨h1,rfl,Ad,jv⟩;have HB1:=Hi (Ao.trans (Ad.mono Ao.size));have Wj:=Hi jv;clear Ad jv c0 c1 c2 c3 Ao;obtain⟨c0,c1,c2,c3⟩:=HX _ HB1.out;cases h1 with
   |true=>
    go_wp2_with fail;go_ret;exact⟨true,rfl,Bc.trans (HB1.mono Bc.size),fun h=>by cases h⟩
   |false=>
    have Jj:=Hi (HB1.trans ((Aw w1 (.cells #[.int .i64 0,.slice ua us.length uc,.slice none 0 0,.string (bs [])] 72)).mono HB1.size));go_wp2_with fail;refine(aii (l:=us) (sQ rfl ⟨rfl,rfl,rfl⟩) (HU.below (Bc.trans (Jj.mono Bc.size))) aeQ aeT).mono ?_;rintro e w2⟨h2,rfl,A8,jw⟩;have Am:=Hi (Jj.trans (A8.mono Jj.size));have NI:=Hi jw;clear A8 jw c0 c1 c2 c3 Jj;obtain⟨c0,c1,c2,c3⟩:=HX _ Am.out;have HT:Hid (nK N l us fs w (.returned (.bool true)) w2):=Hi ⟨true,rfl,Bc.trans (Am.mono Bc.size),fun h=>by cases h⟩;cases h2 with
    |true=>
     go_wp2_with fail;go_ret;exact HT.out
    |false=>
     have HG:Hid (∀ b,b=(decide ((10:Int) < (fs.length:Int)) || decide ((4096:Int) < (KH fs:Int)) || decide (N < 8))→nK N l us fs w (.returned (.bool b)) w2):=Hi fun b hb=>⟨b,rfl,Bc.trans (Am.mono Bc.size),fun g=>by
      obtain⟨x1,x2,x3,x4⟩:=Wj (by first|rfl|trivial);obtain⟨y1,y2,y3,y4⟩:=NI (by first|rfl|trivial);subst hb;simp only[Bool.or_eq_false_iff,decide_eq_false_iff_not] at g;exact⟨x1,x2,x3,y1,y2,y3,by omega,by omega,by omega,x4⟩⟩
     clear HS;generalize KH fs=D at*;by_cases Ij:(10:Int) < (fs.length:Int)
     ·go_wp2_with fail;go_ret;exact HT.out
     by_cases h4:(4096:Int) < (D:Int)
     ·go_wp2_with fail;go_ret;exact HT.out
     by_cases h8:N < 8
     ·go_wp2_with fail;go_ret;exact HG _ (by simp<;>omega)
     ·go_wp2_with fail;go_ret;exact HG _ (by simp<;>omega)
end Hv
section
open Go.RowKit Go.Maps
theorem acO(l m:List (List UInt8))(a a':Option Addr)(cap cap':Nat)(w:World)(hl:Cg w a l)(hm:Cg w a' m)(h1:l.length≤maxLen)(h2:m.length≤maxLen):
  Calls prog 24 #[.slice a l.length cap,.slice a' m.length cap'] w fun e w'=>e=.returned (.bool (decide (l=m)))∧Bw w w':=by
 unfold maxLen at h1 h2;by_cases hlen:l.length=m.length
 ·have HL:=Hi hl;have HM:=Hi hm;have EY:=Hi hlen;have qp:((l.length:Int) == (m.length:Int))=true:=by simp[hlen]
  have hbn:((l.length:Int) != (m.length:Int))=false:=by simp[hlen]
  clear hl hm hlen;go_enter func24,ntmps24;go_wp2_with fail
  go_loopw [5] (fun i wr=>∃ k:Nat,k≤l.length∧i=.int .i64 k∧l.take k=m.take k∧Bw w wr) (fun i _=>l.length -(intOf i).toNat)
  case atStart=>exact⟨0,by omega,rfl,rfl,Af _ _⟩
  case round=>
   obtain⟨k,hk,rfl,ht,hb⟩:=hrel;have HT:=Hi ht;have HB:=Hi hb;clear ht hb;by_cases hlt:k < l.length
   ·have aj9:k < m.length:=(by rw[←EY.out];exact hlt);obtain⟨q,Hg,hq⟩:=(HL.below HB).index cap k hlt;obtain⟨q',qK,hq'⟩:=(HM.below HB).index cap' k aj9;have ak0:l.take (k+1)=l.take k++[l[k]]:=Cw hlt;have ak1:m.take (k+1)=m.take k++[m[k]]:=Cw aj9;have hne:l[k]≠m[k]→l≠m:=fun h e=>h (by subst e;rfl)
    have TD:=Hi (Cc ak0 ak1);have az:=Hi hne;clear ak0 ak1 hne;generalize l[k]=x at*;generalize m[k]=y at*;by_cases Io:x=y
    ·subst Io;have HR:=Hi (show l.take (k+1)=m.take (k+1) by rw[TD.1,TD.2,HT.out]);go_wp2_with fail
     go_quiet (fail)
     go_wp2_with fail;go_roundw
     case rel=>exact⟨k+1,by omega,by go_num,HR,HB.trans ((F6 wr _).mono HB.size)⟩
     case measure=>simp[intOf];omega
    ·have Ad:(x == y)=false:=(by simp[Io]);have A8:(x != y)=true:=(by simp[Io]);have HR:=Hi (show decide (l=m)=false by simpa using az Io);clear Io;go_wp2_with fail
     go_quiet (fail)
     go_wp2_with fail;go_ret;rw[HR.out];exact⟨rfl,HB.trans ((F6 wr _).mono HB.size)⟩
   ·obtain rfl:k=l.length:=by omega
    have HR:=Hi (show decide (l=m)=true by
     have h:=HT.out;rw[Gn (Ac _),Gn (by rw[EY.out];exact Ac _)] at h;simpa using h)
    go_wp2_with fail;go_ret;rw[HR.out];exact⟨rfl,HB⟩
 ·have qp:((l.length:Int) == (m.length:Int))=false:=by simp;omega
  have hbn:((l.length:Int) != (m.length:Int))=true:=by simp;omega
  have HR:=Hi (show decide (l=m)=false by simp;exact fun e=>hlen (by rw[e]));clear hl hm hlen;go_enter func24,ntmps24;go_wp2_with fail;go_ret;rw[HR.out];exact⟨rfl,Af _ _⟩
end
section
open Go.RowKit Go.WideShapes Go.ChangeShapes Go.Deep
structure af9(w:World)(v:Value)(l:List (List UInt8)):Prop where
 at_:∃ a cap,v=.slice a l.length cap∧Cg w a l∧(a=none→cap=0)
 len:l.length≤maxLen
 all:∀ s∈l,s.length≤reachBytes
theorem ank{H:Type}{enc:TypeId×Value→H}{W:World}{base:Nat}{sp:Nat→Bool}{hd:Bool}{n:Nat}{cs:List Value}{y:DataW H×List MemPlace}
  (h:DataW.trod enc prog W base sp hd n 27 cs=some y)(hz:∀ n∈DataW.weights prog 27 y.1,n≤reachBytes):∃ v l,cs=[v]∧af9 W v l:=by
 rcases Go.Deep.open_slice underlying27 h with⟨rfl,_⟩|⟨a,len,cap,m,k,D,Pl,rfl,_,hl,hm,KR,hx,hi⟩
 ·exact⟨_,[],rfl,⟨none,0,rfl,fun i hi=>by simp at hi,fun _=>rfl⟩,by simp,by simp⟩
 ·have hC:prog.cellsOf 9=1:=by kernel_rfl
  rw[hC] at hi;have Sy:len≤m:=by rw[KR];split<;>omega
  obtain⟨l,EB,hP⟩:=kE (P:=fun i (x:List UInt8)=>W.cell? (a.add i)=some (.string (bs x))∧x.length≤reachBytes) len (fun i IM=>by
   obtain⟨cs',h1,h2⟩:=hi i (by omega);obtain⟨_,F7,hat⟩:=World.cells?_some h1;obtain⟨v,e1,e2,_⟩:=DataW.trod_string underlying9 h2;subst e1;refine⟨v.data.toList,?_,?_⟩
   ·have:=hat 0 (by omega);rw[add_zero',Nat.mul_one] at this;rw[this];rfl
   ·refine hz _ ?_;have hD:D i=.lit (.string v.data.toList):=congrArg Prod.fst e2;rw[hx];simp only[DataW.weights,underlying27];exact DT _ (List.mem_append_left _ (uO (Bz.2 ⟨i,List.mem_range.2 IM,rfl⟩) (by rw[hD];simp[DataW.weights]))))
  refine⟨_,l,rfl,⟨some a,cap,by rw[EB],fun i IM=>⟨a,rfl,(hP i IM).1⟩,fun e=>by cases e⟩,by omega,fun x Ug=>?_⟩;obtain⟨i,IM,rfl⟩:=List.getElem_of_mem Ug;exact(hP i IM).2
theorem azz{H:Type}{enc:TypeId×Value→H}{W:World}{base:Nat}{v:Value}{d:DataW H}{p:List MemPlace}
  (ho:Value.okWide prog W .any base 27 v)(h:DataW.Trod enc prog W 0 (fun _=>true) true 27 v d p)(hz:∀ n∈DataW.weights prog 27 d,(decide (n≤reachBytes))=true):∃ l,af9 W v l:=by
 obtain⟨a0,len,cap,rfl⟩:=okWide_slice underlying27 ho;obtain⟨fuel,hf⟩:=h;obtain⟨v,l,e,ht⟩:=ank hf (fun n hn=>QC (hz n hn));simp[Value.cells] at e;subst e;exact⟨l,ht⟩
end
section
open Go.RowKit Go.Maps
open Wal
theorem aAc{s:List UInt8}{j:Nat}(h:j < s.length):Crc.val (s.drop j)=s[j].toNat+256*Crc.val (s.drop (j+1)):=by
 rw[Qz h];rfl
theorem aAd(s:List UInt8)(j:Nat)(h:s.length≤8)(hj:j+1≤s.length):256*Crc.val (s.drop (j+1))+256≤18446744073709551616:=by
 have h1:=Crc.Ji (s.drop (j+1));have h2:256 ^ (s.drop (j+1)).length≤256 ^ 7:=Nat.pow_le_pow_right (by decide) (by rw[Ce];omega);have h3:(256:Nat) ^ 7=72057594037927936:=by decide
 omega
theorem ads(s:List UInt8)(w:World)(h8:s.length≤8):
  Calls prog 235 #[.string (bs s)] w fun e w'=>e=.returned (.int .u64 (Crc.val s:Nat))∧w=w':=by
 go_enter func235,ntmps235;go_wp2_with fail
 go_loop [3,4] (fun v i=>∃ j:Nat,j≤s.length∧i=.int .i64 ((j:Int) -1)∧v=.int .u64 (Crc.val (s.drop j):Nat)) (fun _ i=>(intOf i+1).toNat)
 case atStart=>exact⟨s.length,by omega,rfl,by rw[List.drop_length];rfl⟩
 case round=>
  obtain⟨j,hj,rfl,rfl⟩:=hrel;cases j with
  |zero=>
   rw[List.drop_zero];go_wp2_with fail;go_ret;exact⟨rfl,rfl⟩
  |succ j=>
   have e:((j+1:Nat):Int) -1=(j:Int):=(by omega);have hlt:j < s.length:=(by omega);have hv:=aAc hlt;have hb:=aAd s j h8 (by omega);have hc:=s[j].toNat_lt;simp only[e];clear e;have HV:=Hi hv;generalize Crc.val (s.drop (j+1))=V at*;have w1:IntKind.u64.wrap ((V:Int)*256)=(V:Int)*256:=IntWalk.u64_in _ (by omega);have w2:IntKind.u64.wrap ((s[j].toNat:Int))=(s[j].toNat:Int):=IntWalk.u64_in _ (by omega);have w3:IntKind.u64.wrap ((V:Int)*256+(s[j].toNat:Int))=(V:Int)*256+(s[j].toNat:Int):=IntWalk.u64_in _ (by omega);clear hv hb;go_wp2_with fail
   go_round
   case rel=>exact⟨j,by omega,rfl,by rw[HV.out];congr 1;omega⟩
   case measure=>simp[intOf]
theorem l6(s:List UInt8)(w:World)(h:s.length≤65535):
  Calls prog 204 #[.string (bs s)] w fun e w'=>e=.returned (.tuple #[.string (bs (Crc.le 2 s.length++s)),.int .i64 0])∧Bw w w':=by
 go_enter func204,ntmps204;go_wp2_with fail;refine(sN s.length 2 _ (by omega) (by decide)).mono ?_;rintro e w1⟨rfl,hb⟩;go_wp2_with fail;go_ret2;exact⟨rfl,hb⟩
theorem kZ(s:List UInt8)(w:World)(h:65535 < s.length):
  Calls prog 204 #[.string (bs s)] w fun e w'=>e=.returned (.tuple #[.string (bs []),.int .i64 5])∧w=w':=by
 go_enter func204,ntmps204;go_wp2_with fail;go_ret2;exact⟨rfl,rfl⟩
theorem tZ(s:List UInt8)(w:World)(hl:s.length≤1099511627776):
  Calls prog 236 #[.string (bs s)] w fun e w'=>e=.returned (.tuple #[.string (bs (EU s).1),.int .i64 ((EU s).2.1:Nat),.int .i64 (EU s).2.2])∧w=w':=by
 by_cases h2:s.length < 2
 ·have hR:Hid (EU s=([],0,6)):=Hi (by unfold EU Ie;rw[Ab h2]);rw[hR.out];go_enter func236,ntmps236;go_wp2_with fail;go_ret3;exact⟨rfl,rfl⟩
 ·have Gf:∀ W,(Instr.slice 9 (.string (bs s)) none (some (.int .i64 2)) none).run prog W=.ok (.string (bs (s.take 2))) W:=fun W=>Ny prog W 9 underlying9 s 2 (by omega)
  have O8:(s.take 2).length=2:=by rw[AL];omega
  have Je:=Crc.Ji (s.take 2);rw[O8] at Je;have hval:=fun(W:World)=>ads (s.take 2) W (by omega)
  have hR:EU s=if 2+Crc.val (s.take 2)≤s.length then((s.take (2+Crc.val (s.take 2))).drop 2,2+Crc.val (s.take 2),0) else([],0,6):=by
   unfold EU Ie;rw[Aa h2];by_cases hq:2+Crc.val (s.take 2)≤s.length
   ·rw[Ab hq,Ab hq]
   ·rw[Aa hq,Aa hq]
  generalize Crc.val (s.take 2)=v at*;have hv3:v < 65536:=Je;have Yp:=Hi hval;have HR:=Hi hR;have e2:IntKind.i64.wrap (v:Int)=(v:Int):=Ei _ (by omega);clear O8 Je hval hR;by_cases h3:2+v≤s.length
  ·have hcu:∀ W,(Instr.slice 9 (.string (bs s)) (some (.int .i64 2)) (some (.int .i64 (2+(v:Int)))) none).run prog W=.ok (.string (bs ((s.take (2+v)).drop 2))) W:=fun W=>by
    have:=dW prog W 9 underlying9 s 2 (2+v) (by omega) h3;rw[Int.natCast_add] at this;exact this
   have BI:=Hi (HR.trans (Ab h3));go_enter func236,ntmps236;go_wp2_with fail;refine(Yp _).mono ?_;rintro e w1⟨rfl,rfl⟩;go_wp2_with fail;go_ret3;rw[BI.out];exact⟨rfl,rfl⟩
  ·have BI:=Hi (HR.trans (Aa h3));go_enter func236,ntmps236;go_wp2_with fail;refine(Yp _).mono ?_;rintro e w1⟨rfl,rfl⟩;go_wp2_with fail;go_ret3;rw[BI.out];exact⟨rfl,rfl⟩
def nP(l:List (List UInt8))(k:Nat)(v:Value):Prop:=∃ S,v=.string (bs (Crc.le 2 l.length++S))∧textsE (l.take k)=some S
theorem nP.next{l:List (List UInt8)}{k:Nat}{S x:List UInt8}(h:textsE (l.take (k+1))=(DJ x).map (S++ ·))(hx:x.length≤65535){v:Value}(hv:v=.string (bs (Crc.le 2 l.length++(S++(Crc.le 2 x.length++x))))):nP l (k+1) v:=
 ⟨S++(Crc.le 2 x.length++x),hv,by rw[h];unfold DJ;rw[Ab hx];rfl⟩
theorem ayj(s:List UInt8)(w:World)(hs:s.length≤1000000000):
  Calls prog 211 #[.string (bs s)] w fun e w'=>Lr w s e w':=by
 by_cases h2:s.length < 2
 ·have hR:Hid (CW s=none):=Hi (by unfold CW;rw[Ab h2]);go_enter func211,ntmps211;go_wp2_with fail;go_ret2;exact La hR.out rfl (Af _ _)
 ·have Gf:∀ W,(Instr.slice 9 (.string (bs s)) none (some (.int .i64 2)) none).run prog W=.ok (.string (bs (s.take 2))) W:=fun W=>Ny prog W 9 underlying9 s 2 (by omega)
  have Js:∀ W,(Instr.slice 9 (.string (bs s)) (some (.int .i64 2)) none none).run prog W=.ok (.string (bs (s.drop 2))) W:=fun W=>LQ prog W 9 underlying9 s 2 (by omega)
  have O8:(s.take 2).length=2:=by rw[AL];omega
  have Je:=Crc.Ji (s.take 2);rw[O8] at Je;have hval:=fun(W:World)=>ads (s.take 2) W (by omega)
  have ED:CW s=(readTs (Crc.val (s.take 2)) (s.drop 2)).bind fun q=>if q.2=[] then some q.1 else none:=by unfold CW;rw[Aa h2]
  generalize Crc.val (s.take 2)=n at*;have hn3:n < 65536:=Je;have Yp:=Hi hval;have FD:=Hi ED;have e2:IntKind.i64.wrap (n:Int)=(n:Int):=Ei _ (by omega);clear O8 Je hval ED;go_enter func211,ntmps211;go_wp2_with fail;refine(Yp _).mono ?_;rintro e w1⟨rfl,rfl⟩;go_wp2_with fail
  go_loopw [0,5,6] (fun sv lv i wr=>∃ (j:Nat) (S:List UInt8) (l:List (List UInt8)),j≤n∧i=.int .i64 j∧sv=.string (bs S)∧wr.ownsRow 0 9 1 lv l.length (strCells l)∧l.length=j∧S.length≤s.length∧Bw w wr∧(∀ g,lv.ownBlock=some g→w.heap.size≤g)∧readTs n (s.drop 2)=(readTs (n -j) S).map fun q=>(l++q.1,q.2)) (fun _ _ i _=>n -(intOf i).toNat)
  case atStart=>exact⟨0,s.drop 2,[],by omega,rfl,rfl,by rw[lu];exact EI _ _ _ _,rfl,by rw[Ce];omega,Af _ _,fun g e=>by simp[Value.ownBlock] at e,by simp⟩
  case round=>
   obtain⟨j,S,l,hj,rfl,rfl,hown,EB,YK,hb,O9,LG⟩:=hrel;have HO:=Hi hown;have HB:=Hi hb;have HN:=Hi O9;have Ex:=Hi LG;have NK:=Hi EB;obtain⟨qv,cv,rfl⟩:=Bg hown;clear hown hb O9 LG EB Gf Js;by_cases hlt:j < n
   ·cases hr:Ie S with
    |none=>
     have hR:Hid (CW s=none):=Hi (by rw[FD.out,dO hlt Ex hr];rfl);have hRV:Hid (EU S=([],0,6)):=Hi (by unfold EU;rw[hr]);clear hr;go_wp2_with fail;refine(tZ S _ (by omega)).mono ?_;rw[hRV.out];rintro e w2⟨rfl,rfl⟩;go_wp2_with fail;go_ret2;exact La hR.out rfl HB.out
    |some r=>
     obtain⟨t,m⟩:=r;have hRV:Hid (EU S=(t,m,0)):=Hi (by unfold EU;rw[hr]);have Yg:=Hi (dP hlt Ex hr);obtain⟨_,hmS,_⟩:=ZG hr;have hcut:∀ W,(Instr.slice 9 (.string (bs S)) (some (.int .i64 (m:Int))) none none).run prog W=.ok (.string (bs (S.drop m))) W:=fun W=>LQ prog W 9 underlying9 S m hmS
     obtain⟨i0,Ba,AQ,AU,AV⟩:=Du Ta;have O7:l.length≤65536:=(by have:=NK.out;omega);clear hr;go_wp2_with fail;refine(tZ S _ (by omega)).mono ?_;rw[hRV.out];rintro e w2⟨rfl,rfl⟩
     go_wp2_with (
      at_builtin
      refine wpList_append_own_at _ rfl _ _ _ rfl 0 9 i0 _ 1 16 underlying27 Ba AQ AU AV rfl (by omega) (.slice qv l.length cv) l.length (strCells l) rfl (HO.alloc _) ⟨wr.heap.size,0,none⟩ 1 1 [.string (bs t)] rfl rfl (World.news_of_block (cs:=#[.string (bs t)]) (t:=9) (fr:=(0,0)) (AJ wr _)) (fun u hu=>by rw[EX] at hu;subst hu;rfl) (by unfold maxLen;omega) (by omega) (AB _) ?_;intro v' w6 hown Az _ hat;have HO6:=Hi (show w6.ownsRow 0 9 1 v' (l++[t]).length (strCells (l++[t])) by rw[Rl,Au];exact hown);have Fz:=Hi ((HB.alloc HB.size (.cells #[.string (bs t)] 9)).grown Az (Ap HB.size (by rw[Aq];omega)) HN)
      have HN6:=Hi (show ∀ g,v'.ownBlock=some g→w.heap.size≤g from fun g hg=>by
       rcases hat with hat|hat
       ·rw[hat] at hg;exact HN g hg
       ·rw[hat] at hg;have:=G7 hg;rw[Aq] at this;have:=HB.size;omega)
      clear hown Az hat)
     go_roundw
     case rel=>exact⟨j+1,S.drop m,l++[t],by omega,by go_num,rfl,HO6,by rw[Au,NK.out];rfl,by rw[Ce];omega,Fz,HN6,Yg⟩
     case measure=>simp[intOf];omega
   ·obtain rfl:j=n:=(by omega);by_cases hS:S=[]
    ·subst hS;have hR:Hid (CW s=some l):=Hi (by rw[FD.out,Ex.out,Nat.sub_self];simp[readTs]);go_wp2_with fail;go_ret2;exact kX hR.out rfl HO HB HN.out
    ·have hR:Hid (CW s=none):=Hi (by rw[FD.out,Ex.out,Nat.sub_self];simp[readTs,hS]);have hne:S.isEmpty=false:=by
      cases S with
      |nil=>exact absurd rfl hS
      |cons=>rfl
     clear hS;go_wp2_with fail;go_ret2;exact La hR.out rfl HB.out
end
end Go.Proofs.YtmbbhdebddbhoaaGreat
