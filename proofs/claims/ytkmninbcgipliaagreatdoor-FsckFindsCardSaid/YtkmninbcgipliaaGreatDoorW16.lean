/- SwMkW SwAl SwKe SwLaw SwK FckC SwAv FckE LinF FckK SwNil SwAvW -/
import Derived.Test.YtkmninbcgipliaaGreatDoorW15
import Derived.IntWalk
set_option maxHeartbeats 8000000
set_option maxRecDepth 100000
set_option linter.all false
namespace Go.Proofs.YtkmninbcgipliaaGreatDoor
open Go.Proofs.Tryz
namespace Hv
open Go.RowKit Go.Maps
open Aw Ah Bu Kp Bz Hex BH Al Mem Ci Gr
open Aq hiding T
section
variable {B:Nat}{w0 w w':World}{b y n N r p:Nat}{A A' R R':M}{L:List (Nat×Obj)}{a:Option Addr}{cap:Nat}
theorem Duo.more{N':Nat}(h:Duo B w0 w b y n N A r R L)(hN:N≤N'):Duo B w0 w b y n N' A r R L:=by
 obtain⟨bl,h1,_,h3⟩:=h.pick;exact h3 ⟨bl,h1.more hN,A7.refl _ _,fun k hk=>.inl hk⟩
theorem aaP{l:List Am}(h:Duo B w0 w b y n N A r R L)(hN:N < 1000000000)(hL:Eh w a l)(hlen:l.length≤100000)(hok:∀ c∈l,c.name.length≤maxLen∧c.data.length≤maxLen)(Vt:l.all Am.may=true→Ff l≤900000):
  Calls prog 17 #[y,.slice a l.length cap] w fun e w'=>e=.returned (.int .i64 (FB n A l))∧Duo B w0 w' b y n (N+1) (Ep n A l) r R L:=by
 obtain⟨bl,h1,_,h3⟩:=h.pick;refine(auQ h1 hN hL hlen hok Vt).mono ?_;rintro e w'⟨c,rfl,CY,g1,g2,g3⟩;obtain⟨rfl,g4⟩:=g1.calm;exact⟨rfl,h3 ⟨CY,g4,g2,g3⟩⟩
theorem atW{l:List Am}(h:Duo B w0 w b y n N A r R L)(hu:Up R)(hn:n≤16384)(hA:used R≤Cy n)(hL:Eh w a l)(hlen:l.length≤100000)(hok:∀ c∈l,c.name.length≤maxLen∧c.data.length≤maxLen)(Vt:l.all Am.may=true→Ff l≤900000):
  Calls prog 44 #[r,.slice a l.length cap] w fun e w'=>e=.returned (.int .i64 (FB n R l))∧Duo B w0 w' b y n N A r (Ep n R l) L:=by
 obtain⟨v,hv⟩:=h.rf;refine(aAW hv hu hL hn hA hlen hok (fun e=>Ay (Vt e) (by omega))).mono ?_;rintro e w'⟨rfl,v',g1,g2⟩;exact⟨rfl,h.ref g1 g2⟩
theorem anT{K:Kind}(hK:K.Cg){l:M}(h:Fits K l):∀ c∈Fa K l,c.name.length≤maxLen∧c.data.length≤maxLen:=fun c hc=>by
 have h1:=Nl.1 (anR hK h) c hc;unfold Am.may EX at h1;simp only[Bool.and_eq_true,decide_eq_true_eq] at h1;unfold maxLen;omega
theorem anQ(K:Kind)(l:M):(Fa K l).length≤l.length:=by
 unfold Fa;rw[Ca];exact Ay (aot _) (by rw[Ca];exact Ag _)
theorem atV{l:M}(h:Duo B w0 w b y n N A r R L)(hN:N < 1000000000)(hp:(p,Fp y)∈L)(CP:∀ k,Ah.get A (Ad.nm k)=none)(hk:Bg w a l)(hl:l.length≤20)(hs:Kl l≤262144)(FU:∀ j name,Small (BN Ad (l.take j) name)):
  Calls prog 40 #[p,.slice a l.length cap] w fun e w'=>e=.returned (.int .i64 (Ha Ad n A l).1)∧Duo B w0 w' b y n (N+1) (Ha Ad n A l).2 r R L:=by
 obtain⟨bl,h1,_,_⟩:=h.pick;have Rz:Ff (Fa Ad l)≤900000:=by
  have h2:=oU Jc l;have h3:=ahZ l;omega
 refine(azM (Q:=fun c w'=>c=(Ha Ad n A l).1∧Duo B w0 w' b y n (N+1) (Ha Ad n A l).2 r R L) (h.at_ _ _ hp) (sZ h1) CP hk (by omega) (fun x hx=>by have:=anO l x hx;omega) FU (fun W hb=>ab7 (h1.below hb)) (fun hf w' hb=>?_) (fun hf W q c hb hc=>?_)).mono ?_
 ·unfold Ha;rw[A9 hf];exact⟨rfl,(h.step hb).more (by omega)⟩
 ·have Qo:=anQ Ad l;refine(aaP (h.step hb) hN hc (by omega) (anT Jc hf) (fun _=>Rz)).mono ?_;rintro e w'⟨rfl,g⟩;refine⟨_,rfl,?_⟩;unfold Ha;rw[Ae hf];exact⟨rfl,g⟩
 ·rintro e w' ⟨c,rfl,rfl,g⟩;exact⟨rfl,g⟩
theorem atX{l:M}(h:Duo B w0 w b y n N A r R L)(hu:Up R)(hn:n≤16384)(hA:used R≤Cy n)(CP:∀ k,Ah.get R (Ad.nm k)=none)(hk:Bg w a l)(hl:l.length≤20)(hs:Kl l≤262144)(FU:∀ j name,Small (BN Ad (l.take j) name)):
  Calls prog 41 #[r,.slice a l.length cap] w fun e w'=>e=.returned (.int .i64 (Ha Ad n R l).1)∧Duo B w0 w' b y n N A r (Ha Ad n R l).2 L:=by
 obtain⟨v,hv⟩:=h.rf;refine(aBB hv hu CP hn hA hk hl (fun x hx=>by have:=anO l x hx;omega) FU).mono ?_;rintro e w'⟨rfl,v',g1,g2⟩;exact⟨rfl,h.ref g1 g2⟩
theorem atZ{l:Us}(h:Duo B w0 w b y n N A r R L)(hN:N < 1000000000)(hp:(p,FC y)∈L)(CP:∀ k,Ah.get A (Aa.nm k)=none)(hk:NF w a l)(hl:l.length≤20)(Gt:∀ u∈l,u.2.length≤30)(hs:IP l≤16384)(FU:∀ j name,Small (BN Aa (BG (l.take j)) name)):
  Calls prog 42 #[p,.slice a l.length cap] w fun e w'=>e=.returned (.int .i64 (Im n A l).1)∧Duo B w0 w' b y n (N+1) (Im n A l).2 r R L:=by
 obtain⟨bl,h1,_,_⟩:=h.pick;have Rz:ND l→Ff (Fa Aa (BG l))≤900000:=fun hr=>by
  have h2:=oU Gf (BG l);have h3:=aDP hr;rw[PH] at h2;omega
 refine(atT (Q:=fun c w'=>c=(Im n A l).1∧Duo B w0 w' b y n (N+1) (Im n A l).2 r R L) (h.at_ _ _ hp) (sZ h1) CP hk (by omega) (fun x hx=>⟨by have:=apT l x hx;omega,by have:=Gt x hx;omega⟩) FU (fun W hb=>ab7 (h1.below hb)) (fun hf w' hb=>?_) (fun hf W q c hb hc=>?_)).mono ?_
 ·have e:Im n A l=(5,A):=by
   unfold Im Ha;by_cases hr:ND l
   ·rw[Ae hr,A9 (fun g=>hf ⟨hr,g⟩)]
   ·rw[A9 hr]
  rw[e];exact⟨rfl,(h.step hb).more (by omega)⟩
 ·have Qo:=anQ Aa (BG l);rw[PH] at Qo;refine(aaP (h.step hb) hN hc (by omega) (anT Gf hf.2) (fun _=>Rz hf.1)).mono ?_;rintro e w'⟨rfl,g⟩;refine⟨_,rfl,?_⟩;unfold Im Ha;rw[Ae hf.1,Ae hf.2];exact⟨rfl,g⟩
 ·rintro e w' ⟨c,rfl,rfl,g⟩;exact⟨rfl,g⟩
theorem atY{l:Us}(h:Duo B w0 w b y n N A r R L)(hu:Up R)(hn:n≤16384)(hA:used R≤Cy n)(CP:∀ k,Ah.get R (Aa.nm k)=none)(hk:NF w a l)(hl:l.length≤20)(Gt:∀ u∈l,u.2.length≤30)(hs:IP l≤16384)(FU:∀ j name,Small (BN Aa (BG (l.take j)) name)):
  Calls prog 43 #[r,.slice a l.length cap] w fun e w'=>e=.returned (.int .i64 (Im n R l).1)∧Duo B w0 w' b y n N A r (Im n R l).2 L:=by
 obtain⟨v,hv⟩:=h.rf;refine(aBG hv hu CP hn hA hk hl (fun x hx=>⟨by have:=apT l x hx;omega,by have:=Gt x hx;omega⟩) FU).mono ?_;rintro e w'⟨rfl,v',g1,g2⟩;exact⟨rfl,h.ref g1 g2⟩
theorem amY{l:List Am}(h:l.all Am.may=true)(eZ:l.length≤10)(hd:Ma l≤4096):Ff l≤900000:=by
 have key:∀ l:List Am,l.all Am.may=true→Ff l≤40*l.length+Ma l:=by
  intro l
  induction l with
  |nil=>intro _;exact AV _
  |cons c l ih=>
   intro h;rw[List.all_cons,Bool.and_eq_true] at h;have h1:=ih h.2;have h2:=h.1;unfold Am.may EX at h2;simp only[Bool.and_eq_true,decide_eq_true_eq] at h2;have e1:Ff (c :: l)=(8+c.name.length+c.data.length)+Ff l:=rfl;have e2:Ma (c :: l)=c.data.length+Ma l:=rfl;rw[e1,e2,BM];omega
 have:=key l h;omega
theorem aj5{K:Kind}{l:M}{name:T}{C:Nat}(hl:l.length≤1000)(hc:Da l≤C)(hC:C≤900000000):Small (BN K l name):=by
 have hn:(BN K l name).Nodup:=List.nodup_iff_pairwise_ne.2 ((show List.Pairwise (fun a b:T×T=>a.1 < b.1) (BN K l name) from TS l name).imp fun {a b} (h:a.1 < b.1) (e:a=b)=>LM h (congrArg Prod.fst e));have hs:∀ x∈BN K l name,x∈l:=fun x hx=>(tC l name x hx).2
 have h1:=bW (fun _=>1) _ _ hn hs;have h2:=bW (fun q:T×T=>4+q.1.length+q.2.length) _ _ hn hs;have e:∀ l:M,(l.map fun _=>1).sum=l.length:=fun l=>by
  induction l with
  |nil=>rfl
  |cons x l ih=>rw[Ce,DY,ih,BM];omega
 rw[e,e] at h1;have h3:Da (BN K l name)≤Da l:=h2;refine⟨by omega,?_⟩;rw[sH];omega
theorem aaR(l:M)(j:Nat):Da (l.take j)≤Da l:=by
 have h:Da l=Da (l.take j)+Da (l.drop j):=by
  conv=>lhs;rw[←Lb j l]
  unfold Da;rw[CQ,LX]
 omega
theorem aq0(l:Us):Da (BG l)≤6*l.length+16*IP l:=by
 induction l with
 |nil=>exact AV _
 |cons u l ih=>
  have h2:(QH u).2.length≤2+16*NT u.2:=by
   by_cases h:(Dg (Bi u.2)).2=0
   ·exact apU h
   ·have:(QH u).2=[]:=by
     show(Dg (Bi u.2)).1=[]
     unfold Dg at h ⊢;cases hr:GM (Bi u.2) with
     |none=>rfl
     |some s=>rw[hr] at h;exact absurd rfl h
    rw[this];exact AV _
  have e1:Da (BG (u :: l))=(4+u.1.length+(QH u).2.length)+Da (BG l):=rfl;have e2:IP (u :: l)=(u.1.length+NT u.2)+IP l:=rfl;rw[e1,e2,BM];omega
theorem ap7{l:M}(hl:l.length≤20)(hs:Kl l≤262144)(j:Nat)(name:T):Small (BN Ad (l.take j) name):=by
 have h1:=aaR l j;have h2:=ahZ l;exact aj5 (by rw[Bc];omega) (Ay h1 (Ag _)) (by omega)
theorem ap8{l:Us}(hl:l.length≤20)(hs:IP l≤16384)(j:Nat)(name:T):Small (BN Aa (BG (l.take j)) name):=by
 rw[xS];have h1:=aaR (BG l) j;have h2:=aq0 l;exact aj5 (by rw[Bc,PH];omega) (Ay h1 (Ag _)) (by omega)
def gX(n:Nat)(l:M)(us:Us)(fs:List Am):M:=Ep n (Im n (Ha Ad n [] l).2 us).2 fs
theorem Em.lower{B2:Nat}{w2:World}(h:Em B w0 w b y n N A L)(hb:Below B2 w2 w0)(hB:B2≤B):Em B2 w2 w b y n N A L:=by
 obtain⟨⟨h1,h2,hx,bl,h3,h4⟩,ha⟩:=h;exact⟨⟨hb.trans (h1.mono hB),Ay hB h2,hx,bl,h3,fun k hk=>⟨Ay hB (h4 k hk).1,(h4 k hk).2⟩⟩,ha⟩
end
def Jb(y p d r:Nat):Obj:=.cells #[y,p,d,r] 47
theorem amT{n:Nat}{a ua fa:Option Addr}{cap uc fc:Nat}{l:M}{us:Us}{fs:List Am}{w:World}(Qw:qY n l us fs)(hL:Bg w a l)(hU:NF w ua us)(hF:Eh w fa fs)(lZ:∀ c∈fs,c.name.length≤maxLen∧c.data.length≤maxLen):
  Calls prog 12 #[.agg #[(n:Int),.slice a l.length cap,.slice ua us.length uc,.slice fa fs.length fc]] w fun e w'=>∃ b y p d r xb,e=.returned (.tuple #[.pointer (some ⟨xb,0,none⟩),true])∧Em w.heap.size w w' b y n 3 (gX n l us fs) [(xb,Jb y p d r),(d,FC y),(p,Fp y)]:=by
 have Iu:=Hi Qw;have HL:=Hi hL;have HU:=Hi hU;have HF:=Hi hF;have jB:=Hi lZ;have h8:8≤n:=by have:=Qw.n8;omega
 have aj9:n≤200:=by have:=Qw.n200;omega
 clear Qw hL hU hF lZ
 go_in
 go_wp2_with fail;have AP:=Hi (AQ w (.cells #[(n:Int),.slice a l.length cap,.slice ua us.length uc,.slice fa fs.length fc] 34));have hx:=AU w (.cells #[(n:Int),.slice a l.length cap,.slice ua us.length uc,.slice fa fs.length fc] 34);generalize ny:w.alloc (.cells #[(n:Int),.slice a l.length cap,.slice ua us.length uc,.slice fa fs.length fc] 34)=wa at*;have HX:Hid (∀ wr,Bw wa wr→wr.cell? w.heap.size=some ↑(n:Int)∧wr.cell? ⟨w.heap.size,1,none⟩=some (.slice a l.length cap)∧wr.cell? ⟨w.heap.size,2,none⟩=some (.slice ua us.length uc)∧wr.cell? ⟨w.heap.size,3,none⟩=some (.slice fa fs.length fc)):=Hi fun wr hb=>by
  have hk:w.heap.size < wa.heap.size:=(Dn.1 hx).1;refine⟨(hb.cell (p:=⟨w.heap.size,0,none⟩) hk).trans ?_,(hb.cell (p:=⟨w.heap.size,1,none⟩) hk).trans ?_,(hb.cell (p:=⟨w.heap.size,2,none⟩) hk).trans ?_,(hb.cell (p:=⟨w.heap.size,3,none⟩) hk).trans ?_⟩<;>(unfold World.cell?;rw[hx];rfl)
 clear ny hx;refine(azj n h8 (by omega) wa).mono ?_;rintro e w1⟨b,y,p,rfl,h1⟩;have H1:=Hi h1;clear h1;go_wp2_with fail;refine(atH y w1).mono ?_;rintro e w2⟨d,rfl,hd,hdp,Ac⟩;have H2:=Hi (aaf H1 Ac hdp (o:=FC y) hd);clear hd hdp Ac H1;obtain⟨c0,c1,c2,c3⟩:=HX _ H2.AR;go_wp2_with fail;refine(aBq n h8 (by omega) w2).mono ?_;rintro e w3⟨r,rfl,hr,hrp,Av⟩;have H3:=Hi (atU H2 Av hr hrp);clear hr hrp Av H2 c0 c1 c2 c3;have H4:=Hi (H3.new (Jb y p d r));have HC:Hid (∀ (W:World) (N:Nat) (A R:M),Duo wa.heap.size wa W b y n N A r R [(w3.heap.size,Jb y p d r),(d,FC y),(p,Fp y)]→W.cell? ⟨w.heap.size,1,none⟩=some (.slice a l.length cap)∧W.cell? ⟨w.heap.size,2,none⟩=some (.slice ua us.length uc)∧W.cell? ⟨w.heap.size,3,none⟩=some (.slice fa fs.length fc)∧W.cell? ⟨w3.heap.size,3,none⟩=some (.pointer (some ⟨r,0,none⟩))):=Hi fun W N A R h=>by
  obtain⟨_,x1,x2,x3⟩:=HX _ h.AR;exact⟨x1,x2,x3,by have:=h.cell (k:=w3.heap.size) (t:=47) (Gl) 3;exact this⟩
 have ZA:Hid (∀ (W:World) (R:M),Duo wa.heap.size wa W b y n 0 [] r R [(w3.heap.size,Jb y p d r),(d,FC y),(p,Fp y)]→Calls prog 40 #[.pointer (some ⟨p,0,none⟩),.slice a l.length cap] W fun e w'=>e=.returned (.int .i64 (Ha Ad n [] l).1)∧Duo wa.heap.size wa w' b y n 1 (Ha Ad n [] l).2 r R [(w3.heap.size,Jb y p d r),(d,FC y),(p,Fp y)]):=Hi fun W R h=>
  atV h (by omega) (by simp) (fun k=>rfl) (HL.below (AP.trans (h.AR.mono AP.size))) Iu.vH Iu.vJ (ap7 Iu.vH Iu.vJ)
 have Fy:Hid (∀ (W:World) (N:Nat) (A:M),Duo wa.heap.size wa W b y n N A r [] [(w3.heap.size,Jb y p d r),(d,FC y),(p,Fp y)]→Calls prog 41 #[.pointer (some ⟨r,0,none⟩),.slice a l.length cap] W fun e w'=>e=.returned (.int .i64 (Ha Ad n [] l).1)∧Duo wa.heap.size wa w' b y n N A r (Ha Ad n [] l).2 [(w3.heap.size,Jb y p d r),(d,FC y),(p,Fp y)]):=Hi fun W N A h=>
  atX h Up.nil (by omega) (by unfold Cy sz lg;show 4≤_;omega) (fun k=>rfl) (HL.below (AP.trans (h.AR.mono AP.size))) Iu.vH Iu.vJ (ap7 Iu.vH Iu.vJ)
 obtain⟨⟨k1,A1⟩,fo⟩:=ex (Ha Ad n [] l);rw[fo] at ZA Fy;dsimp only at ZA Fy;obtain⟨x1,x2,x3,x4⟩:=HC _ _ _ _ H4.out;have ayg:=(Dn.1 (H4.at_ _ _ (Gl))).1;obtain⟨w4,IK⟩:=ex (w3.alloc (Jb y p d r));rw[IK] at H4 x1 x2 x3 x4 ayg;go_upto_region 8 with fail
 rw[show w3.alloc (.cells #[.pointer (some ⟨y,0,none⟩),.pointer (some ⟨p,0,none⟩),.pointer (some ⟨d,0,none⟩),.pointer (some ⟨r,0,none⟩)] 47)=w4 from IK];clear IK H3 x1 x2 x3 x4;generalize w3.heap.size=xb at*
 go_cut [9] from 37 to 48 (fun s9 wx=>s9= ↑true∧Duo wa.heap.size wa wx b y n 1 A1 r A1 [(xb,Jb y p d r),(d,FC y),(p,Fp y)])
 case first=>
  obtain⟨x1,x2,x3,x4⟩:=HC _ _ _ _ H4.out;refine cz ?_
  go_region_law
   (first
    |(go_simp;go_at_call 40;refine(ZA _ _ (H4.step ((Ai _ _).drew))).mono ?_;rintro e wA ⟨rfl,hA⟩;have HA:=Hi hA;obtain⟨xA1,pg,pq,pz⟩:=HC _ _ _ _ hA;clear hA;go_wp2_with fail)
    |(go_simp;go_at_call 41;refine(Fy _ _ _ (H4.step ((Ai _ _).drew))).mono ?_;rintro e wB ⟨rfl,hA⟩;have HB:=Hi hA;obtain⟨xA1,pg,pq,pz⟩:=HC _ _ _ _ hA;clear hA;go_wp2_with fail)
    |(go_simp;go_at_call 41;refine(Fy _ _ _ HA).mono ?_;rintro e wE ⟨rfl,hA⟩;have HE:=Hi hA;obtain⟨xE1,xE2,xE3,pE⟩:=HC _ _ _ _ hA;clear hA;go_wp2_with fail)
    |(go_simp;go_at_call 40;refine(ZA _ _ HB).mono ?_;rintro e wE ⟨rfl,hA⟩;have HE:=Hi hA;obtain⟨xE1,xE2,xE3,pE⟩:=HC _ _ _ _ hA;clear hA;go_wp2_with fail))
  all_goals
   dsimp only[Z4];go_wp2_with fail;go_meet
   case rel=>exact⟨by simp,HE⟩
 case rest=>
  obtain⟨rfl,h5⟩:=hcut;have H5:=Hi h5;clear h5 ZA Fy H4;have abu:A1=(Ha Ad n [] l).2:=by rw[fo]
  have PX:=Hi (show ∀ k,Ah.get A1 (Aa.nm k)=none from by rw[abu];exact anm Gf Jc (fun x h1 h2=>J4.apart x h2 h1) Up.nil (fun k=>rfl) l);have NA:=Hi (iy H5.k);have dE:=Hi abu;clear abu;have Ll:Hid (∀ (W:World) (R:M),Duo wa.heap.size wa W b y n 1 A1 r R [(xb,Jb y p d r),(d,FC y),(p,Fp y)]→Calls prog 42 #[.pointer (some ⟨d,0,none⟩),.slice ua us.length uc] W fun e w'=>e=.returned (.int .i64 (Im n A1 us).1)∧Duo wa.heap.size wa w' b y n 2 (Im n A1 us).2 r R [(xb,Jb y p d r),(d,FC y),(p,Fp y)]):=Hi fun W R h=>
   atZ h (by omega) (by simp) PX (HU.below (AP.trans (h.AR.mono AP.size))) Iu.u20 Iu.uks Iu.xM (ap8 Iu.u20 Iu.xM)
  have BV:Hid (∀ (W:World) (N:Nat) (A:M),Duo wa.heap.size wa W b y n N A r A1 [(xb,Jb y p d r),(d,FC y),(p,Fp y)]→Calls prog 43 #[.pointer (some ⟨r,0,none⟩),.slice ua us.length uc] W fun e w'=>e=.returned (.int .i64 (Im n A1 us).1)∧Duo wa.heap.size wa w' b y n N A r (Im n A1 us).2 [(xb,Jb y p d r),(d,FC y),(p,Fp y)]):=Hi fun W N A h=>
   atY h NA.1 (by omega) NA.2.2 PX (HU.below (AP.trans (h.AR.mono AP.size))) Iu.u20 Iu.uks Iu.xM (ap8 Iu.u20 Iu.xM)
  obtain⟨⟨k2,A2⟩,hA2⟩:=ex (Im n A1 us);rw[hA2] at Ll BV;dsimp only at Ll BV;go_upto_region 9 with fail
  go_cut [9] from 49 to 63 (fun s9 wx=>s9= ↑true∧Duo wa.heap.size wa wx b y n 2 A2 r A2 [(xb,Jb y p d r),(d,FC y),(p,Fp y)])
  case first=>
   obtain⟨x1,x2,x3,x4⟩:=HC _ _ _ _ H5.out;refine cz ?_
   go_region_law
    (first
     |(go_simp;go_at_call 42;refine(Ll _ _ (H5.step ((Ai _ _).drew))).mono ?_;rintro e wA ⟨rfl,hA⟩;have HA:=Hi hA;obtain⟨xA1,pg,pq,pz⟩:=HC _ _ _ _ hA;clear hA;go_wp2_with fail)
     |(go_simp;go_at_call 43;refine(BV _ _ _ (H5.step ((Ai _ _).drew))).mono ?_;rintro e wB ⟨rfl,hA⟩;have HB:=Hi hA;obtain⟨xA1,pg,pq,pz⟩:=HC _ _ _ _ hA;clear hA;go_wp2_with fail)
     |(go_simp;go_at_call 43;refine(BV _ _ _ HA).mono ?_;rintro e wE ⟨rfl,hA⟩;have HE:=Hi hA;obtain⟨xE1,xE2,xE3,pE⟩:=HC _ _ _ _ hA;clear hA;go_wp2_with fail)
     |(go_simp;go_at_call 42;refine(Ll _ _ HB).mono ?_;rintro e wE ⟨rfl,hA⟩;have HE:=Hi hA;obtain⟨xE1,xE2,xE3,pE⟩:=HC _ _ _ _ hA;clear hA;go_wp2_with fail))
   all_goals
    dsimp only[Z4];go_wp2_with fail;go_meet
    case rel=>exact⟨by simp,HE⟩
  case rest=>
   obtain⟨rfl,h6⟩:=hcut;have H6:=Hi h6;clear h6 Ll BV H5;have Sv:=Hi (iy H6.k);have dF:=Hi (show A2=(Im n A1 us).2 by rw[hA2]);have J5:fs.length≤100000:=(by have:=Iu.f10;omega);have ZB:Hid (∀ (W:World) (R:M),Duo wa.heap.size wa W b y n 2 A2 r R [(xb,Jb y p d r),(d,FC y),(p,Fp y)]→Calls prog 17 #[.pointer (some ⟨y,0,none⟩),.slice fa fs.length fc] W fun e w'=>e=.returned (.int .i64 (FB n A2 fs))∧Duo wa.heap.size wa w' b y n 3 (Ep n A2 fs) r R [(xb,Jb y p d r),(d,FC y),(p,Fp y)]):=Hi fun W R h=>
    aaP h (by omega) (HF.below (AP.trans (h.AR.mono AP.size))) J5 jB (fun e=>amY e Iu.f10 Iu.aiz)
   have Ny:Hid (∀ (W:World) (N:Nat) (A:M),Duo wa.heap.size wa W b y n N A r A2 [(xb,Jb y p d r),(d,FC y),(p,Fp y)]→Calls prog 44 #[.pointer (some ⟨r,0,none⟩),.slice fa fs.length fc] W fun e w'=>e=.returned (.int .i64 (FB n A2 fs))∧Duo wa.heap.size wa w' b y n N A r (Ep n A2 fs) [(xb,Jb y p d r),(d,FC y),(p,Fp y)]):=Hi fun W N A h=>
    atW h Sv.1 (by omega) Sv.2.2 (HF.below (AP.trans (h.AR.mono AP.size))) J5 jB (fun e=>amY e Iu.f10 Iu.aiz)
   have XI:=Hi (show Ep n A2 fs=gX n l us fs by unfold gX;rw[←dE.out,←dF.out]);generalize FB n A2 fs=k3 at*;generalize Ep n A2 fs=A3 at*;clear fo hA2 J5;go_upto_region 10 with fail
   go_cut [9] from 64 to 78 (fun s9 wx=>s9= ↑true∧Duo wa.heap.size wa wx b y n 3 A3 r A3 [(xb,Jb y p d r),(d,FC y),(p,Fp y)])
   case first=>
    obtain⟨x1,x2,x3,x4⟩:=HC _ _ _ _ H6.out;refine cz ?_
    go_region_law
     (first
      |(go_simp;go_at_call 17;refine(ZB _ _ (H6.step ((Ai _ _).drew))).mono ?_;rintro e wA ⟨rfl,hA⟩;have HA:=Hi hA;obtain⟨xA1,pg,pq,pz⟩:=HC _ _ _ _ hA;clear hA;go_wp2_with fail)
      |(go_simp;go_at_call 44;refine(Ny _ _ _ (H6.step ((Ai _ _).drew))).mono ?_;rintro e wB ⟨rfl,hA⟩;have HB:=Hi hA;obtain⟨xA1,pg,pq,pz⟩:=HC _ _ _ _ hA;clear hA;go_wp2_with fail)
      |(go_simp;go_at_call 44;refine(Ny _ _ _ HA).mono ?_;rintro e wE ⟨rfl,hA⟩;have HE:=Hi hA;obtain⟨xE1,xE2,xE3,pE⟩:=HC _ _ _ _ hA;clear hA;go_wp2_with fail)
      |(go_simp;go_at_call 17;refine(ZB _ _ HB).mono ?_;rintro e wE ⟨rfl,hA⟩;have HE:=Hi hA;obtain⟨xE1,xE2,xE3,pE⟩:=HC _ _ _ _ hA;clear hA;go_wp2_with fail))
    all_goals
     dsimp only[Z4];go_wp2_with fail;go_meet
     case rel=>exact⟨by simp,HE⟩
   case rest=>
    obtain⟨rfl,h7⟩:=hcut;have H7:=Hi (Em.lower h7.k AP AP.size);clear h7 ZB Ny H6;rw[XI.out] at H7;go_wp2;go_ret2;exact⟨b,y,p,d,r,xb,rfl,H7⟩
def GN(A:M):M:=(Bn Ad A).map fun k=>(k,(MW Ad A k).1)
def OE(A:M):Us:=(Bn Aa A).map fun r=>(r,(Mc A r).1)
def QG(L:List (T×Value)):List Value:=L.flatMap fun x=>[.string (bs x.1),x.2]
theorem aDD(L:List (T×Value))(x:T×Value):QG (L++[x])=QG L++[.string (bs x.1),x.2]:=by
 unfold QG;rw[LV];rfl
theorem aDC(L:List (T×Value))(i:Nat)(h:i < L.length):(QG L)[i*2]?=some (.string (bs L[i].1))∧(QG L)[i*2+1]?=some L[i].2:=by
 induction L generalizing i with
 |nil=>simp at h
 |cons x L ih=>
  cases i with
  |zero=>exact⟨rfl,rfl⟩
  |succ i=>
   have e:QG (x :: L)= ↑x.1 :: x.2 :: QG L:=rfl;have h1:=ih i (by simpa using h);rw[e,show(i+1)*2=i*2+1+1 by omega];exact h1
structure Lv(w:World)(base:Nat)(v:Value)(us:Us)(L:List (T×Value)):Prop where
 row:w.ownsRow base 63 2 v L.length (QG L)
 len:L.length=us.length
 each:∀ i (h:i < L.length) (h2:i < us.length),L[i].1=us[i].1∧Aq.Bt w base L[i].2 us[i].2
section
variable {w w':World}{base:Nat}{v:Value}{us:Us}{L:List (T×Value)}
theorem Lv.upd{F:Nat→Prop}(h:Lv w base v us L)(hu:A7 F w w')(h1:∀ k,Bf w k 63→¬ F k)(h2:∀ k,Bf w k 9→¬ F k):Lv w' base v us L:=
 ⟨BD h.row hu (fun k hk e=>h1 k (Cx h.row hk) e),h.len,fun i hi Jn=>⟨(h.each i hi Jn).1,BD (h.each i hi Jn).2 hu (fun k hk e=>h2 k (Cx (h.each i hi Jn).2 hk) e)⟩⟩
theorem Lv.below(h:Lv w base v us L)(hb:Bw w w'):Lv w' base v us L:=h.upd (ub hb) (fun _ _ f=>f) (fun _ _ f=>f)
theorem Lv.at_{q:Option Addr}{n c:Nat}(h:Lv w base (.slice q n c) us L):NF w q us:=fun i hi=>by
 have Jn:i < L.length:=by rw[h.len];exact hi
 obtain⟨h1,h2⟩:=h.each i Jn hi;rcases h.row.2 with⟨e0,h0⟩|⟨g,cap,cur,e0,hb,hg,hn,hm,hs,ht⟩
 ·omega
 ·injection e0 with e1 e2 e3
  subst e1;have hc:∀ j,j < 2→∀ v,(QG L)[i*2+j]?=some v→w.cell? (((⟨g,0,none⟩:Addr).add (i*2)).add j)=some v:=fun j hj v hv=>by
   have e1:(cur.toList.take (L.length*2))[i*2+j]?=(QG L)[i*2+j]? :=(by rw[ht]);rw[List.getElem?_take,Ae (by omega),Dx,hv] at e1;rw[add_plain,Wt];simp only[World.cell?,hg,GQ];simp only[Option.isSome_none,Bool.false_eq_true,if_false];exact e1
  obtain⟨u1,u2⟩:=aDC L i Jn;refine⟨_,rfl,?_,?_⟩
  ·have:=hc 0 (by omega) _ u1;rw[add_zero'] at this;rw[←h1];exact this
  ·have h3:=hc 1 (by omega) _ u2;obtain⟨kq,kc,e⟩:=Bp h2;rw[add_plain,Wt] at h3;rw[e] at h3 h2;refine⟨kq,kc,?_,Hd h2,fun e=>?_⟩
   ·rw[add_plain];exact h3
   ·rcases h2.2 with⟨e4,_⟩|⟨g,cap',cur,e4,_⟩
    ·injection e4
    ·injection e4 with e5 e6 e7
     rw[e] at e5;cases e5
theorem Lv.snoc{w2:World}(h:Lv w base v us L){x:T×Value}{u:T×List T}{v2:Value}(hx:x.1=u.1)(hr:Aq.Bt w base x.2 u.2){F:Nat→Prop}(hu:A7 F w w2)(h2:∀ k,Bf w k 9→¬ F k)(Af:w2.ownsRow base 63 2 v2 (L.length+1) (QG L++[.string (bs x.1),x.2])):Lv w2 base v2 (us++[u]) (L++[x]):=by
 have hk:∀ {s:Value} {l:List T},Aq.Bt w base s l→Aq.Bt w2 base s l:=fun hs=>BD hs hu (fun k hk e=>h2 k (Cx hs hk) e)
 refine⟨by rw[aDD,AA];exact Af,by rw[AA,AA,h.len];rfl,fun i hi Jn=>?_⟩;by_cases e:i < L.length
 ·rw[Uz e,Uz (by rw[←h.len];exact e)];obtain⟨g1,g2⟩:=h.each i e (by rw[←h.len];exact e);exact⟨g1,hk g2⟩
 ·rw[AA,La] at hi;obtain rfl:i=L.length:=by omega
  rw[Xv (Ag _)];have e3:(us++[u])[L.length]'Jn=u:=by
   rw[Xv (by rw[h.len];exact Ag _)];simp[h.len]
  rw[e3];simp only[Nat.sub_self,List.getElem_cons_zero];exact⟨hx,hk hr⟩
end
theorem xW(A:M):(GN A).length=(Bn Ad A).length:=by unfold GN;rw[Ca]
theorem xU(A:M):(OE A).length=(Bn Aa A).length:=by unfold OE;rw[Ca]
theorem aEd(A:M)(k:Nat)(h:k < (Bn Ad A).length):(GN A).take (k+1)=(GN A).take k++[((Bn Ad A)[k],(MW Ad A (Bn Ad A)[k]).1)]:=by
 rw[Cr (by rw[xW];exact h)]
 congr 2
 unfold GN;rw[List.getElem_map]
theorem aDN(A:M)(k:Nat)(h:k < (Bn Aa A).length):(OE A).take (k+1)=(OE A).take k++[((Bn Aa A)[k],(Mc A (Bn Aa A)[k]).1)]:=by
 rw[Cr (by rw[xU];exact h)]
 congr 2
 unfold OE;rw[List.getElem_map]
theorem asj{w:World}{pm pd y:Nat}{A:M}(hm:Gq w pm y)(hd:Fj w pd y)(hf:Hf w y A)(Ez:OO A):
  Calls prog 13 #[pm,pd] w fun e w'=>∃ v1 v2 L,e=.returned (.tuple #[v1,v2])∧BK w' w.heap.size v1 (GN A)∧Lv w' w.heap.size v2 (OE A) L∧Bw w w':=by
 obtain⟨i0,Bh,AY,AZ,Bb⟩:=Dy RO;obtain⟨j0,hj0,gU,Mr,bB⟩:=Dy aDF;have HM:=Hi hm;have HD:=Hi hd;have HF:=Hi hf;have O6:=Hi Ez;have GU:=Hi (show(Bn Ad A).length≤1000000 from by rw[YV (K:=Ad) hf.up];exact Ez.ig);have Iz:=Hi (show(Bn Aa A).length≤1000000 from by rw[YV (K:=Aa) hf.up];exact Ez.eF);clear hm hd hf Ez
 go_in
 go_wp2_with fail;refine(ana HM HF O6.ig).mono ?_;rintro e w1⟨v1,rfl,Qx,Ak⟩;obtain⟨kq,kc,rfl⟩:=Bp Qx;have Fy:=Hi Qx;have HB1:=Hi Ak;clear Qx Ak;go_wp2
 go_loopw [6,8] (fun s6 s8 wr=>∃ (k:Nat) (q:Option Addr) (c:Nat),k≤(Bn Ad A).length∧s6=.slice q k c∧s8= ↑(k:Int)∧wr.ownsRow w1.heap.size 51 2 (.slice q k c) k (Dr ((GN A).take k))∧Bw w1 wr) (fun _ s8 _=>(Bn Ad A).length -(intOf s8).toNat)
 case atStart=>exact⟨0,none,0,AV _,rfl,rfl,by rw[Gm,R9];exact DZ _ _ _ _,Ai _ _⟩
 case round=>
  obtain⟨k,q,c,hk,rfl,rfl,Af,hb⟩:=hrel;have BF:=Hi Af;have HB:=Hi hb;have Aj:=bH HB1 hb;have E9:=GU.out;clear Af;by_cases hlt:k < (Bn Ad A).length
  ·obtain⟨a,Cn,c0⟩:=(Hd (Cc Fy hb)).index kc k hlt;have Ba:=Hi (aEd A k hlt);have fO:=O6.vU _ (CK hlt);have HG:=Hi (adM (HM.below Aj) (HF.below Aj).gets (Bn Ad A)[k] (by omega));clear hb;generalize (Bn Ad A)[k]=key at*;obtain⟨⟨gv,gis,ge⟩,NM⟩:=ex (MW Ad A key);rw[NM] at Ba HG;dsimp only at Ba HG;clear NM;go_wp2_with fail;refine HG.mono ?_;rintro e w3⟨rfl,Av⟩;have c03:=(Av.cell (Cv c0)).trans c0;have Au:=bH HB Av;have Wl:=bH Aj Av;have Q4:=Hi (BD BF (ub Av) (fun _ _ f=>f));clear Av c0;go_wp2_with (at_builtin;refine wpList_append_own_at _ rfl _ _ 30 rfl w1.heap.size 51 i0 _ 2 32 underlying30 Bh AY AZ Bb rfl (by decide) _ k _ rfl (Q4.alloc _) ⟨w3.heap.size,0,none⟩ 1 1 [.string (bs key),.string (bs gv)] rfl rfl (by intro j u hj;rw[add_plain,E5];exact(Dx▸hj)) (by simp[Value.oneCell']) (by unfold maxLen;omega) (by omega) (by have:=Au.size;simp;omega) ?_;intro v' w4 Cf AJ _ hat;obtain⟨g',cap',rfl⟩:=ownsRow_succ Cf;have HO:=Hi Cf;have D7:=Hi AJ;clear Cf AJ hat);go_roundw
   case rel=>
    refine⟨k+1,some ⟨g',0,none⟩,cap',by omega,rfl,by go_num,?_,(Au.alloc Au.size _).grown D7 (by rw[Az];have:=Au.size;omega) (fun j hj=>DT Q4 hj)⟩;rw[Ba.out,TQ];exact HO.out
   case measure=>
    show(Bn Ad A).length -((k:Int)+1).toNat < (Bn Ad A).length -((k:Int)).toNat
    omega
  ·obtain rfl:k=(Bn Ad A).length:=(by omega);have Af:=BF.out;rw[Gx (by rw[xW];exact Ag _)] at Af
   have Q0:=Hi (show BK wr w.heap.size (.slice q (Bn Ad A).length c) (GN A) from by
    have h2:=EM Af HB1.size;unfold BK;rw[xW];exact h2)
   clear Af hb BF;go_wp2_with fail;refine(ahY (HD.below Aj) (HF.below Aj) O6.eF).mono ?_;rintro e w5⟨v5,rfl,KV,Bl⟩;obtain⟨rq,rc,rfl⟩:=Bp KV;have Lm:=Hi KV;have Cj:=bH Aj Bl;have arD:=Hi (BD Q0 (ub Bl) (fun _ _ f=>f));clear KV Bl Q0 Aj HB;have Mk:=Iz.out;go_wp2
   go_loopw [12,14] (fun s12 s14 wr=>∃ (k:Nat) (q:Option Addr) (c:Nat) (L:List (T×Value)),k≤(Bn Aa A).length∧s12=.slice q k c∧s14= ↑(k:Int)∧Lv wr w5.heap.size (.slice q k c) ((OE A).take k) L∧Bw w5 wr) (fun _ s14 _=>(Bn Aa A).length -(intOf s14).toNat)
   case atStart=>exact⟨0,none,0,[],AV _,rfl,rfl,⟨DZ _ _ _ _,by rw[Gm];rfl,fun i hi=>by simp at hi⟩,Ai _ _⟩
   case round=>
    obtain⟨k,q,c,L,hk,rfl,rfl,Af,hb⟩:=hrel;have BF:=Hi Af;have HB:=Hi hb;have Aj:=bH Cj hb;have O7:=Hi (show L.length=k from by rw[Af.len,Bc,xU];omega);clear Af;by_cases hlt:k < (Bn Aa A).length
    ·obtain⟨a,Cn,c0⟩:=(Hd (Cc Lm hb)).index rc k hlt;have Ba:=Hi (aDN A k hlt);have fO:=O6.ahW _ (CK hlt);have HG:=Hi (ahK (HD.below Aj) (HF.below Aj).gets (Bn Aa A)[k] (by omega));clear hb;generalize (Bn Aa A)[k]=key at*;obtain⟨⟨gv,gis,ge⟩,NM⟩:=ex (Mc A key);rw[NM] at Ba HG;dsimp only at Ba HG;clear NM;go_wp2_with fail;refine HG.mono ?_;rintro e w3⟨kv,rfl,KR,Av⟩;obtain⟨kkq,kkc,rfl⟩:=Bp KR;have c03:=(Av.cell (Cv c0)).trans c0;have HKV:=Hi (EM KR HB.size);have Au:=bH HB Av;have Q4:=Hi (BF.below Av);have acT:=Q4.row;rw[O7.out] at acT;have dL:=Hi acT;clear Av c0 KR acT;go_wp2_with (at_builtin;refine wpList_append_own_at _ rfl _ _ 31 rfl w5.heap.size 63 j0 _ 2 40 underlying31 hj0 gU Mr bB rfl (by decide) _ k _ rfl (dL.alloc _) ⟨w3.heap.size,0,none⟩ 1 1 [.string (bs key),.slice kkq gv.length kkc] rfl rfl (by intro j u hj;rw[add_plain,E5];exact(Dx▸hj)) (by simp[Value.oneCell']) (by unfold maxLen;omega) (by omega) (by have:=Au.size;simp;omega) ?_;intro v' w4 Cf AJ _ hat;obtain⟨g',cap',rfl⟩:=ownsRow_succ Cf;have HO:=Hi Cf;have D7:=Hi AJ;clear Cf AJ hat);go_roundw
     case rel=>
      refine⟨k+1,some ⟨g',0,none⟩,cap',L++[(key,.slice kkq gv.length kkc)],by omega,rfl,by go_num,?_,(Au.alloc Au.size _).grown D7 (by rw[Az];have:=Au.size;omega) (fun j hj=>DT dL hj)⟩;rw[Ba.out];exact Q4.snoc (x:=(key,.slice kkq gv.length kkc)) (u:=(key,gv)) rfl HKV (((A7.refl (fun j=>(Value.slice q k c).ownBlock=some j) w3).alloc _).trans (A7.of_grownBy (F:=fun j=>(Value.slice q k c).ownBlock=some j) D7 (fun j e=>e)) (fun _ f=>.inl f)) (fun j hj e=>Bf.ne hj (Cx dL e) (by decide) rfl) (by rw[O7.out];exact HO.out)
     case measure=>
      show(Bn Aa A).length -((k:Int)+1).toNat < (Bn Aa A).length -((k:Int)).toNat
      omega
    ·obtain rfl:k=(Bn Aa A).length:=(by omega);have Af:=BF.out;rw[Gx (by rw[xU];exact Ag _)] at Af
     have HUR:=Hi (show Lv wr w.heap.size (.slice q (Bn Aa A).length c) (OE A) L from
      ⟨EM Af.row Cj.size,Af.len,fun i hi Jn=>⟨(Af.each i hi Jn).1,EM (Af.each i hi Jn).2 Cj.size⟩⟩)
     have arE:=Hi (BD arD (ub hb) (fun _ _ f=>f));clear Af hb BF;go_wp2;go_ret2;exact⟨_,_,L,rfl,arE,HUR,Aj⟩
end Hv
namespace Hv
open Ah Kp Bz Hex Mem Ci Gr
open Aq hiding T
theorem aiV{A:M}{k v:T}(h:BU Ad A k=some v):MW Ad A k=(v,true,0):=by
 unfold MW;rw[A9,h];rintro⟨_,h2⟩;unfold BU at h;cases hf:fileOf Ad A (Ad.nm k) with
 |none=>rw[hf] at h;cases h
 |some l=>rw[hf] at h2;cases h2
variable {n:Nat}{A:M}{roots:List T}
end Hv
namespace Hv
open Go.RowKit Go.Maps
open Aw Ah Bu Kp Bz Hex BH Al Mem Ci Gr
open Aq hiding T
structure Pf(w w':World):Prop where
 Xj:∀ base v l,BK w base v l→BK w' base v l
 uses:∀ base v us L,Lv w base v us L→Lv w' base v us L
 row:ZP w w'
section
variable {w w' w1:World}{B:Nat}{w0:World}{b y n N pm pd:Nat}{A A':M}{L:List (Nat×Obj)}
theorem Pf.below(hb:Bw w w'):Pf w w':=
 ⟨fun _ _ _ h=>BD h (ub hb) (fun _ _ f=>f),fun _ _ _ _ h=>h.below hb,ZP.below hb⟩
theorem Pf.trans(h:Pf w w1)(k:Pf w1 w'):Pf w w':=
 ⟨fun a v l r=>k.Xj a v l (h.Xj a v l r),fun a v l L r=>k.uses a v l L (h.uses a v l L r),h.row.trans k.row⟩
theorem aow{n:Nat}(h:n≤200):Cy n≤100000:=by unfold Cy sz lg;omega
theorem iq(h:Em B w0 w b y n N A L):Hf w y A:=by
 obtain⟨bl,h1,_,_⟩:=h.pick;exact sG h1
theorem il(h:Em B w0 w b y n N A L)(hn:n≤200):OO A:=sD (Ay (iy h).2.2 (aow hn))
end
end Hv
namespace Ew
open Go.Lib Ah Aw Bu Kp Bz
theorem aH0(l:List UInt8)(j d:Nat)(hj:j < l.length)(b:UInt8)(hb:b.toNat=(l[j]).toNat ^^^ d):Ab.val (l.set j b)=Ab.val l ^^^ (2 ^ (8*j)*d):=by
 induction l generalizing j with
 |nil=>simp at hj
 |cons a l ih=>
  cases j with
  |zero=>
   simp only[List.set_cons_zero,Ab.aGO];simp only[List.getElem_cons_zero] at hb;rw[hb,Nat.mul_zero,Nat.pow_zero,Nat.one_mul,Nat.xor_assoc,Nat.xor_assoc,Nat.xor_comm d]
  |succ j=>
   simp only[List.set_cons_succ,Ab.aGO];simp only[List.getElem_cons_succ] at hb;rw[ih j (by simpa using hj) hb,Nat.xor_assoc];rw[←Ab.aGS];rw[show 2 ^ (8*(j+1))*d=256*(2 ^ (8*j)*d) by rw[show 8*(j+1)=8+8*j by omega,Nat.pow_add,Nat.mul_assoc]]
theorem aGR(s:List UInt8)(j d:Nat)(hj:j < (Ab.FN s).length)(hd:d≠0)(Pn:d < 256)(b:UInt8)(hb:b.toNat=((Ab.FN s)[j]).toNat ^^^ d):Ab.EK ((Ab.FN s).set j b)=([],7):=
 Ab.aGZ s _ (by rw[List.length_set]) (8*j) d (by omega) hd (by omega) (by rw[aH0 _ j d hj b hb,Nat.mod_eq_of_lt (by omega)])
theorem aF3{K:Kind}{name data:T}{l:M}(h:K.Cm name data=some l)(j d:Nat)(hj:j < data.length)(hd:d≠0)(Pn:d < 256)(b:UInt8)(hb:b.toNat=(data[j]).toNat ^^^ d):K.Cm name (data.set j b)=none:=by
 obtain⟨_,_,_,s,_,rfl⟩:=Ng h;unfold Kind.Cm bQ;rw[aGR s j d hj hd Pn b hb,A9 (by decide)]
section
variable {P:K8}{n:Nat}{A:M}{name data bad:T}
def I1(A:M)(name bad:T):M:=put name bad A
theorem eX(hu:Up A)(x:T):get (I1 A name bad) x=if x=name then some bad else get A x:=get_put hu name bad x
theorem aur{K:Kind}(hu:Up A)(hb:K.Cm name bad=none)(x:T):fileOf K (I1 A name bad) x=if x=name then none else fileOf K A x:=by
 unfold fileOf;rw[eX hu];by_cases e:x=name
 ·rw[Ae e,Ae e];subst e;exact hb
 ·rw[A9 e,A9 e]
theorem aq3{K:Kind}(hu:Up A)(hb:K.Cm name bad=none)(k:T):BU K (I1 A name bad) k=if K.nm k=name then none else BU K A k:=by
 unfold BU;rw[aur hu hb];split
 ·rfl
 ·rfl
theorem aq4{K:Kind}(hK:K.Cg)(hu:Up A)(ho:K.ours name=false)(k:T):BU K (I1 A name bad) k=BU K A k:=by
 unfold BU fileOf;rw[eX hu,A9];intro e;have:=hK.Mt k;rw[e,ho] at this;cases this
theorem agY{K:Kind}(hu:Up A)(h0:CO K A=[])(ho:K.ours name=true)(hb:K.Cm name bad=none)(x:T):x∈CO K (I1 A name bad)↔x=name:=by
 rw[Jd (show Up (I1 A name bad) from hu.put _ _)];constructor
 ·rintro⟨h1,d,h2,h3⟩;rw[eX hu] at h2;by_cases e:x=name
  ·exact e
  ·rw[A9 e] at h2;have hm:=(Jd hu x).2 ⟨h1,d,h2,h3⟩;rw[h0] at hm;cases hm
 ·rintro rfl;exact⟨ho,bad,by rw[eX hu,Ae rfl],hb⟩
theorem agZ{K:Kind}(hu:Up A)(h0:CO K A=[])(ho:K.ours name=false):CO K (I1 A name bad)=[]:=by
 refine VI.2 fun x hx=>?_
 obtain⟨h1,d,h2,h3⟩:=(Jd (show Up (I1 A name bad) from hu.put _ _) x).1 hx;rw[eX hu] at h2;by_cases e:x=name
 ·rw[e,ho] at h1;cases h1
 ·rw[A9 e] at h2;have hm:=(Jd hu x).2 ⟨h1,d,h2,h3⟩;rw[h0] at hm;cases hm
end
end Ew
namespace Hv
open Aw Ah Bu Kp Bz Hex BH Al Mem Ci Gr
open Aq hiding T
theorem aD6{l:List T}(h:∀ t∈l,t.length≤65535):∃ a,BL l=some a:=by
 induction l with
 |nil=>exact⟨[],rfl⟩
 |cons x l ih=>
  obtain⟨a,ha⟩:=ih (fun t ht=>h t (Fs _ ht));have hx:=h x Gl;have e:∃ b,Er x=some b:=by
   unfold Er;rw[Ae hx];exact⟨_,rfl⟩
  obtain⟨b,hb⟩:=e;exact⟨b++a,by simp only[BL];rw[hb,ha];rfl⟩
theorem kN{l:M}{t:T}(h:t∈flat l):∃ p∈l,t=p.1∨t=p.2:=by
 unfold flat at h;obtain⟨p,hp,hm⟩:=NZ.1 h;refine⟨p,hp,?_⟩;simpa using hm
theorem ati{l:M}(h:Da l≤60000):(C9 l).isSome=true:=by
 have hl:4*l.length+(l.map fun p=>p.2.length).sum≤Da l:=rZ l
 obtain⟨a,ha⟩:=aD6 (l:=flat l) (fun t ht=>by
  obtain⟨p,hp,e⟩:=kN ht;have:=aaQ hp;rcases e with rfl|rfl<;>omega)
 have h2:=Xo ha;rw[sH] at h2;unfold C9 FW;rw[Ae (by omega),ha];simp only[EZ,CU];rw[Ae (by rw[AA,Ab.Cb];omega)];rfl
theorem avO(K:Kind)(l:M)(name:T):Da (BN K l name)≤Da l:=by
 have h:=aj7 K [name] (by simp) l;simpa using h
theorem kM{K:Kind}{l:M}(h:Da l≤60000):Fits K l:=fun j hj=>
 ati (Ay (avO K _ _) (Ay (aaR l (j+1)) h))
theorem ao4{K:Kind}(hK:K.Cg){n:Nat}{A l:M}(hu:Up A)(h:Da l≤60000)(hr:used A+(31*l.length+Da l)≤Cy n):Ha K n A l=(0,made A (Fa K l)):=by
 rw[ae5 hK (kM h),A9];have h1:=VF hu (Fa K l);have h2:=oU hK l;omega
def VA(l:M)(k:T):Option T:=(l.reverse.find? fun p=>p.1 == k).map (·.2)
theorem amz(l:M)(p:T×T)(k:T):VA (l++[p]) k=if p.1=k then some p.2 else VA l k:=by
 unfold VA;rw[List.reverse_append,List.reverse_singleton,List.singleton_append,List.find?_cons];by_cases e:p.1=k
 ·rw[Ae e];simp[e]
 ·rw[A9 e];have:(p.1 == k)=false:=Ev.2 e;rw[this]
theorem aj4{K:Kind}(l:M)(k:T):Ah.get (BN K l (K.nm k)) k=VA l k:=by
 induction l using VD with
 |h0=>rfl
 |h1 l p ih=>
  rw[Oh,amz];have hu:=TS (K:=K) l (K.nm k);by_cases e:p.1=k
  ·rw[Ae e,Ae (by rw[e]),get_put hu,Ae e.symm]
  ·rw[A9 e];split
   ·rw[get_put hu,A9 (fun h=>e h.symm)];exact ih
   ·exact ih
theorem anU{K:Kind}{A l:M}(hu:Up A)(CP:∀ k,Ah.get A (K.nm k)=none)(hok:∀ p∈l,K.ok p=true)(hf:Fits K l)(k:T):BU K (made A (Fa K l)) k=VA l k:=by
 rw[←nY hu];unfold BU;rw[kL hu CP hok hf];by_cases h:K.nm k∈l.map fun p=>K.nm p.1
 ·rw[Ae h];exact aj4 l k
 ·rw[A9 h,←aj4 (K:=K),kU h];rfl
theorem aAG{K K':Kind}(hK:∀ k,K.ours (K.nm k)=true)(l5:∀ k,K'.ours (K'.nm k)=true)(hd:∀ x,K.ours x=true→K'.ours x=true→False){A:M}(hu:Up A)(l:M)(k:T):BU K' (made A (Fa K l)) k=BU K' A k:=by
 have h:K'.nm k∉l.map fun p=>K.nm p.1:=fun hm=>by
  obtain⟨p,_,e⟩:=Bv.1 hm;exact hd (K.nm p.1) (hK p.1) (by rw[e];exact l5 k)
 unfold BU fileOf;rw[ZX hu,A9 h]
theorem amr{K:Kind}(hK:K.Cg){A:M}(hu:Up A){L:List T}(hL:M7 L)(h:∀ k,k∈L↔(BU K A k).isSome=true):Bn K A=L:=
 RU adu hL (fun k=>by rw[RL hK hu,h])
theorem ate{n:Nat}{A:M}(h:used A≤Cy n):Ep n A []=A:=by
 unfold Ep;split<;>rfl
theorem amA(l:M)(k:T):(VA l k).isSome=true↔k∈l.map (·.1):=by
 induction l using VD with
 |h0=>simp[VA]
 |h1 l p ih=>
  rw[amz,CQ,Es];by_cases e:p.1=k
  ·rw[Ae e];simp[e]
  ·rw[A9 e,ih];simp only[Ce,Kw,Fu];exact⟨fun h=>.inl h,fun h=>h.elim id (fun h=>absurd h.symm e)⟩
end Hv
namespace Ew
open Aw Ah Bu Kp Bz Hex BH Al Mem Ci Gr Hv
open Aq hiding T
theorem agW{K:Kind}{A l:M}(hu:Up A)(CP:∀ k,Ah.get A (K.nm k)=none)(h0:CO K A=[])(hok:∀ p∈l,K.ok p=true)(hf:Fits K l):CO K (made A (Fa K l))=[]:=by
 refine VI.2 fun x hx=>?_
 obtain⟨h1,d,h2,h3⟩:=(Jd (Up.made hu _) x).1 hx;have hg:=h2;rw[ZX hu] at h2;split at h2
 ·rename_i hm
  obtain⟨p,hp,e⟩:=Bv.1 hm;have e:K.nm p.1=x:=e;have h4:=kL hu CP hok hf p.1;rw[nY hu,e,Ae hm] at h4;unfold fileOf at h4;rw[hg] at h4;rw[show(some d).bind (K.Cm x)=K.Cm x d from rfl,h3] at h4;cases h4
 ·have hm:=(Jd hu x).2 ⟨h1,d,h2,h3⟩;rw[h0] at hm;cases hm
theorem agX{K K':Kind}(hK:K.Cg)(hd:∀ x,K.ours x=true→K'.ours x=true→False){A:M}(hu:Up A)(h0:CO K' A=[])(l:M):CO K' (made A (Fa K l))=[]:=by
 refine VI.2 fun x hx=>?_
 obtain⟨h1,d,h2,h3⟩:=(Jd (Up.made hu _) x).1 hx
 rw[ZX hu,A9 (fun hm=>by
  obtain⟨p,_,e⟩:=Bv.1 hm;have e:K.nm p.1=x:=e;exact hd x (by rw[←e];exact hK.Mt _) h1)] at h2
 have hm:=(Jd hu x).2 ⟨h1,d,h2,h3⟩;rw[h0] at hm;cases hm
theorem anp{α:Type}{l:List α}{a:α}(hn:l.Nodup)(h:∀ x,x∈l↔x=a):l=[a]:=by
 cases l with
 |nil=>exact absurd ((h a).2 rfl) (by simp)
 |cons x l=>
  have hx:=(h x).1 (by simp);subst hx;cases l with
  |nil=>rfl
  |cons y l=>
   have hy:=(h y).1 (by simp);subst hy;simp at hn
theorem ahp{n:Nat}{A:M}{name data:T}(hm:(⟨name,data,false⟩:Am).may=true)(hr:used (put name data A)≤Cy n):FB n A [⟨name,data,false⟩]=0∧Ep n A [⟨name,data,false⟩]=put name data A:=by
 have e:made A [(⟨name,data,false⟩:Am)]=put name data A:=rfl;unfold FB Ep;rw[e,List.all_cons,hm,List.all_nil];simp only[Bool.and_self,Bool.true_eq_false,if_false];exact⟨A9 (by omega),Ae ⟨trivial,hr⟩⟩
theorem anl{K:Kind}{A:M}(hu:Up A)(h0:CO K A=[])(hv:∀ k,BU K A k=none){x:T}(hx:K.ours x=true):Ah.get A x=none:=by
 cases hg:Ah.get A x with
 |none=>rfl
 |some d=>
  exfalso;cases hr:K.Cm x d with
  |none=>
   have hm:=(Jd hu x).2 ⟨hx,d,hg,hr⟩;rw[h0] at hm;cases hm
  |some l=>
   obtain⟨h1,h2,h3,_⟩:=Ng hr;obtain⟨p,l',rfl⟩:∃ p l',l=p :: l':=by
    cases l with
    |nil=>exact absurd rfl h1
    |cons p l'=>exact⟨p,l',rfl⟩
   have h4:=hv p.1;have hn:=(h3 p (by simp)).1;have hf:fileOf K A x=some (p :: l'):=by
    unfold fileOf;rw[hg];exact hr
   unfold BU at h4;rw[hn,hf] at h4;have h5:Ah.get (p :: l') p.1=some p.2:=get_mem h2 (by simp);rw[show(some (p :: l')).bind (fun l=>Ah.get l p.1)=Ah.get (p :: l') p.1 from rfl,h5] at h4;cases h4
def MV:M:=[([97],[49])]
def Oe:Us:=[([114],[[97]])]
def WB:M:=made [] (Fa Ad MV)
def IC:M:=made WB (Fa Aa (BG Oe))
theorem kP:Da MV=6:=by decide
theorem kQ:Da (BG Oe)≤500:=Ay (aq0 Oe) (by decide)
theorem wV:1000≤Cy 100:=by decide
theorem Y5:Up WB:=Up.made Up.nil _
theorem WC:Up IC:=Up.made Y5 _
theorem aiB:used WB≤100:=by
 have h1:=VF Up.nil (Fa Ad MV);have h2:=oU Jc MV;have h3:=kP;have h4:MV.length=1:=rfl;have h5:used ([]:M)=4:=rfl;unfold WB;omega
theorem aiQ:Ha Ad 100 [] MV=(0,WB):=ao4 Jc Up.nil (by rw[kP];omega) (by
 have h3:=kP;have h4:MV.length=1:=rfl;have h5:used ([]:M)=4:=rfl;have:=wV;omega)
theorem sS:ND Oe:=fun u hu=>by
 rw[Fu.1 hu]
 show(Dg (Bi [[97]])).2=0
 rw[o8 (Tq _ _)];decide
theorem avn:Im 100 WB Oe=(0,IC):=by
 unfold Im;rw[Ae sS];refine ao4 Gf Y5 (Ay kQ (by omega)) ?_;have h1:=kQ;have h2:=aiB;have h3:=wV;have h4:(BG Oe).length=1:=rfl;omega
theorem aiC:used IC≤700:=by
 have h1:=VF Y5 (Fa Aa (BG Oe));have h2:=oU Gf (BG Oe);have h3:=kQ;have h4:(BG Oe).length=1:=rfl;have h5:=aiB;unfold IC;omega
theorem avl:gX 100 MV Oe []=IC:=by
 unfold gX;rw[aiQ]
 show Ep 100 (Im 100 WB Oe).2 []=IC
 rw[avn];exact ate (Ay aiC (by have:=wV;omega))
theorem aiO:∀ k,Ah.get WB (Aa.nm k)=none:=fun k=>by
 have h:=anm (n:=100) Gf Jc (fun x h1 h2=>J4.apart x h2 h1) Up.nil (fun _=>rfl) MV k;rw[aiQ] at h;exact h
theorem aiP(k:T):BU Ad IC k=VA MV k:=by
 unfold IC;rw[aAG Gf.Mt Jc.Mt (fun x h1 h2=>J4.apart x h2 h1) Y5];exact anU Up.nil (fun _=>rfl) (fun _ _=>rfl) (kM (by rw[kP];omega)) k
theorem aiN(r:T):BU Aa IC r=VA (BG Oe) r:=
 anU Y5 aiO (xR sS) (kM (Ay kQ (by omega))) r
theorem aiR:Bn Aa IC=[[114]]:=amr Gf WC (by unfold M7;decide) (fun k=>by rw[aiN,amA];rfl)
theorem aiS:JR both IC [114]=[[97]]:=by
 have h:dV both IC [114]=some (Dg (Bi [[97]])).1:=by
  show BU Aa IC [114]=_
  rw[aiN];rfl
 unfold JR;rw[h,CU,aoC (sS _ Gl),o8 (Tq _ _)];rfl
theorem aiL:CO Ad IC=[]:=agX Gf (fun x h1 h2=>J4.apart x h2 h1) Y5 (agW Up.nil (fun _=>rfl) rfl (fun _ _=>rfl) (kM (by rw[kP];omega))) _
theorem aiK:CO Aa IC=[]:=agW Y5 aiO (agX Jc (fun x h1 h2=>J4.apart x h1 h2) Up.nil rfl _) (xR sS) (kM (Ay kQ (by omega)))
theorem avo:TM both IC:=by
 refine⟨aiL,aiK,?_⟩;unfold MH;rw[show Wx both IC=[[114]] from aiR];simp only[PL,List.flatMap_nil,Eg,aiS];have:mV both IC [97]=some [49]:=by
  show BU Ad IC [97]=_
  rw[aiP];rfl
 simp[this]
def Jl:T:=Ad.nm [97]
def F6:M:=I1 IC Jl [120]
theorem sQ:Jl.length=17:=Jc.len _
theorem aiJ:Ad.Cm Jl [120]=none:=by
 have h:Ab.EK [120]=([],7)∨(Ab.EK [120]).2≠0:=.inr (by decide);unfold Kind.Cm bQ;rw[A9 (by decide)]
theorem avi:used F6≤800:=by
 have h1:=VF WC [(⟨Jl,[120],false⟩:Am)];have h2:Ff [(⟨Jl,[120],false⟩:Am)]=8+Jl.length+1+0:=rfl;have h3:=sQ;have h4:=aiC
 show used (made IC [(⟨Jl,[120],false⟩:Am)])≤800
 omega
theorem aiM:FB 100 IC [⟨Jl,[120],false⟩]=0∧Ep 100 IC [⟨Jl,[120],false⟩]=F6:=
 ahp (by have hne:Jl≠[]:=fun e=>by { have:=sQ;rw[e] at this;cases this };unfold Am.may EX;simp[sQ,hne]) (Ay avi (by have:=wV;omega))
theorem sP:Up F6:=WC.put _ _
theorem ab9:CO Ad F6=[Jl]:=anp (ry sP) (agY WC aiL (Jc.Mt _) aiJ)
theorem aiI:Aa.ours Jl=false:=by
 cases h:Aa.ours Jl with
 |false=>rfl
 |true=>exact(J4.apart Jl (Jc.Mt _) h).elim
theorem aiD:CO Aa F6=[]:=agZ WC aiK aiI
theorem abb(k:T):BU Ad F6 k=none:=by
 unfold F6;rw[aq3 WC aiJ];split
 ·rfl
 ·rename_i h
  rw[aiP];cases hl:VA MV k with
  |none=>rfl
  |some v=>
   have:=(amA MV k).1 (by rw[hl];rfl);have:k=[97]:=(by simpa[MV] using this);exact absurd (by rw[this];rfl) h
theorem aiE(r:T):BU Aa F6 r=BU Aa IC r:=aq4 Gf WC aiI r
theorem aiF:Bn Aa F6=[[114]]:=by
 rw[←aiR];exact adt Gf sP WC fun k=>by rw[aiE]
theorem aiH:MH both F6=[([114],[97])]:=by
 have hu:JR both F6 [114]=[[97]]:=by
  rw[←aiS];exact aeW (aiE _)
 have hm:mV both F6 [97]=none:=abb _;unfold MH;rw[show Wx both F6=[[114]] from aiF];simp only[PL,List.flatMap_nil,Eg,hu];simp[hm]
theorem avf:Bn Ad F6=[]:=amr Jc sP List.Pairwise.nil (fun k=>by rw[abb];simp)
theorem avg:RI both F6=[]:=by
 unfold RI;rw[show amP both F6=[] from avf];rfl
theorem avc:LA both F6=[(1,Jl,[]),(3,[114],[97])]:=by
 unfold LA;rw[show CO both.m F6=[Jl] from ab9,show CO both.d F6=[] from aiD,aiH,avg];rfl
theorem ave:(Hm both F6).length=1:=by
 unfold Hm V8;rw[show CO both.m F6=[Jl] from ab9,show CO both.d F6=[] from aiD];rfl
theorem aiG:MB both F6=[[114]]:=by
 unfold MB;rw[aiH];exact o8 (Tq _ _)
theorem avh:¬ TM both F6:=fun h=>by
 have:=h.1;rw[show CO both.m F6=[Jl] from ab9] at this;cases this
theorem avm{x:T}{d:T}(h:Ah.get F6 x=some d):Ad.ours x=true∨Aa.ours x=true:=by
 unfold F6 at h;rw[eX WC] at h;split at h
 ·rename_i e
  rw[e];exact .inl (Jc.Mt _)
 ·unfold IC at h;rw[ZX Y5] at h;split at h
  ·rename_i hm
   obtain⟨p,_,e⟩:=Bv.1 hm;have e:Aa.nm p.1=x:=e;exact .inr (by rw[←e];exact Gf.Mt _)
  ·unfold WB at h;rw[ZX Up.nil] at h;split at h
   ·rename_i hm
    obtain⟨p,_,e⟩:=Bv.1 hm;have e:Ad.nm p.1=x:=e;exact .inl (by rw[←e];exact Jc.Mt _)
   ·cases h
theorem avd{n:Nat}(hm:Bz.May n F6):Je both F6=[]:=by
 have h2:=vS J4 hm;have uQ:∀ x,Ah.get (Je both F6) x=none:=fun x=>by
  by_cases h1:Ad.ours x=true
  ·exact anl h2.up (kC J4 hm (.inl rfl)) (fun k=>(adL J4 hm k).trans (abb k)) h1
  ·by_cases h3:Aa.ours x=true
   ·refine anl h2.up (kC J4 hm (.inr rfl)) (fun k=>?_) h3;have:=an4 J4 hm k;rw[aiG] at this;refine this.trans ?_;split
    ·rfl
    ·rename_i hk
     show BU Aa F6 k=none
     cases hv:BU Aa F6 k with
     |none=>rfl
     |some v=>
      have:=(RL Gf sP k).2 (by rw[hv];rfl);rw[aiF] at this;exact absurd this hk
   ·have hn:∀ l:List T,(∀ y∈l,Aa.ours y=true∨Ad.ours y=true)→x∉l:=fun l hl hx=>(hl x hx).elim h3 h1
    unfold Je
    rw[kS (vR hm.up) (by
     rw[Wy,El];intro hx;obtain⟨j,_,e⟩:=Bv.1 hx;have e:Aa.nm j=x:=e;exact h3 (by rw[←e];exact Gf.Mt _)),abg hm.up]
    split
    ·rfl
    ·cases hg:Ah.get F6 x with
     |none=>rfl
     |some d=>exact(avm hg).elim (fun e=>absurd e h1) (fun e=>absurd e h3)
 cases hA:Je both F6 with
 |nil=>rfl
 |cons p l=>
  have h3:=uQ p.1;have hu:=h2.up;rw[hA] at h3 hu;rw[get_mem hu (show(p.1,p.2)∈p :: l by simp)] at h3;cases h3
end Ew
namespace Ew
open Go.RowKit Go.Maps
open Aw Ah Bu Kp Bz Hex BH Al Mem Ci
end Ew
namespace Ew
open Go.RowKit Go.Maps
open Aw Ah Bu Kp Bz Hex BH Al Mem Ci Gr Hv
open Aq hiding T
structure J3(w w':World):Prop where
 row:∀ base t s v n cs,t∉nH→w.ownsRow base t s v n cs→w'.ownsRow base t s v n cs
section
variable {B:Nat}{w0 w w1 w' W:World}{b y n N pm pd:Nat}{A:M}{L:List (Nat×Obj)}
theorem J3.upd{bl:Nat→Prop}(hu:A7 (I8 w bl) w w'):J3 w w':=⟨fun _ _ _ _ _ _ ht h=>BD h hu (fun _ hg e=>e.not (Cx h hg) ht)⟩
theorem J3.below(hb:Bw w w'):J3 w w':=⟨fun _ _ _ _ _ _ _ h=>BD h (ub hb) (fun _ _ f=>f)⟩
theorem J3.trans(h:J3 w w1)(k:J3 w1 w'):J3 w w':=⟨fun a t s v m cs ht r=>k.row a t s v m cs ht (h.row a t s v m cs ht r)⟩
theorem J3.br{base:Nat}{v:Value}{l:List (Nat×T×T)}(h:J3 w w')(hr:Ir w base v l):Ir w' base v l:=h.row _ _ _ _ _ _ (by decide) hr
theorem J3.apH(h:J3 w w'):Pf w w':=
 ⟨fun _ _ _ r=>h.row _ _ _ _ _ _ (by decide) r,fun _ _ _ _ r=>⟨h.row _ _ _ _ _ _ (by decide) r.row,r.len,fun i h1 h2=>⟨(r.each i h1 h2).1,h.row _ _ _ _ _ _ (by decide) (r.each i h1 h2).2⟩⟩,fun _ _ _ r=>h.row _ _ _ _ _ _ (by decide) r⟩
theorem ane(h:Em B w0 w b y n N A L)(hN:N+2 < 1000000000)(hn:n≤200)(hm:(pm,Fp y)∈L)(hd:(pd,FC y)∈L):
  Calls prog 20 #[pm,pd] w fun e w'=>e=.returned (.tuple #[((Hm both A).length:Int),((MB both A).length:Int),.int .i64 0])∧Em B w0 w' b y n (N+2) (Je both A) L∧J3 w w':=by
 obtain⟨bl,h1,h2,h3⟩:=h.pick;refine(auS h1 hN (Ay (iy h).2.2 (aow hn)) (h.at_ _ _ hm) (h.at_ _ _ hd)).mono ?_;rintro e w'⟨c,rfl,hc,hu,CY,SY,hs⟩;rcases SY with⟨rfl,hok⟩|⟨e,_⟩
 ·exact⟨by rw[ib,ib],(h3 ⟨CY,hok,hu,hs⟩).1,J3.upd hu⟩
 ·cases e
theorem anc{a:Option Addr}{cap:Nat}{l:List Am}(h:Em B w0 w b y n N A L)(hN:N < 1000000000)(hL:Eh w a l)(hlen:l.length≤100000)(hw:Ff l≤900000):
  Calls prog 17 #[y,.slice a l.length cap] w fun e w'=>e=.returned (.int .i64 (FB n A l))∧Em B w0 w' b y n (N+1) (Ep n A l) L∧J3 w w':=by
 obtain⟨bl,h1,h2,h3⟩:=h.pick;refine(av7 h1 hN hL hlen hw).mono ?_;rintro e w'⟨rfl,CY,g1,g2,g3⟩;exact⟨rfl,(h3 ⟨CY,g1,g2,g3⟩).1,J3.upd g2⟩
theorem anf(h:Em B w0 w b y n N A L)(hn:n≤200)(hm:(pm,Fp y)∈L)(hd:(pd,FC y)∈L)(hW:Bw w W):
  Calls prog 18 #[pm,pd] W fun e w'=>∃ v,e=.returned (.tuple #[v,.int .i64 0])∧Ir w' W.heap.size v (LA both A)∧Bw W w':=
 adR (show Gq W pm y from(h.step hW).at_ _ _ hm) (show Fj W pd y from(h.step hW).at_ _ _ hd) (iq (h.step hW)) (il h hn)
theorem nQ(h:Em B w0 w b y n N A L)(hn:n≤200)(hm:(pm,Fp y)∈L)(hd:(pd,FC y)∈L)(hW:Bw w W):
  Calls prog 14 #[pm,pd] W (Rt W (decide (TM both A))):=
 aCw (show Gq W pm y from(h.step hW).at_ _ _ hm) (show Fj W pd y from(h.step hW).at_ _ _ hd) (iq (h.step hW)) (il h hn)
end
theorem avk:qY 100 MV Oe []:=
 ⟨by decide,by decide,by decide,by decide,by decide,by decide,by decide,by decide,by decide,by decide⟩
def afj:Prop:=∀ w,Wn w→Calls prog 6 #[] w (Rt w true)
end Ew
namespace Gr
open Go.RowKit Go.Maps
open Aw Ah Aq Bu Kp Bz Hex BH Al Mem Ci
end Gr
namespace Hv
open Go.RowKit Go.Maps
open Aw Ah Bu Kp Bz Hex BH Al Mem Ci Gr
open Aq hiding T
theorem aAC{w:World}(l:M)(hl:l.length≤1000){cs:Array Value}(hc:cs=(Dr l).toArray){g:Nat}(hg:w.heap.size=g):BK (w.alloc (.cells cs 51)) w.heap.size (.slice g l.length l.length) l:=by
 subst hc hg;have:=World.ownsRow_lit (base:=w.heap.size) (e:=51) (size:=2) w (Dr l).toArray l.length (Ag _) (by unfold maxLen;omega) (by simp[eP]);exact this
theorem aDR{w:World}(L:List (T×Value))(us:Us)(hl:L.length≤1000)(hlen:L.length=us.length)(he:∀ i (h:i < L.length) (h2:i < us.length),L[i].1=us[i].1∧Aq.Bt w 0 L[i].2 us[i].2){cs:Array Value}(hc:cs=(QG L).toArray){g:Nat}(hg:w.heap.size=g)(BQ:(QG L).length=L.length*2):Lv (w.alloc (.cells cs 63)) 0 (.slice g L.length L.length) us L:=by
 subst hc hg;have:=World.ownsRow_lit (base:=0) (e:=63) (size:=2) w (QG L).toArray L.length (AV _) (by unfold maxLen;omega) (by simp[BQ]);exact⟨this,hlen,fun i h h2=>⟨(he i h h2).1,Cc (he i h h2).2 (AQ w _)⟩⟩
