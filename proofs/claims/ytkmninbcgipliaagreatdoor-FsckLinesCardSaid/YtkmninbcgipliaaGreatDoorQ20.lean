/- SwMkW SwAl SwKe SwLaw SwK FckC SwAv FckE LinF FckK SwNil SwAvW FckAv FckLn SwTrod -/
import Derived.Test.YtkmninbcgipliaaGreatDoorQ19
import Derived.IntWalk
set_option maxHeartbeats 16000000
set_option maxRecDepth 100000
set_option linter.all false
namespace Go.Proofs.YtkmninbcgipliaaGreatDoor
open Go.Proofs.Tryz
namespace Hv
open Go.RowKit Go.Maps
open Aq Af Bu Kp BM Hex BD Al Mem Cg IC
open Ap hiding T
section
variable {B:Nat}{w0 w w':World}{b y n N r p:Nat}{A A' R R':M}{L:List (Nat×Obj)}{a:Option Addr}{cap:Nat}
theorem Duo.more{N':Nat}(h:Duo B w0 w b y n N A r R L)(hN:N≤N'):Duo B w0 w b y n N' A r R L:=by
 obtain⟨bl,h1,_,h3⟩:=h.pick;exact h3 ⟨bl,h1.more hN,A7.refl _ _,fun k hk=>.inl hk⟩
theorem za{l:List Am}(h:Duo B w0 w b y n N A r R L)(hN:N < 1000000000)(hL:Ew w a l)(hlen:l.length≤100000)(hok:∀ c∈l,c.name.length≤maxLen∧c.data.length≤maxLen)(UE:l.all Am.may=true→F8 l≤900000):
  Calls prog 17 #[.pointer (some ⟨y,0,none⟩),.slice a l.length cap] w fun e w'=>e=.returned (.int .i64 (Fy n A l))∧Duo B w0 w' b y n (N+1) (Es n A l) r R L:=by
 obtain⟨bl,h1,_,h3⟩:=h.pick;refine(as3 h1 hN hL hlen hok UE).mono ?_;rintro e w'⟨c,rfl,CP,g1,g2,g3⟩;obtain⟨rfl,g4⟩:=g1.calm;exact⟨rfl,h3 ⟨CP,g4,g2,g3⟩⟩
theorem arc{l:List Am}(h:Duo B w0 w b y n N A r R L)(hu:Up R)(hn:n≤16384)(hA:used R≤Cn n)(hL:Ew w a l)(hlen:l.length≤100000)(hok:∀ c∈l,c.name.length≤maxLen∧c.data.length≤maxLen)(UE:l.all Am.may=true→F8 l≤900000):
  Calls prog 44 #[.pointer (some ⟨r,0,none⟩),.slice a l.length cap] w fun e w'=>e=.returned (.int .i64 (Fy n R l))∧Duo B w0 w' b y n N A r (Es n R l) L:=by
 obtain⟨v,hv⟩:=h.rf;refine(ayi hv hu hL hn hA hlen hok (fun e=>Ay (UE e) (by omega))).mono ?_;rintro e w'⟨rfl,v',g1,g2⟩;exact⟨rfl,h.ref g1 g2⟩
theorem alx{K:Kind}(hK:K.BX){l:M}(h:Fits K l):∀ c∈EZ K l,c.name.length≤maxLen∧c.data.length≤maxLen:=fun c hc=>by
 have h1:=Mr.1 (alu hK h) c hc;unfold Am.may Fq at h1;simp only[Bool.and_eq_true,decide_eq_true_eq] at h1;unfold maxLen;omega
theorem als(K:Kind)(l:M):(EZ K l).length≤l.length:=by
 unfold EZ;rw[Ca];exact Ay (am8 _) (by rw[Ca];exact Ae _)
theorem arb{l:M}(h:Duo B w0 w b y n N A r R L)(hN:N < 1000000000)(hp:(p,GG y)∈L)(Cv:∀ k,Af.get A (Aj.nm k)=none)(hk:Bj w a l)(hl:l.length≤20)(hs:Y1 l≤262144)(GZ:∀ j name,Small (BG Aj (l.take j) name)):
  Calls prog 40 #[.pointer (some ⟨p,0,none⟩),.slice a l.length cap] w fun e w'=>e=.returned (.int .i64 (GH Aj n A l).1)∧Duo B w0 w' b y n (N+1) (GH Aj n A l).2 r R L:=by
 obtain⟨bl,h1,_,_⟩:=h.pick;have RH:F8 (EZ Aj l)≤900000:=by
  have h2:=lZ KW l;have h3:=afX l;omega
 refine(ax9 (Q:=fun c w'=>c=(GH Aj n A l).1∧Duo B w0 w' b y n (N+1) (GH Aj n A l).2 r R L) (h.at_ _ _ hp) (pQ h1) Cv hk (by omega) (fun x hx=>by have:=alq l x hx;omega) GZ (fun W hb=>zB (h1.below hb)) (fun hf w' hb=>?_) (fun hf W q c hb hc=>?_)).mono ?_
 ·unfold GH;rw[Aa hf];exact⟨rfl,(h.step hb).more (by omega)⟩
 ·have PD:=als Aj l;refine(za (h.step hb) hN hc (by omega) (alx KW hf) (fun _=>RH)).mono ?_;rintro e w'⟨rfl,g⟩;refine⟨_,rfl,?_⟩;unfold GH;rw[Ac hf];exact⟨rfl,g⟩
 ·rintro e w' ⟨c,rfl,rfl,g⟩;exact⟨rfl,g⟩
theorem ard{l:M}(h:Duo B w0 w b y n N A r R L)(hu:Up R)(hn:n≤16384)(hA:used R≤Cn n)(Cv:∀ k,Af.get R (Aj.nm k)=none)(hk:Bj w a l)(hl:l.length≤20)(hs:Y1 l≤262144)(GZ:∀ j name,Small (BG Aj (l.take j) name)):
  Calls prog 41 #[.pointer (some ⟨r,0,none⟩),.slice a l.length cap] w fun e w'=>e=.returned (.int .i64 (GH Aj n R l).1)∧Duo B w0 w' b y n N A r (GH Aj n R l).2 L:=by
 obtain⟨v,hv⟩:=h.rf;refine(ayV hv hu Cv hn hA hk hl (fun x hx=>by have:=alq l x hx;omega) GZ).mono ?_;rintro e w'⟨rfl,v',g1,g2⟩;exact⟨rfl,h.ref g1 g2⟩
theorem arh{l:Us}(h:Duo B w0 w b y n N A r R L)(hN:N < 1000000000)(hp:(p,Gy y)∈L)(Cv:∀ k,Af.get A (Ab.nm k)=none)(hk:Ro w a l)(hl:l.length≤20)(Ka:∀ u∈l,u.2.length≤30)(hs:S9 l≤16384)(GZ:∀ j name,Small (BG Ab (Bv (l.take j)) name)):
  Calls prog 42 #[.pointer (some ⟨p,0,none⟩),.slice a l.length cap] w fun e w'=>e=.returned (.int .i64 (I5 n A l).1)∧Duo B w0 w' b y n (N+1) (I5 n A l).2 r R L:=by
 obtain⟨bl,h1,_,_⟩:=h.pick;have RH:MK l→F8 (EZ Ab (Bv l))≤900000:=fun hr=>by
  have h2:=lZ Gf (Bv l);have h3:=aAU hr;rw[OO] at h2;omega
 refine(ar9 (Q:=fun c w'=>c=(I5 n A l).1∧Duo B w0 w' b y n (N+1) (I5 n A l).2 r R L) (h.at_ _ _ hp) (pQ h1) Cv hk (by omega) (fun x hx=>⟨by have:=anw l x hx;omega,by have:=Ka x hx;omega⟩) GZ (fun W hb=>zB (h1.below hb)) (fun hf w' hb=>?_) (fun hf W q c hb hc=>?_)).mono ?_
 ·have e:I5 n A l=(5,A):=by
   unfold I5 GH;by_cases hr:MK l
   ·rw[Ac hr,Aa (fun g=>hf ⟨hr,g⟩)]
   ·rw[Aa hr]
  rw[e];exact⟨rfl,(h.step hb).more (by omega)⟩
 ·have PD:=als Ab (Bv l);rw[OO] at PD;refine(za (h.step hb) hN hc (by omega) (alx Gf hf.2) (fun _=>RH hf.1)).mono ?_;rintro e w'⟨rfl,g⟩;refine⟨_,rfl,?_⟩;unfold I5 GH;rw[Ac hf.1,Ac hf.2];exact⟨rfl,g⟩
 ·rintro e w' ⟨c,rfl,rfl,g⟩;exact⟨rfl,g⟩
theorem arf{l:Us}(h:Duo B w0 w b y n N A r R L)(hu:Up R)(hn:n≤16384)(hA:used R≤Cn n)(Cv:∀ k,Af.get R (Ab.nm k)=none)(hk:Ro w a l)(hl:l.length≤20)(Ka:∀ u∈l,u.2.length≤30)(hs:S9 l≤16384)(GZ:∀ j name,Small (BG Ab (Bv (l.take j)) name)):
  Calls prog 43 #[.pointer (some ⟨r,0,none⟩),.slice a l.length cap] w fun e w'=>e=.returned (.int .i64 (I5 n R l).1)∧Duo B w0 w' b y n N A r (I5 n R l).2 L:=by
 obtain⟨v,hv⟩:=h.rf;refine(az1 hv hu Cv hn hA hk hl (fun x hx=>⟨by have:=anw l x hx;omega,by have:=Ka x hx;omega⟩) GZ).mono ?_;rintro e w'⟨rfl,v',g1,g2⟩;exact⟨rfl,h.ref g1 g2⟩
theorem akF{l:List Am}(h:l.all Am.may=true)(pX:l.length≤10)(hd:iM l≤4096):F8 l≤900000:=by
 have key:∀ l:List Am,l.all Am.may=true→F8 l≤40*l.length+iM l:=by
  intro l
  induction l with
  |nil=>intro _;exact AZ _
  |cons c l ih=>
   intro h;rw[List.all_cons,Bool.and_eq_true] at h;have h1:=ih h.2;have h2:=h.1;unfold Am.may Fq at h2;simp only[Bool.and_eq_true,decide_eq_true_eq] at h2;have e1:F8 (c :: l)=(8+c.name.length+c.data.length)+F8 l:=rfl;have e2:iM (c :: l)=c.data.length+iM l:=rfl;rw[e1,e2,BN];omega
 have:=key l h;omega
theorem ah2{K:Kind}{l:M}{name:T}{C:Nat}(hl:l.length≤1000)(hc:CU l≤C)(hC:C≤900000000):Small (BG K l name):=by
 have hn:(BG K l name).Nodup:=List.nodup_iff_pairwise_ne.2 ((show List.Pairwise (fun a b:T×T=>a.1 < b.1) (BG K l name) from SL l name).imp fun {a b} (h:a.1 < b.1) (e:a=b)=>KV h (congrArg Prod.fst e));have hs:∀ x∈BG K l name,x∈l:=fun x hx=>(pV l name x hx).2
 have h1:=ZZ (fun _=>1) _ _ hn hs;have h2:=ZZ (fun q:T×T=>4+q.1.length+q.2.length) _ _ hn hs;have e:∀ l:M,(l.map fun _=>1).sum=l.length:=fun l=>by
  induction l with
  |nil=>rfl
  |cons x l ih=>rw[Ce,Eo,ih,BN];omega
 rw[e,e] at h1;have h3:CU (BG K l name)≤CU l:=h2;refine⟨by omega,?_⟩;rw[oZ];omega
theorem ze(l:M)(j:Nat):CU (l.take j)≤CU l:=by
 have h:CU l=CU (l.take j)+CU (l.drop j):=by
  conv=>lhs;rw[←Mw j l]
  unfold CU;rw[D6,OQ]
 omega
theorem anE(l:Us):CU (Bv l)≤6*l.length+16*S9 l:=by
 induction l with
 |nil=>exact AZ _
 |cons u l ih=>
  have h2:(PZ u).2.length≤2+16*dW u.2:=by
   by_cases h:(D5 (Bc u.2)).2=0
   ·exact anz h
   ·have:(PZ u).2=[]:=by
     show(D5 (Bc u.2)).1=[]
     unfold D5 at h ⊢;cases hr:Gt (Bc u.2) with
     |none=>rfl
     |some s=>rw[hr] at h;exact absurd rfl h
    rw[this];exact AZ _
  have e1:CU (Bv (u :: l))=(4+u.1.length+(PZ u).2.length)+CU (Bv l):=rfl;have e2:S9 (u :: l)=(u.1.length+dW u.2)+S9 l:=rfl;rw[e1,e2,BN];omega
theorem amO{l:M}(hl:l.length≤20)(hs:Y1 l≤262144)(j:Nat)(name:T):Small (BG Aj (l.take j) name):=by
 have h1:=ze l j;have h2:=afX l;exact ah2 (by rw[Be];omega) (Ay h1 (Ae _)) (by omega)
theorem amP{l:Us}(hl:l.length≤20)(hs:S9 l≤16384)(j:Nat)(name:T):Small (BG Ab (Bv (l.take j)) name):=by
 rw[uU];have h1:=ze (Bv l) j;have h2:=anE l;exact ah2 (by rw[Be,OO];omega) (Ay h1 (Ae _)) (by omega)
def kR(n:Nat)(l:M)(us:Us)(fs:List Am):M:=Es n (I5 n (GH Aj n [] l).2 us).2 fs
theorem ES.lower{B2:Nat}{w2:World}(h:ES B w0 w b y n N A L)(hb:Below B2 w2 w0)(hB:B2≤B):ES B2 w2 w b y n N A L:=by
 obtain⟨⟨h1,h2,hx,bl,h3,h4⟩,ha⟩:=h;exact⟨⟨hb.trans (h1.mono hB),Ay hB h2,hx,bl,h3,fun k hk=>⟨Ay hB (h4 k hk).1,(h4 k hk).2⟩⟩,ha⟩
end
def JL(y p d r:Nat):Obj:=.cells #[.pointer (some ⟨y,0,none⟩),.pointer (some ⟨p,0,none⟩),.pointer (some ⟨d,0,none⟩),.pointer (some ⟨r,0,none⟩)] 47
theorem awE{n:Nat}{a ua fa:Option Addr}{cap uc fc:Nat}{l:M}{us:Us}{fs:List Am}{w:World}(ru:aeL n l us fs)(hL:Bj w a l)(hU:Ro w ua us)(hF:Ew w fa fs)(aif:∀ c∈fs,c.name.length≤maxLen∧c.data.length≤maxLen):
  Calls prog 12 #[.agg #[.int .i64 (n:Int),.slice a l.length cap,.slice ua us.length uc,.slice fa fs.length fc]] w fun e w'=>∃ b y p d r xb,e=.returned (.tuple #[.pointer (some ⟨xb,0,none⟩),.bool true])∧ES w.heap.size w w' b y n 3 (kR n l us fs) [(xb,JL y p d r),(d,Gy y),(p,GG y)]:=by
 have Jf:=Hi ru;have HL:=Hi hL;have HU:=Hi hU;have HF:=Hi hF;have adU:=Hi aif;have h8:8≤n:=by have:=ru.n8;omega
 have aCh:n≤200:=by have:=ru.n200;omega
 clear ru hL hU hF aif
 go_in
 go_wp2_with fail;have AR:=Hi (AV w (.cells #[.int .i64 (n:Int),.slice a l.length cap,.slice ua us.length uc,.slice fa fs.length fc] 34));have hx:=AP w (.cells #[.int .i64 (n:Int),.slice a l.length cap,.slice ua us.length uc,.slice fa fs.length fc] 34);generalize hwa:w.alloc (.cells #[.int .i64 (n:Int),.slice a l.length cap,.slice ua us.length uc,.slice fa fs.length fc] 34)=wa at*;have HX:Hid (∀ wr,Bw wa wr→wr.cell? ⟨w.heap.size,0,none⟩=some (.int .i64 (n:Int))∧wr.cell? ⟨w.heap.size,1,none⟩=some (.slice a l.length cap)∧wr.cell? ⟨w.heap.size,2,none⟩=some (.slice ua us.length uc)∧wr.cell? ⟨w.heap.size,3,none⟩=some (.slice fa fs.length fc)):=Hi fun wr hb=>by
  have hk:w.heap.size < wa.heap.size:=(Dm.1 hx).1;refine⟨(hb.cell (p:=⟨w.heap.size,0,none⟩) hk).trans ?_,(hb.cell (p:=⟨w.heap.size,1,none⟩) hk).trans ?_,(hb.cell (p:=⟨w.heap.size,2,none⟩) hk).trans ?_,(hb.cell (p:=⟨w.heap.size,3,none⟩) hk).trans ?_⟩<;>(unfold World.cell?;rw[hx];rfl)
 clear hwa hx;refine(awC n h8 (by omega) wa).mono ?_;rintro e w1⟨b,y,p,rfl,h1⟩;have H1:=Hi h1;clear h1;go_wp2_with fail;refine(aqW y w1).mono ?_;rintro e w2⟨d,rfl,hd,hdp,Ad⟩;have H2:=Hi (aeV H1 Ad hdp (o:=Gy y) hd);clear hd hdp Ad H1;obtain⟨c0,c1,c2,c3⟩:=HX _ H2.AQ;go_wp2_with fail;refine(ayK n h8 (by omega) w2).mono ?_;rintro e w3⟨r,rfl,hr,hrp,Aw⟩;have H3:=Hi (ara H2 Aw hr hrp);clear hr hrp Aw H2 c0 c1 c2 c3;have H4:=Hi (H3.new (JL y p d r));have HC:Hid (∀ (W:World) (N:Nat) (A R:M),Duo wa.heap.size wa W b y n N A r R [(w3.heap.size,JL y p d r),(d,Gy y),(p,GG y)]→W.cell? ⟨w.heap.size,1,none⟩=some (.slice a l.length cap)∧W.cell? ⟨w.heap.size,2,none⟩=some (.slice ua us.length uc)∧W.cell? ⟨w.heap.size,3,none⟩=some (.slice fa fs.length fc)∧W.cell? ⟨w3.heap.size,3,none⟩=some (.pointer (some ⟨r,0,none⟩))):=Hi fun W N A R h=>by
  obtain⟨_,x1,x2,x3⟩:=HX _ h.AQ;exact⟨x1,x2,x3,by have:=h.cell (k:=w3.heap.size) (t:=47) (Hg) 3;exact this⟩
 have Yy:Hid (∀ (W:World) (R:M),Duo wa.heap.size wa W b y n 0 [] r R [(w3.heap.size,JL y p d r),(d,Gy y),(p,GG y)]→Calls prog 40 #[.pointer (some ⟨p,0,none⟩),.slice a l.length cap] W fun e w'=>e=.returned (.int .i64 (GH Aj n [] l).1)∧Duo wa.heap.size wa w' b y n 1 (GH Aj n [] l).2 r R [(w3.heap.size,JL y p d r),(d,Gy y),(p,GG y)]):=Hi fun W R h=>
  arb h (by omega) (by simp) (fun k=>rfl) (HL.below (AR.trans (h.AQ.mono AR.size))) Jf.sF Jf.sH (amO Jf.sF Jf.sH)
 have FD:Hid (∀ (W:World) (N:Nat) (A:M),Duo wa.heap.size wa W b y n N A r [] [(w3.heap.size,JL y p d r),(d,Gy y),(p,GG y)]→Calls prog 41 #[.pointer (some ⟨r,0,none⟩),.slice a l.length cap] W fun e w'=>e=.returned (.int .i64 (GH Aj n [] l).1)∧Duo wa.heap.size wa w' b y n N A r (GH Aj n [] l).2 [(w3.heap.size,JL y p d r),(d,Gy y),(p,GG y)]):=Hi fun W N A h=>
  ard h Up.nil (by omega) (by unfold Cn sz lg;show 4≤_;omega) (fun k=>rfl) (HL.below (AR.trans (h.AQ.mono AR.size))) Jf.sF Jf.sH (amO Jf.sF Jf.sH)
 obtain⟨⟨k1,A1⟩,bL⟩:=ex (GH Aj n [] l);rw[bL] at Yy FD;dsimp only at Yy FD;obtain⟨x1,x2,x3,x4⟩:=HC _ _ _ _ H4.out;have avw:=(Dm.1 (H4.at_ _ _ (Hg))).1;obtain⟨w4,Io⟩:=ex (w3.alloc (JL y p d r));rw[Io] at H4 x1 x2 x3 x4 avw;go_upto_region 8 with fail
 rw[show w3.alloc (.cells #[.pointer (some ⟨y,0,none⟩),.pointer (some ⟨p,0,none⟩),.pointer (some ⟨d,0,none⟩),.pointer (some ⟨r,0,none⟩)] 47)=w4 from Io];clear Io H3 x1 x2 x3 x4;generalize w3.heap.size=xb at*
 go_cut [9] from 37 to 48 (fun s9 wx=>s9=.bool true∧Duo wa.heap.size wa wx b y n 1 A1 r A1 [(xb,JL y p d r),(d,Gy y),(p,GG y)])
 case first=>
  obtain⟨x1,x2,x3,x4⟩:=HC _ _ _ _ H4.out;refine aj ?_
  go_region_law
   (first
    |(go_simp;go_at_call 40;refine(Yy _ _ (H4.step ((Ah _ _).drew))).mono ?_;rintro e wA ⟨rfl,hA⟩;have HA:=Hi hA;obtain⟨xA1,mo,mq,mr⟩:=HC _ _ _ _ hA;clear hA;go_wp2_with fail)
    |(go_simp;go_at_call 41;refine(FD _ _ _ (H4.step ((Ah _ _).drew))).mono ?_;rintro e wB ⟨rfl,hA⟩;have HB:=Hi hA;obtain⟨xA1,mo,mq,mr⟩:=HC _ _ _ _ hA;clear hA;go_wp2_with fail)
    |(go_simp;go_at_call 41;refine(FD _ _ _ HA).mono ?_;rintro e wE ⟨rfl,hA⟩;have HE:=Hi hA;obtain⟨xE1,xE2,xE3,mD⟩:=HC _ _ _ _ hA;clear hA;go_wp2_with fail)
    |(go_simp;go_at_call 40;refine(Yy _ _ HB).mono ?_;rintro e wE ⟨rfl,hA⟩;have HE:=Hi hA;obtain⟨xE1,xE2,xE3,mD⟩:=HC _ _ _ _ hA;clear hA;go_wp2_with fail))
  all_goals
   dsimp only[XZ];go_wp2_with fail;go_meet
   case rel=>exact⟨by simp,HE⟩
 case rest=>
  obtain⟨rfl,h5⟩:=hcut;have H5:=Hi h5;clear h5 Yy FD H4;have zT:A1=(GH Aj n [] l).2:=by rw[bL]
  have P7:=Hi (show ∀ k,Af.get A1 (Ab.nm k)=none from by rw[zT];exact al0 Gf KW (fun x h1 h2=>NA.apart x h2 h1) Up.nil (fun k=>rfl) l);have MI:=Hi (kU H5.k);have aJ:=Hi zT;clear zT;have KD:Hid (∀ (W:World) (R:M),Duo wa.heap.size wa W b y n 1 A1 r R [(xb,JL y p d r),(d,Gy y),(p,GG y)]→Calls prog 42 #[.pointer (some ⟨d,0,none⟩),.slice ua us.length uc] W fun e w'=>e=.returned (.int .i64 (I5 n A1 us).1)∧Duo wa.heap.size wa w' b y n 2 (I5 n A1 us).2 r R [(xb,JL y p d r),(d,Gy y),(p,GG y)]):=Hi fun W R h=>
   arh h (by omega) (by simp) P7 (HU.below (AR.trans (h.AQ.mono AR.size))) Jf.u20 Jf.uks Jf.uP (amP Jf.u20 Jf.uP)
  have BU:Hid (∀ (W:World) (N:Nat) (A:M),Duo wa.heap.size wa W b y n N A r A1 [(xb,JL y p d r),(d,Gy y),(p,GG y)]→Calls prog 43 #[.pointer (some ⟨r,0,none⟩),.slice ua us.length uc] W fun e w'=>e=.returned (.int .i64 (I5 n A1 us).1)∧Duo wa.heap.size wa w' b y n N A r (I5 n A1 us).2 [(xb,JL y p d r),(d,Gy y),(p,GG y)]):=Hi fun W N A h=>
   arf h MI.1 (by omega) MI.2.2 P7 (HU.below (AR.trans (h.AQ.mono AR.size))) Jf.u20 Jf.uks Jf.uP (amP Jf.u20 Jf.uP)
  obtain⟨⟨k2,A2⟩,zU⟩:=ex (I5 n A1 us);rw[zU] at KD BU;dsimp only at KD BU;go_upto_region 9 with fail
  go_cut [9] from 49 to 63 (fun s9 wx=>s9=.bool true∧Duo wa.heap.size wa wx b y n 2 A2 r A2 [(xb,JL y p d r),(d,Gy y),(p,GG y)])
  case first=>
   obtain⟨x1,x2,x3,x4⟩:=HC _ _ _ _ H5.out;refine aj ?_
   go_region_law
    (first
     |(go_simp;go_at_call 42;refine(KD _ _ (H5.step ((Ah _ _).drew))).mono ?_;rintro e wA ⟨rfl,hA⟩;have HA:=Hi hA;obtain⟨xA1,mo,mq,mr⟩:=HC _ _ _ _ hA;clear hA;go_wp2_with fail)
     |(go_simp;go_at_call 43;refine(BU _ _ _ (H5.step ((Ah _ _).drew))).mono ?_;rintro e wB ⟨rfl,hA⟩;have HB:=Hi hA;obtain⟨xA1,mo,mq,mr⟩:=HC _ _ _ _ hA;clear hA;go_wp2_with fail)
     |(go_simp;go_at_call 43;refine(BU _ _ _ HA).mono ?_;rintro e wE ⟨rfl,hA⟩;have HE:=Hi hA;obtain⟨xE1,xE2,xE3,mD⟩:=HC _ _ _ _ hA;clear hA;go_wp2_with fail)
     |(go_simp;go_at_call 42;refine(KD _ _ HB).mono ?_;rintro e wE ⟨rfl,hA⟩;have HE:=Hi hA;obtain⟨xE1,xE2,xE3,mD⟩:=HC _ _ _ _ hA;clear hA;go_wp2_with fail))
   all_goals
    dsimp only[XZ];go_wp2_with fail;go_meet
    case rel=>exact⟨by simp,HE⟩
  case rest=>
   obtain⟨rfl,h6⟩:=hcut;have H6:=Hi h6;clear h6 KD BU H5;have Ri:=Hi (kU H6.k);have aK:=Hi (show A2=(I5 n A1 us).2 by rw[zU]);have IE:fs.length≤100000:=(by have:=Jf.f10;omega);have Yz:Hid (∀ (W:World) (R:M),Duo wa.heap.size wa W b y n 2 A2 r R [(xb,JL y p d r),(d,Gy y),(p,GG y)]→Calls prog 17 #[.pointer (some ⟨y,0,none⟩),.slice fa fs.length fc] W fun e w'=>e=.returned (.int .i64 (Fy n A2 fs))∧Duo wa.heap.size wa w' b y n 3 (Es n A2 fs) r R [(xb,JL y p d r),(d,Gy y),(p,GG y)]):=Hi fun W R h=>
    za h (by omega) (HF.below (AR.trans (h.AQ.mono AR.size))) IE adU (fun e=>akF e Jf.f10 Jf.agw)
   have MG:Hid (∀ (W:World) (N:Nat) (A:M),Duo wa.heap.size wa W b y n N A r A2 [(xb,JL y p d r),(d,Gy y),(p,GG y)]→Calls prog 44 #[.pointer (some ⟨r,0,none⟩),.slice fa fs.length fc] W fun e w'=>e=.returned (.int .i64 (Fy n A2 fs))∧Duo wa.heap.size wa w' b y n N A r (Es n A2 fs) [(xb,JL y p d r),(d,Gy y),(p,GG y)]):=Hi fun W N A h=>
    arc h Ri.1 (by omega) Ri.2.2 (HF.below (AR.trans (h.AQ.mono AR.size))) IE adU (fun e=>akF e Jf.f10 Jf.agw)
   have WG:=Hi (show Es n A2 fs=kR n l us fs by unfold kR;rw[←aJ.out,←aK.out]);generalize Fy n A2 fs=k3 at*;generalize Es n A2 fs=A3 at*;clear bL zU IE;go_upto_region 10 with fail
   go_cut [9] from 64 to 78 (fun s9 wx=>s9=.bool true∧Duo wa.heap.size wa wx b y n 3 A3 r A3 [(xb,JL y p d r),(d,Gy y),(p,GG y)])
   case first=>
    obtain⟨x1,x2,x3,x4⟩:=HC _ _ _ _ H6.out;refine aj ?_
    go_region_law
     (first
      |(go_simp;go_at_call 17;refine(Yz _ _ (H6.step ((Ah _ _).drew))).mono ?_;rintro e wA ⟨rfl,hA⟩;have HA:=Hi hA;obtain⟨xA1,mo,mq,mr⟩:=HC _ _ _ _ hA;clear hA;go_wp2_with fail)
      |(go_simp;go_at_call 44;refine(MG _ _ _ (H6.step ((Ah _ _).drew))).mono ?_;rintro e wB ⟨rfl,hA⟩;have HB:=Hi hA;obtain⟨xA1,mo,mq,mr⟩:=HC _ _ _ _ hA;clear hA;go_wp2_with fail)
      |(go_simp;go_at_call 44;refine(MG _ _ _ HA).mono ?_;rintro e wE ⟨rfl,hA⟩;have HE:=Hi hA;obtain⟨xE1,xE2,xE3,mD⟩:=HC _ _ _ _ hA;clear hA;go_wp2_with fail)
      |(go_simp;go_at_call 17;refine(Yz _ _ HB).mono ?_;rintro e wE ⟨rfl,hA⟩;have HE:=Hi hA;obtain⟨xE1,xE2,xE3,mD⟩:=HC _ _ _ _ hA;clear hA;go_wp2_with fail))
    all_goals
     dsimp only[XZ];go_wp2_with fail;go_meet
     case rel=>exact⟨by simp,HE⟩
   case rest=>
    obtain⟨rfl,h7⟩:=hcut;have H7:=Hi (ES.lower h7.k AR AR.size);clear h7 Yz MG H6;rw[WG.out] at H7;go_wp2;go_ret2;exact⟨b,y,p,d,r,xb,rfl,H7⟩
def UQ(L:List (T×Value)):List Value:=L.flatMap fun x=>[.string (bs x.1),x.2]
theorem aAL(L:List (T×Value))(i:Nat)(h:i < L.length):(UQ L)[i*2]?=some (.string (bs L[i].1))∧(UQ L)[i*2+1]?=some L[i].2:=by
 induction L generalizing i with
 |nil=>simp at h
 |cons x L ih=>
  cases i with
  |zero=>exact⟨rfl,rfl⟩
  |succ i=>
   have e:UQ (x :: L)=.string (bs x.1) :: x.2 :: UQ L:=rfl;have h1:=ih i (by simpa using h);rw[e,show(i+1)*2=i*2+1+1 by omega];exact h1
structure iD(w:World)(base:Nat)(v:Value)(us:Us)(L:List (T×Value)):Prop where
 row:w.ownsRow base 63 2 v L.length (UQ L)
 len:L.length=us.length
 each:∀ i (h:i < L.length) (h2:i < us.length),L[i].1=us[i].1∧Ap.Bq w base L[i].2 us[i].2
section
variable {w w':World}{base:Nat}{v:Value}{us:Us}{L:List (T×Value)}
theorem iD.at_{q:Option Addr}{n c:Nat}(h:iD w base (.slice q n c) us L):Ro w q us:=fun i hi=>by
 have Oz:i < L.length:=by rw[h.len];exact hi
 obtain⟨h1,h2⟩:=h.each i Oz hi;rcases h.row.2 with⟨e0,h0⟩|⟨g,cap,cur,e0,hb,hg,hn,hm,hs,ht⟩
 ·omega
 ·injection e0 with e1 e2 e3
  subst e1;have hc:∀ j,j < 2→∀ v,(UQ L)[i*2+j]?=some v→w.cell? (((⟨g,0,none⟩:Addr).add (i*2)).add j)=some v:=fun j hj v hv=>by
   have e1:(cur.toList.take (L.length*2))[i*2+j]?=(UQ L)[i*2+j]? :=(by rw[ht]);rw[List.getElem?_take,Ac (by omega),Dx,hv] at e1;rw[add_plain,Vs];simp only[World.cell?,hg,GJ];simp only[Option.isSome_none,Bool.false_eq_true,if_false];exact e1
  obtain⟨u1,u2⟩:=aAL L i Oz;refine⟨_,rfl,?_,?_⟩
  ·have:=hc 0 (by omega) _ u1;rw[add_zero'] at this;rw[←h1];exact this
  ·have h3:=hc 1 (by omega) _ u2;obtain⟨kq,kc,e⟩:=Bp h2;rw[add_plain,Vs] at h3;rw[e] at h3 h2;refine⟨kq,kc,?_,I6 h2,fun e=>?_⟩
   ·rw[add_plain];exact h3
   ·rcases h2.2 with⟨e4,_⟩|⟨g,cap',cur,e4,_⟩
    ·injection e4
    ·injection e4 with e5 e6 e7
     rw[e] at e5;cases e5
end
end Hv
namespace Hv
open Af Kp BM Hex Mem Cg IC
open Ap hiding T
variable {n:Nat}{A:M}{roots:List T}
end Hv
namespace Hv
open Go.RowKit Go.Maps
open Aq Af Bu Kp BM Hex BD Al Mem Cg IC
open Ap hiding T
section
variable {w w' w1:World}{B:Nat}{w0:World}{b y n N pm pd:Nat}{A A':M}{L:List (Nat×Obj)}
theorem amc{n:Nat}(h:n≤200):Cn n≤100000:=by unfold Cn sz lg;omega
theorem abZ(h:ES B w0 w b y n N A L):Hm w y A:=by
 obtain⟨bl,h1,_,_⟩:=h.pick;exact oW h1
theorem akT(h:ES B w0 w b y n N A L)(hn:n≤200):OU A:=oU (Ay (kU h).2.2 (amc hn))
end
end Hv
namespace ER
open Go.Lib Af Aq Bu Kp BM
section
variable {P:Jz}{n:Nat}{A:M}{name data bad:T}
def Wn(A:M)(name bad:T):M:=put name bad A
theorem bJ(hu:Up A)(x:T):get (Wn A name bad) x=if x=name then some bad else get A x:=get_put hu name bad x
theorem arJ{K:Kind}(hu:Up A)(hb:K.Cw name bad=none)(x:T):fileOf K (Wn A name bad) x=if x=name then none else fileOf K A x:=by
 unfold fileOf;rw[bJ hu];by_cases e:x=name
 ·rw[Ac e,Ac e];subst e;exact hb
 ·rw[Aa e,Aa e]
theorem aB1{K:Kind}(hu:Up A)(hb:K.Cw name bad=none)(k:T):CK K (Wn A name bad) k=if K.nm k=name then none else CK K A k:=by
 unfold CK;rw[arJ hu hb];split
 ·rfl
 ·rfl
theorem aB2{K:Kind}(hK:K.BX)(hu:Up A)(ho:K.ours name=false)(k:T):CK K (Wn A name bad) k=CK K A k:=by
 unfold CK fileOf;rw[bJ hu,Aa];intro e;have:=hK.Nb k;rw[e,ho] at this;cases this
theorem apT{K:Kind}(hu:Up A)(h0:CO K A=[])(ho:K.ours name=true)(hb:K.Cw name bad=none)(x:T):x∈CO K (Wn A name bad)↔x=name:=by
 rw[J7 (show Up (Wn A name bad) from hu.put _ _)];constructor
 ·rintro⟨h1,d,h2,h3⟩;rw[bJ hu] at h2;by_cases e:x=name
  ·exact e
  ·rw[Aa e] at h2;have hm:=(J7 hu x).2 ⟨h1,d,h2,h3⟩;rw[h0] at hm;cases hm
 ·rintro rfl;exact⟨ho,bad,by rw[bJ hu,Ac rfl],hb⟩
theorem apU{K:Kind}(hu:Up A)(h0:CO K A=[])(ho:K.ours name=false):CO K (Wn A name bad)=[]:=by
 refine UW.2 fun x hx=>?_
 obtain⟨h1,d,h2,h3⟩:=(J7 (show Up (Wn A name bad) from hu.put _ _) x).1 hx;rw[bJ hu] at h2;by_cases e:x=name
 ·rw[e,ho] at h1;cases h1
 ·rw[Aa e] at h2;have hm:=(J7 hu x).2 ⟨h1,d,h2,h3⟩;rw[h0] at hm;cases hm
end
end ER
namespace Hv
open Aq Af Bu Kp BM Hex BD Al Mem Cg IC
open Ap hiding T
theorem aAk{l:List T}(h:∀ t∈l,t.length≤65535):∃ a,BB l=some a:=by
 induction l with
 |nil=>exact⟨[],rfl⟩
 |cons x l ih=>
  obtain⟨a,ha⟩:=ih (fun t ht=>h t (GI _ ht));have hx:=h x Hg;have e:∃ b,Em x=some b:=by
   unfold Em;rw[Ac hx];exact⟨_,rfl⟩
  obtain⟨b,hb⟩:=e;exact⟨b++a,by simp only[BB];rw[hb,ha];rfl⟩
theorem iU{l:M}{t:T}(h:t∈flat l):∃ p∈l,t=p.1∨t=p.2:=by
 unfold flat at h;obtain⟨p,hp,hm⟩:=Nl.1 h;refine⟨p,hp,?_⟩;simpa using hm
theorem aqA{l:M}(h:CU l≤60000):(BS l).isSome=true:=by
 have hl:4*l.length+(l.map fun p=>p.2.length).sum≤CU l:=oM l
 obtain⟨a,ha⟩:=aAk (l:=flat l) (fun t ht=>by
  obtain⟨p,hp,e⟩:=iU ht;have:=zb hp;rcases e with rfl|rfl<;>omega)
 have h2:=Wo ha;rw[oZ] at h2;unfold BS FI;rw[Ac (by omega),ha];simp only[EP,CF];rw[Ac (by rw[Az,A9.BV];omega)];rfl
theorem ata(K:Kind)(l:M)(name:T):CU (BG K l name)≤CU l:=by
 have h:=ah4 K [name] (by simp) l;simpa using h
theorem iT{K:Kind}{l:M}(h:CU l≤60000):Fits K l:=fun j hj=>
 aqA (Ay (ata K _ _) (Ay (ze l (j+1)) h))
theorem alI{K:Kind}(hK:K.BX){n:Nat}{A l:M}(hu:Up A)(h:CU l≤60000)(hr:used A+(31*l.length+CU l)≤Cn n):GH K n A l=(0,made A (EZ K l)):=by
 rw[acm hK (iT h),Aa];have h1:=UR hu (EZ K l);have h2:=lZ hK l;omega
def UK(l:M)(k:T):Option T:=(l.reverse.find? fun p=>p.1 == k).map (·.2)
theorem akh(l:M)(p:T×T)(k:T):UK (l++[p]) k=if p.1=k then some p.2 else UK l k:=by
 unfold UK;rw[List.reverse_append,List.reverse_singleton,List.singleton_append,List.find?_cons];by_cases e:p.1=k
 ·rw[Ac e];simp[e]
 ·rw[Aa e];have:(p.1 == k)=false:=EH.2 e;rw[this]
theorem ah1{K:Kind}(l:M)(k:T):Af.get (BG K l (K.nm k)) k=UK l k:=by
 induction l using UN with
 |h0=>rfl
 |h1 l p ih=>
  rw[NH,akh];have hu:=SL (K:=K) l (K.nm k);by_cases e:p.1=k
  ·rw[Ac e,Ac (by rw[e]),get_put hu,Ac e.symm]
  ·rw[Aa e];split
   ·rw[get_put hu,Aa (fun h=>e h.symm)];exact ih
   ·exact ih
theorem aly{K:Kind}{A l:M}(hu:Up A)(Cv:∀ k,Af.get A (K.nm k)=none)(hok:∀ p∈l,K.ok p=true)(hf:Fits K l)(k:T):CK K (made A (EZ K l)) k=UK l k:=by
 rw[←l7 hu];unfold CK;rw[iR hu Cv hok hf];by_cases h:K.nm k∈l.map fun p=>K.nm p.1
 ·rw[Ac h];exact ah1 l k
 ·rw[Aa h,←ah1 (K:=K),j3 h];rfl
theorem ay2{K K':Kind}(hK:∀ k,K.ours (K.nm k)=true)(jc:∀ k,K'.ours (K'.nm k)=true)(hd:∀ x,K.ours x=true→K'.ours x=true→False){A:M}(hu:Up A)(l:M)(k:T):CK K' (made A (EZ K l)) k=CK K' A k:=by
 have h:K'.nm k∉l.map fun p=>K.nm p.1:=fun hm=>by
  obtain⟨p,_,e⟩:=BA.1 hm;exact hd (K.nm p.1) (hK p.1) (by rw[e];exact jc k)
 unfold CK fileOf;rw[YU hu,Aa h]
theorem ak9{K:Kind}(hK:K.BX){A:M}(hu:Up A){L:List T}(hL:Lg L)(h:∀ k,k∈L↔(CK K A k).isSome=true):Cm K A=L:=
 QU abI hL (fun k=>by rw[TB hK hu,h])
theorem aqv{n:Nat}{A:M}(h:used A≤Cn n):Es n A []=A:=by
 unfold Es;split<;>rfl
theorem aki(l:M)(k:T):(UK l k).isSome=true↔k∈l.map (·.1):=by
 induction l using UN with
 |h0=>simp[UK]
 |h1 l p ih=>
  rw[akh,D6,EG];by_cases e:p.1=k
  ·rw[Ac e];simp[e]
  ·rw[Aa e,ih];simp only[Ce,Kq,FC];exact⟨fun h=>.inl h,fun h=>h.elim id (fun h=>absurd h.symm e)⟩
end Hv
namespace ER
open Aq Af Bu Kp BM Hex BD Al Mem Cg IC Hv
open Ap hiding T
theorem af3{K:Kind}{A l:M}(hu:Up A)(Cv:∀ k,Af.get A (K.nm k)=none)(h0:CO K A=[])(hok:∀ p∈l,K.ok p=true)(hf:Fits K l):CO K (made A (EZ K l))=[]:=by
 refine UW.2 fun x hx=>?_
 obtain⟨h1,d,h2,h3⟩:=(J7 (Up.made hu _) x).1 hx;have hg:=h2;rw[YU hu] at h2;split at h2
 ·rename_i hm
  obtain⟨p,hp,e⟩:=BA.1 hm;have e:K.nm p.1=x:=e;have h4:=iR hu Cv hok hf p.1;rw[l7 hu,e,Ac hm] at h4;unfold fileOf at h4;rw[hg] at h4;rw[show(some d).bind (K.Cw x)=K.Cw x d from rfl,h3] at h4;cases h4
 ·have hm:=(J7 hu x).2 ⟨h1,d,h2,h3⟩;rw[h0] at hm;cases hm
theorem af4{K K':Kind}(hK:K.BX)(hd:∀ x,K.ours x=true→K'.ours x=true→False){A:M}(hu:Up A)(h0:CO K' A=[])(l:M):CO K' (made A (EZ K l))=[]:=by
 refine UW.2 fun x hx=>?_
 obtain⟨h1,d,h2,h3⟩:=(J7 (Up.made hu _) x).1 hx
 rw[YU hu,Aa (fun hm=>by
  obtain⟨p,_,e⟩:=BA.1 hm;have e:K.nm p.1=x:=e;exact hd x (by rw[←e];exact hK.Nb _) h1)] at h2
 have hm:=(J7 hu x).2 ⟨h1,d,h2,h3⟩;rw[h0] at hm;cases hm
theorem axB{α:Type}{l:List α}{a:α}(hn:l.Nodup)(h:∀ x,x∈l↔x=a):l=[a]:=by
 cases l with
 |nil=>exact absurd ((h a).2 rfl) (by simp)
 |cons x l=>
  have hx:=(h x).1 (by simp);subst hx;cases l with
  |nil=>rfl
  |cons y l=>
   have hy:=(h y).1 (by simp);subst hy;simp at hn
theorem aqw{n:Nat}{A:M}{name data:T}(hm:(⟨name,data,false⟩:Am).may=true)(hr:used (put name data A)≤Cn n):Fy n A [⟨name,data,false⟩]=0∧Es n A [⟨name,data,false⟩]=put name data A:=by
 have e:made A [(⟨name,data,false⟩:Am)]=put name data A:=rfl;unfold Fy Es;rw[e,List.all_cons,hm,List.all_nil];simp only[Bool.and_self,Bool.true_eq_false,if_false];exact⟨Aa (by omega),Ac ⟨trivial,hr⟩⟩
theorem akZ{K:Kind}{A:M}(hu:Up A)(h0:CO K A=[])(hv:∀ k,CK K A k=none){x:T}(hx:K.ours x=true):Af.get A x=none:=by
 cases hg:Af.get A x with
 |none=>rfl
 |some d=>
  exfalso;cases hr:K.Cw x d with
  |none=>
   have hm:=(J7 hu x).2 ⟨hx,d,hg,hr⟩;rw[h0] at hm;cases hm
  |some l=>
   obtain⟨h1,h2,h3,_⟩:=Nf hr;obtain⟨p,l',rfl⟩:∃ p l',l=p :: l':=by
    cases l with
    |nil=>exact absurd rfl h1
    |cons p l'=>exact⟨p,l',rfl⟩
   have h4:=hv p.1;have hn:=(h3 p (by simp)).1;have hf:fileOf K A x=some (p :: l'):=by
    unfold fileOf;rw[hg];exact hr
   unfold CK at h4;rw[hn,hf] at h4;have h5:Af.get (p :: l') p.1=some p.2:=get_mem h2 (by simp);rw[show(some (p :: l')).bind (fun l=>Af.get l p.1)=Af.get (p :: l') p.1 from rfl,h5] at h4;cases h4
def M9:M:=[([97],[49])]
def ND:Us:=[([114],[[97]])]
def Vz:M:=made [] (EZ Aj M9)
def Ij:M:=made Vz (EZ Ab (Bv ND))
theorem iV:CU M9=6:=by decide
theorem iW:CU (Bv ND)≤500:=Ay (anE ND) (by decide)
theorem uj:1000≤Cn 100:=by decide
theorem X8:Up Vz:=Up.made Up.nil _
theorem VA:Up Ij:=Up.made X8 _
theorem agy:used Vz≤100:=by
 have h1:=UR Up.nil (EZ Aj M9);have h2:=lZ KW M9;have h3:=iV;have h4:M9.length=1:=rfl;have h5:used ([]:M)=4:=rfl;unfold Vz;omega
theorem agN:GH Aj 100 [] M9=(0,Vz):=alI KW Up.nil (by rw[iV];omega) (by
 have h3:=iV;have h4:M9.length=1:=rfl;have h5:used ([]:M)=4:=rfl;have:=uj;omega)
theorem pJ:MK ND:=fun u hu=>by
 rw[FC.1 hu]
 show(D5 (Bc [[97]])).2=0
 rw[ll (Sb _ _)];decide
theorem asF:I5 100 Vz ND=(0,Ij):=by
 unfold I5;rw[Ac pJ];refine alI Gf X8 (Ay iW (by omega)) ?_;have h1:=iW;have h2:=agy;have h3:=uj;have h4:(Bv ND).length=1:=rfl;omega
theorem agz:used Ij≤700:=by
 have h1:=UR X8 (EZ Ab (Bv ND));have h2:=lZ Gf (Bv ND);have h3:=iW;have h4:(Bv ND).length=1:=rfl;have h5:=agy;unfold Ij;omega
theorem asD:kR 100 M9 ND []=Ij:=by
 unfold kR;rw[agN]
 show Es 100 (I5 100 Vz ND).2 []=Ij
 rw[asF];exact aqv (Ay agz (by have:=uj;omega))
theorem agL:∀ k,Af.get Vz (Ab.nm k)=none:=fun k=>by
 have h:=al0 (n:=100) Gf KW (fun x h1 h2=>NA.apart x h2 h1) Up.nil (fun _=>rfl) M9 k;rw[agN] at h;exact h
theorem agM(k:T):CK Aj Ij k=UK M9 k:=by
 unfold Ij;rw[ay2 Gf.Nb KW.Nb (fun x h1 h2=>NA.apart x h2 h1) X8];exact aly Up.nil (fun _=>rfl) (fun _ _=>rfl) (iT (by rw[iV];omega)) k
theorem agK(r:T):CK Ab Ij r=UK (Bv ND) r:=
 aly X8 agL (uT pJ) (iT (Ay iW (by omega))) r
theorem agO:Cm Ab Ij=[[114]]:=ak9 Gf VA (by unfold Lg;decide) (fun k=>by rw[agK,aki];rfl)
theorem agP:Kl both Ij [114]=[[97]]:=by
 have h:dV both Ij [114]=some (D5 (Bc [[97]])).1:=by
  show CK Ab Ij [114]=_
  rw[agK];rfl
 unfold Kl;rw[h,CF,ami (pJ _ Hg),ll (Sb _ _)];rfl
theorem agI:CO Aj Ij=[]:=af4 Gf (fun x h1 h2=>NA.apart x h2 h1) X8 (af3 Up.nil (fun _=>rfl) rfl (fun _ _=>rfl) (iT (by rw[iV];omega))) _
theorem agH:CO Ab Ij=[]:=af3 X8 agL (af4 KW (fun x h1 h2=>NA.apart x h1 h2) Up.nil rfl _) (uT pJ) (iT (Ay iW (by omega)))
theorem asG:Vr both Ij:=by
 refine⟨agI,agH,?_⟩;unfold Nj;rw[show X0 both Ij=[[114]] from agO];simp only[Q0,List.flatMap_nil,En,agP];have:mV both Ij [97]=some [49]:=by
  show CK Aj Ij [97]=_
  rw[agM];rfl
 simp[this]
def IY:T:=Aj.nm [97]
def EU:M:=Wn Ij IY [120]
theorem pI:IY.length=17:=KW.len _
theorem agG:Aj.Cw IY [120]=none:=by
 have h:A9.EE [120]=([],7)∨(A9.EE [120]).2≠0:=.inr (by decide);unfold Kind.Cw ZU;rw[Aa (by decide)]
theorem asA:used EU≤800:=by
 have h1:=UR VA [(⟨IY,[120],false⟩:Am)];have h2:F8 [(⟨IY,[120],false⟩:Am)]=8+IY.length+1+0:=rfl;have h3:=pI;have h4:=agz
 show used (made Ij [(⟨IY,[120],false⟩:Am)])≤800
 omega
theorem agJ:Fy 100 Ij [⟨IY,[120],false⟩]=0∧Es 100 Ij [⟨IY,[120],false⟩]=EU:=
 aqw (by have hne:IY≠[]:=fun e=>by { have:=pI;rw[e] at this;cases this };unfold Am.may Fq;simp[pI,hne]) (Ay asA (by have:=uj;omega))
theorem pG:Up EU:=VA.put _ _
theorem zD:CO Aj EU=[IY]:=axB (yh pG) (apT VA agI (KW.Nb _) agG)
theorem agF:Ab.ours IY=false:=by
 cases h:Ab.ours IY with
 |false=>rfl
 |true=>exact(NA.apart IY (KW.Nb _) h).elim
theorem agA:CO Ab EU=[]:=apU VA agH agF
theorem zF(k:T):CK Aj EU k=none:=by
 unfold EU;rw[aB1 VA agG];split
 ·rfl
 ·rename_i h
  rw[agM];cases hl:UK M9 k with
  |none=>rfl
  |some v=>
   have:=(aki M9 k).1 (by rw[hl];rfl);have:k=[97]:=(by simpa[M9] using this);exact absurd (by rw[this];rfl) h
theorem agB(r:T):CK Ab EU r=CK Ab Ij r:=aB2 Gf VA agF r
theorem agC:Cm Ab EU=[[114]]:=by
 rw[←agO];exact avZ Gf pG VA fun k=>by rw[agB]
theorem agE:Nj both EU=[([114],[97])]:=by
 have hu:Kl both EU [114]=[[97]]:=by
  rw[←agP];exact anx (agB _)
 have hm:mV both EU [97]=none:=zF _;unfold Nj;rw[show X0 both EU=[[114]] from agC];simp only[Q0,List.flatMap_nil,En,hu];simp[hm]
theorem asx:Cm Aj EU=[]:=ak9 KW pG List.Pairwise.nil (fun k=>by rw[zF];simp)
theorem asy:QP both EU=[]:=by
 unfold QP;rw[show akx both EU=[] from asx];rfl
theorem asu:MM both EU=[(1,IY,[]),(3,[114],[97])]:=by
 unfold MM;rw[show CO both.m EU=[IY] from zD,show CO both.d EU=[] from agA,agE,asy];rfl
theorem asw:(GQ both EU).length=1:=by
 unfold GQ Ui;rw[show CO both.m EU=[IY] from zD,show CO both.d EU=[] from agA];rfl
theorem agD:LD both EU=[[114]]:=by
 unfold LD;rw[agE];exact ll (Sb _ _)
theorem asz:¬ Vr both EU:=fun h=>by
 have:=h.1;rw[show CO both.m EU=[IY] from zD] at this;cases this
theorem asE{x:T}{d:T}(h:Af.get EU x=some d):Aj.ours x=true∨Ab.ours x=true:=by
 unfold EU at h;rw[bJ VA] at h;split at h
 ·rename_i e
  rw[e];exact .inl (KW.Nb _)
 ·unfold Ij at h;rw[YU X8] at h;split at h
  ·rename_i hm
   obtain⟨p,_,e⟩:=BA.1 hm;have e:Ab.nm p.1=x:=e;exact .inr (by rw[←e];exact Gf.Nb _)
  ·unfold Vz at h;rw[YU Up.nil] at h;split at h
   ·rename_i hm
    obtain⟨p,_,e⟩:=BA.1 hm;have e:Aj.nm p.1=x:=e;exact .inl (by rw[←e];exact KW.Nb _)
   ·cases h
theorem asv{n:Nat}(hm:BM.May n EU):OM both EU=[]:=by
 have h2:=akN NA hm;have rC:∀ x,Af.get (OM both EU) x=none:=fun x=>by
  by_cases h1:Aj.ours x=true
  ·exact akZ h2.up (o8 NA hm (.inl rfl)) (fun k=>(akM NA hm k).trans (zF k)) h1
  ·by_cases h3:Ab.ours x=true
   ·refine akZ h2.up (o8 NA hm (.inr rfl)) (fun k=>?_) h3;have:=akL NA hm k;rw[agD] at this;refine this.trans ?_;split
    ·rfl
    ·rename_i hk
     show CK Ab EU k=none
     cases hv:CK Ab EU k with
     |none=>rfl
     |some v=>
      have:=(TB Gf pG k).2 (by rw[hv];rfl);rw[agC] at this;exact absurd this hk
   ·have hn:∀ l:List T,(∀ y∈l,Ab.ours y=true∨Aj.ours y=true)→x∉l:=fun l hl hx=>(hl x hx).elim h3 h1
    unfold OM
    rw[iY (sS hm.up) (by
     rw[Vx,Eg];intro hx;obtain⟨j,_,e⟩:=BA.1 hx;have e:Ab.nm j=x:=e;exact h3 (by rw[←e];exact Gf.Nb _)),zJ hm.up]
    split
    ·rfl
    ·cases hg:Af.get EU x with
     |none=>rfl
     |some d=>exact(asE hg).elim (fun e=>absurd e h1) (fun e=>absurd e h3)
 cases hA:OM both EU with
 |nil=>rfl
 |cons p l=>
  have h3:=rC p.1;have hu:=h2.up;rw[hA] at h3 hu;rw[get_mem hu (show(p.1,p.2)∈p :: l by simp)] at h3;cases h3
end ER
namespace ER
open Go.RowKit Go.Maps
open Aq Af Bu Kp BM Hex BD Al Mem Cg
theorem yj(t:T):∃ pre,t=pre++(Hr t).2∧(Hr t).1.length≤t.length:=by
 induction t using uE with
 |h0=>exact⟨[],rfl,Ae _⟩
 |h1 t c ih=>
  obtain⟨pre,h1,h2⟩:=ih;rw[o9];unfold NB;by_cases hc:c=32
  ·rw[Ac hc];exact⟨t++[c],by simp,by simp;omega⟩
  ·rw[Aa hc];refine⟨pre,?_,by simp;omega⟩
   show t++[c]=pre++((Hr t).2++[c])
   rw[←Dy,←h1]
def NF(s:T)(i:Nat):List T:=if i≤s.length then(Hr (s.take i)).1 else parts s
theorem asK(s:T)(i:Nat)(hi:i≤s.length+1):(NF s i).length≤i:=by
 unfold NF;split
 ·obtain⟨_,_,h⟩:=yj (s.take i);rw[Be] at h;omega
 ·unfold parts;obtain⟨_,_,h⟩:=yj s;rw[Az];simp;omega
theorem afD{s:T}{i fr:Nat}(hi:i≤s.length)(hf:fr+(Hr (s.take i)).2.length=i):(s.take i).drop fr=(Hr (s.take i)).2:=by
 obtain⟨pre,h,_⟩:=yj (s.take i);have hl:=congrArg List.length h;rw[Az,Be,Jc hi] at hl;have:pre.length=fr:=by omega
 conv=>lhs;rw[h]
 rw[←this,List.drop_left]
theorem asI{s:T}{i fr:Nat}(hi:i < s.length)(hf:fr+(Hr (s.take i)).2.length=i)(hb:s[i]=32):NF s (i+1)=NF s i++[(s.take i).drop fr]∧(i+1)+(Hr (s.take (i+1))).2.length=i+1:=by
 rw[afD (by omega) hf];have e:Hr (s.take (i+1))=((Hr (s.take i)).1++[(Hr (s.take i)).2],[]):=by
  rw[CQ hi,o9,hb];rfl
 unfold NF;rw[Ac (by omega),Ac (by omega),e];exact⟨rfl,rfl⟩
theorem asL{s:T}{i fr:Nat}(hi:i < s.length)(hf:fr+(Hr (s.take i)).2.length=i)(hb:s[i]≠32):NF s (i+1)=NF s i∧fr+(Hr (s.take (i+1))).2.length=i+1:=by
 have e:Hr (s.take (i+1))=((Hr (s.take i)).1,(Hr (s.take i)).2++[s[i]]):=by
  rw[CQ hi,o9];exact Aa hb
 unfold NF;rw[Ac (by omega),Ac (by omega),e];exact⟨rfl,by show fr+((Hr (s.take i)).2++[s[i]]).length=_;rw[Az];simp;omega⟩
theorem asJ{s:T}{fr:Nat}(hf:fr+(Hr (s.take s.length)).2.length=s.length):NF s (s.length+1)=NF s s.length++[(s.take s.length).drop fr]:=by
 rw[afD (Ae _) hf];unfold NF;rw[Aa (by omega),Ac (Ae _),Dq];rfl
def apC(w0:World)(s:T)(lv fv iv:Value)(wr:World):Prop:=
 ∃ (i n fr:Nat) (q:Option Addr) (c:Nat),i≤s.length+1∧iv=.int .i64 (i:Int)∧fv=.int .i64 (fr:Int)∧lv=.slice q n c∧n=(NF s i).length∧wr.ownsRow w0.heap.size 9 1 (.slice q n c) n (strCells (NF s i))∧Bw w0 wr∧(i≤s.length→fr+(Hr (s.take i)).2.length=i)
theorem aAD:∀ (s t:T),F3 s=some t→t.length≤s.length:=fun s t h=>by
 have:=aat s t h;have h2:=Rx t;rw[this] at h2;omega
theorem ah5(a:T):(D8 a).length≤a.length:=by
 unfold D8;split
 ·exact AZ _
 ·cases h:F3 a with
  |none=>exact AZ _
  |some t=>exact aAD a t h
def apD(w2:World)(s a b:T)(kv:Value)(wr:World):Prop:=
 ∃ k:Nat,1≤k∧k≤5∧kv=.int .u8 (k:Int)∧Bw w2 wr∧∀ j,1≤j→j < k→Gs (j,D8 a,D8 b)≠s
theorem ayY(s:T)(w:World)(hs:s.length≤100000):Calls prog 8 #[.string (bs s)] w fun e w'=>e=.returned (.tuple #[bq (JN s),.int .i64 (Nc s)])∧Bw w w':=by
 obtain⟨i0,Bg,AX,AY,Ba⟩:=DI RX;have AR:=Hi (AV w JV);have BL:=Ar w JV;have HX:=Hi (fun(V:World) (hV:Below (w.alloc JV).heap.size (w.alloc JV) V)=>show V.heap[w.heap.size]?=some JV from(hV.block w.heap.size (by omega)).trans (AP w JV));have IV:=Hi (show ∀ a∈parts s,a.length≤100000 from fun a ha=>Ay (ald ha) hs);obtain⟨w0,ED⟩:=ex (w.alloc JV);rw[ED] at AR HX BL;have Dz:=Hi BL;clear BL;unfold bq
 go_in
 unfold JV at ED;go_wp2_with fail;clear ED
 go_loopw [4,5,6] (fun lv fv iv wr=>apC w0 s lv fv iv wr) (fun _ _ iv _=>s.length+1 -(intOf iv).toNat)
 case atStart=>exact⟨0,0,0,none,0,AZ _,rfl,rfl,rfl,rfl,by rw[show NF s 0=[] from rfl,QT];exact E5 _ _ _ _,Ah _ _,fun _=>rfl⟩
 case round=>
  obtain⟨i,n,fr,q,c,hi,rfl,rfl,rfl,hn,Ag,hb,hf⟩:=hrel;have Co:=Hi Ag;have HB:=Hi hb;have HN:=Hi hn;have JH:n≤200000:=by have:=asK s i hi;omega
  by_cases hlt:i < s.length
  ·have Xq:=hf (by omega);have hle:(i:Int)≤(s.length:Int):=(by omega);have hne:((i:Int) == (s.length:Int))=false:=EH.2 (by omega);have hfi:fr≤i:=(by omega);have Cx:∀ W,(Instr.index 9 (.string (bs s)) (.int .i64 (i:Int))).run prog W=.ok (.int .u8 (s[i].toNat:Int)) W:=fun W=>lH (bs s) .i64 i (by simpa using hlt) W
   have hcut:∀ W,(Instr.slice 9 (.string (bs s)) (some (.int .i64 (fr:Int))) (some (.int .i64 (i:Int))) none).run prog W=.ok (.string (bs ((s.take i).drop fr))) W:=fun W=>Y4 _ _ _ underlying9 s fr i hfi (by omega)
   by_cases Ct:s[i]=32
   ·have HG:=Hi (asI hlt Xq Ct);have h32:((s[i].toNat:Int) == 32)=true:=(by rw[Ct];rfl);generalize s[i]=x at*;generalize (s.take i).drop fr=part at*;clear hf Xq Ag hb hn Ct;go_wp2_with (at_builtin;refine wpList_append_own_at _ rfl _ _ 61 rfl w0.heap.size 9 i0 _ 1 16 underlying61 Bg AX AY Ba rfl (by decide) _ n _ rfl (Co.alloc _) ⟨wr.heap.size,0,none⟩ 1 1 [.string (bs part)] rfl rfl (by intro j u hj;rw[add_plain,E8];exact(Dx▸hj)) (by simp[Value.oneCell']) (by unfold maxLen;omega) (by omega) (by have:=HB.size;rw[Ar];omega) ?_;intro v' w5 hown AJ _ _;obtain⟨g',cap',rfl⟩:=ownsRow_succ hown;have Sz:=Hi hown;have P5:=Hi AJ;clear hown AJ);have Cy:=Hi ((HB.alloc HB.size (.cells #[.string (bs part)] 9)).grown P5 (by rw[Ar];have:=HB.size;omega) (fun j hj=>Ap.Ec Co hj));go_roundw
    case rel=>exact⟨i+1,n+1,i+1,some ⟨g',0,none⟩,cap',by omega,by go_num,by go_num,rfl,by rw[HG.1,Az,←HN.out];rfl,by rw[HG.1,show ∀ a b,strCells (a++b)=strCells a++strCells b from fun a b=>by unfold strCells;rw[D6],show strCells [part]=[.string (bs part)] by unfold strCells;rfl];exact Sz.out,Cy,fun _=>HG.2⟩
    case measure=>simp[intOf];omega
   ·have HG:=Hi (asL hlt Xq Ct)
    have h32:((s[i].toNat:Int) == 32)=false:=EH.2 (fun e=>Ct (by
     apply UInt8.toNat_inj.1;have e2:(32:UInt8).toNat=32:=rfl;rw[e2];omega))
    generalize s[i]=x at*;clear hf Xq Ag hb hn Ct hcut;go_wp2;go_roundw
    case rel=>exact⟨i+1,n,fr,q,c,by omega,by go_num,rfl,rfl,by rw[HG.1];exact HN.out,by rw[HG.1];exact Co.out,HB,fun _=>HG.2⟩
    case measure=>simp[intOf];omega
  ·by_cases heq:i=s.length
   ·subst heq;have Xq:=hf (Ae _);have hfi:fr≤s.length:=(by omega);have hcut:∀ W,(Instr.slice 9 (.string (bs s)) (some (.int .i64 (fr:Int))) (some (.int .i64 (s.length:Int))) none).run prog W=.ok (.string (bs ((s.take s.length).drop fr))) W:=fun W=>Y4 _ _ _ underlying9 s fr s.length hfi (Ae _)
    have HG:=Hi (asJ Xq);generalize (s.take s.length).drop fr=part at*;clear hf Xq Ag hb hn;go_wp2_with (at_builtin;refine wpList_append_own_at _ rfl _ _ 61 rfl w0.heap.size 9 i0 _ 1 16 underlying61 Bg AX AY Ba rfl (by decide) _ n _ rfl (Co.alloc _) ⟨wr.heap.size,0,none⟩ 1 1 [.string (bs part)] rfl rfl (by intro j u hj;rw[add_plain,E8];exact(Dx▸hj)) (by simp[Value.oneCell']) (by unfold maxLen;omega) (by omega) (by have:=HB.size;rw[Ar];omega) ?_;intro v' w5 hown AJ _ _;obtain⟨g',cap',rfl⟩:=ownsRow_succ hown;have Sz:=Hi hown;have P5:=Hi AJ;clear hown AJ);have Cy:=Hi ((HB.alloc HB.size (.cells #[.string (bs part)] 9)).grown P5 (by rw[Ar];have:=HB.size;omega) (fun j hj=>Ap.Ec Co hj));go_roundw
    case rel=>exact⟨s.length+1,n+1,s.length+1,some ⟨g',0,none⟩,cap',by omega,by go_num,by go_num,rfl,by rw[HG.out,Az,←HN.out];rfl,by rw[HG.out,show ∀ a b,strCells (a++b)=strCells a++strCells b from fun a b=>by unfold strCells;rw[D6],show strCells [part]=[.string (bs part)] by unfold strCells;rfl];exact Sz.out,Cy,fun h=>by omega⟩
    case measure=>first|(simp[intOf];done)|(simp[intOf];omega)
   ·obtain rfl:i=s.length+1:=(by omega);have IG:NF s (s.length+1)=parts s:=(by unfold NF;rw[Aa (by omega)]);rw[IG] at Ag hn;subst hn;have EB:¬ ((s.length:Int)+1)≤(s.length:Int):=(by omega);have il:=Hi (Ap.I6 (show Ap.Bq wr w0.heap.size (.slice q (parts s).length c) (parts s) from Ag));have Ak:=Hi hb;clear hf Ag hb IG Co HB HN hlt heq hi;by_cases h3:(parts s).length=3
    ·obtain⟨x,a,b,Ol⟩:∃ x a b,parts s=[x,a,b]:=by
      match hp:parts s with
      |[a,b,c]=>exact⟨a,b,c,rfl⟩
      |[]=>rw[hp] at h3;simp at h3
      |[a]=>rw[hp] at h3;simp at h3
      |[a,b]=>rw[hp] at h3;simp at h3
      |a :: b :: c :: d :: l=>rw[hp] at h3;simp at h3
     have HTR:=Hi (aAs Ol);have Yv:=Hi (IV a (by rw[Ol];simp));have mU:=Hi (IV b (by rw[Ol];simp))
     have HE:=Hi (fun(V:World) (hV:Bw wr V)=>show ∃ p:Addr,q=some p∧V.cell? (p.add 1)=some (.string (bs a))∧V.cell? (p.add 2)=some (.string (bs b)) from by
      have Lj:=il.below hV;rw[Ol] at Lj;obtain⟨p1,q1,r1⟩:=Lj 1 (by simp);obtain⟨p2,q2,r2⟩:=Lj 2 (by simp);subst q1;cases q2;exact⟨p1,rfl,r1,r2⟩)
     obtain⟨p,rfl,-,-⟩:=HE wr (Ah _ _)
     have R9:=Hi (fun(V:World) (hV:Bw wr V)=>show V.cell? (p.add 1)=some (.string (bs a))∧V.cell? (p.add 2)=some (.string (bs b)) from by
      obtain⟨p',e,h1,h2⟩:=HE V hV;cases e;exact⟨h1,h2⟩)
     rw[Ol];have Ry:([x,a,b]:List T).length=3:=rfl;simp only[Ry];have qP:∀ W,(Instr.indexAt 61 (.slice (some p) 3 c) (.int .i64 1)).run prog W=.ok (.pointer (some (p.add 1))) W:=fun W=>by
      have h:=IM prog 61 9 underlying61 1 (by kernel_rfl) p 3 c 1 (by omega) W;exact h
     have Oz:∀ W,(Instr.indexAt 61 (.slice (some p) 3 c) (.int .i64 2)).run prog W=.ok (.pointer (some (p.add 2))) W:=fun W=>by
      have h:=IM prog 61 9 underlying61 1 (by kernel_rfl) p 3 c 2 (by omega) W;exact h
     clear Ol h3 il HE IV JH;obtain⟨p1,EC⟩:=ex (p.add 1);obtain⟨p2,Jp⟩:=ex (p.add 2);rw[EC,Jp] at R9;rw[EC] at qP;rw[Jp] at Oz;clear EC Jp;generalize wr=w2 at*;have Zz:({ data:=#[45] }:ByteArray)=bs [45]:=rfl;have Ph:=Hi (fun W=>amv a W (by have:=Yv.out;omega));have U5:=Hi (fun W=>amv b W (by have:=mU.out;omega));have HGA:=Hi (fun h:a≠[45]=>(zO a h).1);have aD:=Hi (fun h:b≠[45]=>(zO b h).1);have wF:=Hi (show(D8 a).length≤1000000∧(D8 b).length≤1000000 from⟨by have:=ah5 a;have:=Yv.out;omega,by have:=ah5 b;have:=mU.out;omega⟩);have gN:=Hi (show D8 [45]=[] from rfl);go_wp2
     go_loopw [7] (fun kv wr=>apD w2 s a b kv wr) (fun kv _=>5 -(intOf kv).toNat)
     case atStart=>exact⟨1,by omega,by omega,rfl,Ah _ _,fun j h1 h2=>by omega⟩
     case round=>
      obtain⟨k,EX,qW,rfl,hb,Cv⟩:=hrel;have HB:=Hi hb;have DJ:=Hi Cv;by_cases jP:k≤4
      ·have hle:(k:Int)≤4:=(by omega);have Jj:=AV wr (.cells #[.int .u8 (k:Int),.string { data:=#[] },.string { data:=#[] }] 23);have Et:=AP wr (.cells #[.int .u8 (k:Int),.string { data:=#[] },.string { data:=#[] }] 23);obtain⟨U,hU⟩:∃ U,wr.alloc (.cells #[.int .u8 (k:Int),.string { data:=#[] },.string { data:=#[] }] 23)=U:=⟨_,rfl⟩;rw[hU] at Jj Et;have c1:U.cell? ⟨wr.heap.size,1,none⟩=some (.string { data:=#[] }):=cr Et;have c2:U.cell? ⟨wr.heap.size,2,none⟩=some (.string { data:=#[] }):=cr Et;have f1:=Cu _ _ 1 _ _ Et;have f2:=Cu _ _ 2 _ _ Et;have mP:=Hi (show w2.heap.size≤wr.heap.size from hb.size);have N7:=Cf U wr.heap.size 1 _ _ (.string { data:=#[] }) Et;have P7:=Hi (show((U.setCell ⟨wr.heap.size,1,none⟩ (.string { data:=#[] })).setCell ⟨wr.heap.size,2,none⟩ (.string { data:=#[] })).heap[wr.heap.size]?=some (.cells #[.int .u8 (k:Int),.string { data:=#[] },.string { data:=#[] }] 23) from Cf _ _ 2 _ _ _ N7);have De:=Hi (((bT hb Jj).setCell (p:=⟨wr.heap.size,1,none⟩) mP (.string { data:=#[] })).setCell (p:=⟨wr.heap.size,2,none⟩) mP (.string { data:=#[] }));obtain⟨Y,hY⟩:∃ Y,(U.setCell ⟨wr.heap.size,1,none⟩ (.string { data:=#[] })).setCell ⟨wr.heap.size,2,none⟩ (.string { data:=#[] })=Y:=⟨_,rfl⟩;rw[hY] at P7 De;obtain⟨e1,-⟩:=R9 Y De.out;clear hb Cv Jj Et N7;by_cases ha:a=[45]
       case' pos=>
        have hq:(a == [45])=true:=beq_iff_eq.2 ha;have SC:=Hi (show Y.heap[wr.heap.size]?=some (.cells #[.int .u8 (k:Int),.string (bs (D8 a)),.string { data:=#[] }] 23) from by rw[ha,gN.out];exact P7.out);have Yk:=Hi De.out;clear ha;go_upto_region 17 with fail
        clear hY hU e1 P7 De c1 c2 f1 f2;clear U;generalize Y=V1 at*
       case' neg=>
        have hq:(a == [45])=false:=EH.2 ha;have xG:=Hi (Ph Y);rw[HGA ha] at xG;clear ha;go_wp2_with fail;refine xG.mono ?_;rintro e w5⟨rfl,Bo⟩;have Tx:=(Bo.block wr.heap.size (Dm.1 P7).1).trans P7.out;have d1:w5.cell? ⟨wr.heap.size,1,none⟩=some (.string { data:=#[] }):=cr Tx;have g1:=Cu _ _ 1 _ _ Tx;have SC:=Hi (show(w5.setCell ⟨wr.heap.size,1,none⟩ (.string (bs (D8 a)))).heap[wr.heap.size]?=some (.cells #[.int .u8 (k:Int),.string (bs (D8 a)),.string { data:=#[] }] 23) from Cf _ _ 1 _ _ _ Tx);have Yk:=Hi (show Bw w2 (w5.setCell ⟨wr.heap.size,1,none⟩ (.string (bs (D8 a)))) from(bT De Bo).setCell (p:=⟨wr.heap.size,1,none⟩) mP _);clear Bo Tx;go_upto_region 17 with fail
        clear d1 g1 xG hY hU e1 P7 De c1 c2 f1 f2;clear U;generalize w5.setCell ⟨wr.heap.size,1,none⟩ (.string (bs (D8 a)))=V1 at*
       all_goals
        obtain⟨-,e2⟩:=R9 V1 Yk.out;clear hq;by_cases Ad:b=[45]
        case' pos=>
         have hq:(b == [45])=true:=beq_iff_eq.2 Ad;have Og:=Hi (show V1.heap[wr.heap.size]?=some (.cells #[.int .u8 (k:Int),.string (bs (D8 a)),.string (bs (D8 b))] 23) from by rw[Ad,gN.out];exact SC.out);have vO:=Hi Yk.out;clear Ad;go_upto_region 19 with fail
         clear SC Yk e2;generalize V1=V2 at*
        case' neg=>
         have hq:(b == [45])=false:=EH.2 Ad;have WQ:=Hi (U5 V1);rw[aD Ad] at WQ;clear Ad;go_wp2_with fail;refine WQ.mono ?_;rintro e w6⟨rfl,Cb⟩;have OH:=(Cb.block wr.heap.size (Dm.1 SC).1).trans SC.out;have d2:w6.cell? ⟨wr.heap.size,2,none⟩=some (.string { data:=#[] }):=cr OH;have g2:=Cu _ _ 2 _ _ OH;have Og:=Hi (show(w6.setCell ⟨wr.heap.size,2,none⟩ (.string (bs (D8 b)))).heap[wr.heap.size]?=some (.cells #[.int .u8 (k:Int),.string (bs (D8 a)),.string (bs (D8 b))] 23) from Cf _ _ 2 _ _ _ OH);have vO:=Hi (show Bw w2 (w6.setCell ⟨wr.heap.size,2,none⟩ (.string (bs (D8 b)))) from(bT Yk Cb).setCell (p:=⟨wr.heap.size,2,none⟩) mP _);clear Cb OH;go_upto_region 19 with fail
         clear d2 g2 WQ SC Yk e2;generalize w6.setCell ⟨wr.heap.size,2,none⟩ (.string (bs (D8 b)))=V2 at*
        all_goals
         clear hq;have d0:V2.cell? ⟨wr.heap.size,0,none⟩=some (.int .u8 (k:Int)):=cr Og.out;have d1:V2.cell? ⟨wr.heap.size,1,none⟩=some (.string (bs (D8 a))):=cr Og.out;have d2:V2.cell? ⟨wr.heap.size,2,none⟩=some (.string (bs (D8 b))):=cr Og.out;have mY:=Hi (ama (k,D8 a,D8 b) V2 (by show k≤255;omega) wF.1 wF.2);have YC:=Hi (fun h:Gs (k,D8 a,D8 b)=s=>(alX s (k,D8 a,D8 b)).2 ⟨⟨EX,jP⟩,h⟩)
         have Dh:=Hi (fun(h:Gs (k,D8 a,D8 b)≠s) j (h1:1≤j) (h2:j < k+1)=>show Gs (j,D8 a,D8 b)≠s from by
          by_cases e:j=k
          ·rw[e];exact h
          ·exact DJ j h1 (by omega))
         generalize Gs (k,D8 a,D8 b)=ln at*;go_wp2_with fail;refine mY.mono ?_;rintro e w8⟨rfl,Ji⟩;have XR:=(Ji.block wr.heap.size (Dm.1 Og).1).trans Og.out;have Kw:=bH vO Ji;clear d0 d1 d2 Ji mY;by_cases hl:ln=s
         ·have heq:(ln == s)=true:=beq_iff_eq.2 hl;have HR:=Hi (YC hl);have d0:w8.cell? ⟨wr.heap.size,0,none⟩=some (.int .u8 (k:Int)):=cr XR;have d1:w8.cell? ⟨wr.heap.size,1,none⟩=some (.string (bs (D8 a))):=cr XR;have d2:w8.cell? ⟨wr.heap.size,2,none⟩=some (.string (bs (D8 b))):=cr XR;have hx:=HX w8 (bT Ak Kw);unfold JV at hx;have c0:w8.cell? ⟨w.heap.size,0,none⟩=some (.int .u8 0):=cr hx;have c1:w8.cell? ⟨w.heap.size,1,none⟩=some (.string { data:=#[] }):=cr hx;have c2:w8.cell? ⟨w.heap.size,2,none⟩=some (.string { data:=#[] }):=cr hx;have f0:=Cu _ _ 0 _ _ hx;have f1:=Cu _ _ 1 _ _ hx;have f2:=Cu _ _ 2 _ _ hx;have HZ:=Hi (bu (a2:=.int .u8 (k:Int)) (b2:=.string (bs (D8 a))) (c2:=.string (bs (D8 b))) hx);have Gw:=Hi (AR.trans ((bT Ak Kw).mono AR.size));clear hl hx XR;go_wp2_with fail;refine EI (v:=.tuple #[.agg #[.int .u8 (k:Int),.string (bs (D8 a)),.string (bs (D8 b))],.int .i64 0]) (eP results8 _ _ w.heap.size _ _ _ rfl HZ.1) rfl ⟨?_,Cq Gw HZ.2 (fun i e=>Nat.le_of_eq e.symm) Gw.size⟩;unfold JN Nc;rw[HR.out];rfl
         ·have heq:(ln == s)=false:=EH.2 hl;have LZ:=Hi (Dh hl);clear hl XR Dh;go_wp2;go_roundw
          case rel=>exact⟨k+1,by omega,by omega,by go_num,Kw,LZ⟩
          case measure=>simp[intOf];omega
      ·obtain rfl:k=5:=(by omega);have hle:¬ ((5:Nat):Int)≤4:=by omega
       have HR:=Hi (show DF s=none from by
        rw[←HTR.out];unfold UO UO UO UO UO;rw[Aa (Cv 1 (by omega) (by omega)),Aa (Cv 2 (by omega) (by omega)),Aa (Cv 3 (by omega) (by omega)),Aa (Cv 4 (by omega) (by omega))])
       have hx:=HX wr (bT Ak hb);unfold JV at hx;have c0:wr.cell? ⟨w.heap.size,0,none⟩=some (.int .u8 0):=cr hx;have c1:wr.cell? ⟨w.heap.size,1,none⟩=some (.string { data:=#[] }):=cr hx;have c2:wr.cell? ⟨w.heap.size,2,none⟩=some (.string { data:=#[] }):=cr hx;have f0:=Cu _ _ 0 _ _ hx;have f1:=Cu _ _ 1 _ _ hx;have f2:=Cu _ _ 2 _ _ hx;have HZ:=Hi (bu (a2:=.int .u8 0) (b2:=.string { data:=#[] }) (c2:=.string { data:=#[] }) hx);have Gw:=Hi (AR.trans ((bT Ak hb).mono AR.size));clear hx Cv hb;go_wp2_with fail;refine EI (v:=.tuple #[.agg #[.int .u8 0,.string { data:=#[] },.string { data:=#[] }],.int .i64 7]) (eP results8 _ _ w.heap.size 0 _ _ rfl HZ.1) rfl ⟨?_,Cq Gw HZ.2 (fun i e=>Nat.le_of_eq e.symm) Gw.size⟩;unfold JN Nc;rw[HR.out];rfl
    ·have hne:(((parts s).length:Int) == 3)=false:=EH.2 (by omega);have hx:=HX wr Ak.out;unfold JV at hx;have c0:wr.cell? ⟨w.heap.size,0,none⟩=some (.int .u8 0):=cr hx;have c1:wr.cell? ⟨w.heap.size,1,none⟩=some (.string { data:=#[] }):=cr hx;have c2:wr.cell? ⟨w.heap.size,2,none⟩=some (.string { data:=#[] }):=cr hx;have f0:=Cu _ _ 0 _ _ hx;have f1:=Cu _ _ 1 _ _ hx;have f2:=Cu _ _ 2 _ _ hx;have HZ:=Hi (bu (a2:=.int .u8 0) (b2:=.string { data:=#[] }) (c2:=.string { data:=#[] }) hx);have HR:=Hi (alU h3);have gm:=bH AR Ak;clear h3 hx;generalize parts s=L at*;go_wp2_with fail;refine EI (v:=.tuple #[.agg #[.int .u8 0,.string { data:=#[] },.string { data:=#[] }],.int .i64 7]) (eP results8 _ _ w.heap.size 0 _ _ rfl HZ.1) rfl ⟨?_,Cq gm HZ.2 (fun i e=>Nat.le_of_eq e.symm) gm.size⟩;unfold JN Nc;rw[HR.out];rfl
end ER
namespace ER
open Go.RowKit Go.Maps
open Aq Af Bu Kp BM Hex BD Al Mem Cg IC Hv
open Ap hiding T
structure Lf(w w':World):Prop where
 row:∀ base t s v n cs,t∉kL→w.ownsRow base t s v n cs→w'.ownsRow base t s v n cs
section
variable {B:Nat}{w0 w w1 w' W:World}{b y n N pm pd:Nat}{A:M}{L:List (Nat×Obj)}
theorem Lf.upd{bl:Nat→Prop}(hu:A7 (Ig w bl) w w'):Lf w w':=⟨fun _ _ _ _ _ _ ht h=>BH h hu (fun _ hg e=>e.not (CB h hg) ht)⟩
theorem Lf.below(hb:Bw w w'):Lf w w':=⟨fun _ _ _ _ _ _ _ h=>BH h (ub hb) (fun _ _ f=>f)⟩
theorem Lf.trans(h:Lf w w1)(k:Lf w1 w'):Lf w w':=⟨fun a t s v m cs ht r=>k.row a t s v m cs ht (h.row a t s v m cs ht r)⟩
theorem Lf.br{base:Nat}{v:Value}{l:List (Nat×T×T)}(h:Lf w w')(hr:LQ w base v l):LQ w' base v l:=h.row _ _ _ _ _ _ (by decide) hr
theorem axh(h:ES B w0 w b y n N A L)(hN:N+2 < 1000000000)(hn:n≤200)(hm:(pm,GG y)∈L)(hd:(pd,Gy y)∈L):
  Calls prog 20 #[.pointer (some ⟨pm,0,none⟩),.pointer (some ⟨pd,0,none⟩)] w fun e w'=>e=.returned (.tuple #[.int .i64 ((GQ both A).length:Int),.int .i64 ((LD both A).length:Int),.int .i64 0])∧ES B w0 w' b y n (N+2) (OM both A) L∧Lf w w':=by
 obtain⟨bl,h1,h2,h3⟩:=h.pick;refine(as5 h1 hN (Ay (kU h).2.2 (amc hn)) (h.at_ _ _ hm) (h.at_ _ _ hd)).mono ?_;rintro e w'⟨c,rfl,hc,hu,CP,RF,hs⟩;rcases RF with⟨rfl,hok⟩|⟨e,_⟩
 ·exact⟨by rw[ed,ed],(h3 ⟨CP,hok,hu,hs⟩).1,Lf.upd hu⟩
 ·cases e
theorem axg{a:Option Addr}{cap:Nat}{l:List Am}(h:ES B w0 w b y n N A L)(hN:N < 1000000000)(hL:Ew w a l)(hlen:l.length≤100000)(hw:F8 l≤900000):
  Calls prog 17 #[.pointer (some ⟨y,0,none⟩),.slice a l.length cap] w fun e w'=>e=.returned (.int .i64 (Fy n A l))∧ES B w0 w' b y n (N+1) (Es n A l) L∧Lf w w':=by
 obtain⟨bl,h1,h2,h3⟩:=h.pick;refine(asn h1 hN hL hlen hw).mono ?_;rintro e w'⟨rfl,CP,g1,g2,g3⟩;exact⟨rfl,(h3 ⟨CP,g1,g2,g3⟩).1,Lf.upd g2⟩
theorem axi(h:ES B w0 w b y n N A L)(hn:n≤200)(hm:(pm,GG y)∈L)(hd:(pd,Gy y)∈L)(hW:Bw w W):
  Calls prog 18 #[.pointer (some ⟨pm,0,none⟩),.pointer (some ⟨pd,0,none⟩)] W fun e w'=>∃ v,e=.returned (.tuple #[v,.int .i64 0])∧LQ w' W.heap.size v (MM both A)∧Bw W w':=
 ac4 (show GN W pm y from(h.step hW).at_ _ _ hm) (show Fx W pd y from(h.step hW).at_ _ _ hd) (abZ (h.step hW)) (akT h hn)
theorem ac0(h:ES B w0 w b y n N A L)(hn:n≤200)(hm:(pm,GG y)∈L)(hd:(pd,Gy y)∈L)(hW:Bw w W):
  Calls prog 14 #[.pointer (some ⟨pm,0,none⟩),.pointer (some ⟨pd,0,none⟩)] W fun e w'=>e=.returned (.bool (decide (Vr both A)))∧Bw W w':=
 azR (show GN W pm y from(h.step hW).at_ _ _ hm) (show Fx W pd y from(h.step hW).at_ _ _ hd) (abZ (h.step hW)) (akT h hn)
end
theorem asC:aeL 100 M9 ND []:=
 ⟨by decide,by decide,by decide,by decide,by decide,by decide,by decide,by decide,by decide,by decide⟩
def adB:Prop:=∀ w,Vm w→Calls prog 6 #[] w fun e w'=>e=.returned (.bool true)∧Bw w w'
end ER
namespace IC
open Go.RowKit Go.Maps
open Aq Af Ap Bu Kp BM Hex BD Al Mem Cg
end IC
namespace Hv
open Go.RowKit Go.Maps
open Aq Af Bu Kp BM Hex BD Al Mem Cg IC
open Ap hiding T
theorem axY{w:World}(l:M)(hl:l.length≤1000){cs:Array Value}(hc:cs=(Dn l).toArray){g:Nat}(hg:w.heap.size=g):BK (w.alloc (.cells cs 51)) w.heap.size (.slice (some ⟨g,0,none⟩) l.length l.length) l:=by
 subst hc hg;have:=World.ownsRow_lit (base:=w.heap.size) (e:=51) (size:=2) w (Dn l).toArray l.length (Ae _) (by unfold maxLen;omega) (by simp[bD]);exact this
theorem aAW{w:World}(L:List (T×Value))(us:Us)(hl:L.length≤1000)(hlen:L.length=us.length)(he:∀ i (h:i < L.length) (h2:i < us.length),L[i].1=us[i].1∧Ap.Bq w 0 L[i].2 us[i].2){cs:Array Value}(hc:cs=(UQ L).toArray){g:Nat}(hg:w.heap.size=g)(BJ:(UQ L).length=L.length*2):iD (w.alloc (.cells cs 63)) 0 (.slice (some ⟨g,0,none⟩) L.length L.length) us L:=by
 subst hc hg;have:=World.ownsRow_lit (base:=0) (e:=63) (size:=2) w (UQ L).toArray L.length (AZ _) (by unfold maxLen;omega) (by simp[BJ]);exact⟨this,hlen,fun i h h2=>⟨(he i h h2).1,Ch (he i h h2).2 (AV w _)⟩⟩
end Hv
namespace ER
open Go.RowKit Go.Maps
open Aq Af Bu Kp BM Hex BD Al Mem Cg IC Hv
open Ap hiding T
theorem asB(w:World){W1 W2 W3:World}(h1:W1=w.alloc (.cells #[.string (bs [97]),.string (bs [49])] 51))
  (h2:W2=W1.alloc (.cells #[.string (bs [97])] 9))(h3:W3=W2.alloc (.cells #[.string (bs [114]),.slice (some ⟨w.heap.size+1,0,none⟩) 1 1] 63)):
  Bj W3 (some ⟨w.heap.size,0,none⟩) M9∧Ro W3 (some ⟨w.heap.size+1+1,0,none⟩) ND∧Bw w W3:=by
 have s1:W1.heap.size=w.heap.size+1:=by rw[h1];exact Ar _ _
 have s2:W2.heap.size=w.heap.size+1+1:=by rw[h2,Ar,s1]
 have b1:Bw w W1:=by rw[h1];exact AV _ _
 have b2:Bw W1 W2:=by rw[h2];exact AV _ _
 have b3:Bw W2 W3:=by rw[h3];exact AV _ _
 have r1:BK W1 w.heap.size (.slice (some ⟨w.heap.size,0,none⟩) 1 1) M9:=by rw[h1];exact axY (cs:=#[.string (bs [97]),.string (bs [49])]) M9 (by decide) (by unfold Dn M9;rfl) rfl
 have r2:Ap.Bq W2 0 (.slice (some ⟨w.heap.size+1,0,none⟩) 1 1) [[97]]:=by rw[h2];exact aws (n:=1) (AZ _) [[97]] (by decide) #[.string (bs [97])] (by unfold strCells;rfl) s1 rfl
 have r4:iD W3 0 (.slice (some ⟨w.heap.size+1+1,0,none⟩) 1 1) ND [([114],.slice (some ⟨w.heap.size+1,0,none⟩) 1 1)]:=by
  rw[h3];refine aAW [([114],.slice (some ⟨w.heap.size+1,0,none⟩) 1 1)] ND (by simp) rfl (fun i h h2=>?_) rfl s2 rfl
  match i,h with
  |0,_=>exact⟨rfl,r2⟩
 exact⟨((Bj.D9 r1).below b2).below b3,iD.at_ r4,(bT b1 b2).trans (b3.mono (by omega))⟩
theorem R3.below{w w':World}{q:Addr}{c:Nat×T×T}(h:R3 w q c)(hb:Bw w w'):R3 w' q c:=h.upd (ub hb) (fun f=>f)
theorem asH{W:World}(nm:T){g:Nat}(hg:W.heap.size=g):Ew (W.alloc (.cells #[.string (bs nm),.string { data:=#[120] },.bool false] 57)) (some ⟨g,0,none⟩) [⟨nm,[120],false⟩]:=by
 subst hg;exact yJ (c:=⟨nm,[120],false⟩) (AP W _)
theorem apF:adB:=fun w Uy=>by
 obtain⟨hL,hU,hB⟩:=asB w rfl rfl rfl;have U0:=Hi (awE (cap:=1) (uc:=1) (fc:=0) (fa:=none) (fs:=[]) asC hL hU (fun i hi=>by simp at hi) (by simp));have AR:=Hi hB;have WI:=Hi Uy;clear hL hU hB Uy
 go_in
 go_wp2_with fail;refine U0.mono ?_;rintro e w1⟨b,y,p,d,r,xb,rfl,hk⟩;rw[asD] at hk;have Yt:=Hi (ES.lower hk AR AR.size);clear hk U0 AR;have HC:Hid (∀ (W:World) (N:Nat) (A:M) (L:List (Nat×Obj)),ES w.heap.size w W b y 100 N A L→(xb,JL y p d r)∈L→W.cell? ⟨xb,0,none⟩=some (.pointer (some ⟨y,0,none⟩))∧W.cell? ⟨xb,1,none⟩=some (.pointer (some ⟨p,0,none⟩))∧W.cell? ⟨xb,2,none⟩=some (.pointer (some ⟨d,0,none⟩))):=Hi fun W N A L h DV=>by
  have h0:=h.cell (k:=xb) (t:=47) DV 0;have h1:=h.cell (k:=xb) (t:=47) DV 1;have h2:=h.cell (k:=xb) (t:=47) DV 2;exact⟨h0,h1,h2⟩
 obtain⟨x0,x1,x2⟩:=HC _ _ _ _ Yt (by simp);have Qh:=Hi (fun(W:World) (hW:Bw w1 W)=>ac0 Yt (by omega) (show(p,GG y)∈_ by simp) (show(d,Gy y)∈_ by simp) hW);rw[OT asG] at Qh;have HNA:=Hi (fun(W:World)=>sV [97] W (by decide))
 have OY:=Hi (fun(W:World) (N:Nat) (L:List (Nat×Obj)) (hk:ES w.heap.size w W b y 100 N Ij L) (hN:N < 1000) (g:Nat) (hg:W.heap.size=g)=>show Calls prog 17 #[.pointer (some ⟨y,0,none⟩),.slice (some ⟨g,0,none⟩) 1 1] (W.alloc (.cells #[.string (bs IY),.string { data:=#[120] },.bool false] 57)) fun e w'=>e=.returned (.int .i64 0)∧ES w.heap.size w w' b y 100 (N+1) EU L∧Lf W w' from by
  have h:=axg (cap:=1) (hk.step (AV W _)) (by omega) (asH IY hg) (by simp) (by show 8+IY.length+1+0≤_;rw[pI];omega);rw[agJ.1,agJ.2] at h;refine h.mono ?_;rintro e w'⟨rfl,h1,h2⟩;exact⟨rfl,h1,(Lf.below (AV W _)).trans h2⟩)
 have Bl:({ data:=#[97] }:ByteArray)=bs [97]:=rfl;have HNB:=Hi (fun(W:World)=>show Calls prog 15 #[.string (bs [97])] W fun e w'=>e=.returned (.string (bs IY))∧Bw W w' from HNA W);go_upto_region 2 with fail
 go_cut [51] from 23 to 50 (fun s51 wx=>s51=.bool false∧ES w.heap.size w wx b y 100 4 EU [(xb,JL y p d r),(d,Gy y),(p,GG y)])
 case first=>
  go_region_held3 (fun V=>V.cell? ⟨xb,0,none⟩=some (.pointer (some ⟨y,0,none⟩))∧V.cell? ⟨xb,1,none⟩=some (.pointer (some ⟨p,0,none⟩))∧V.cell? ⟨xb,2,none⟩=some (.pointer (some ⟨d,0,none⟩)))
   (first|exact⟨x0,x1,x2⟩|exact HC _ _ _ _ aG (by simp)|exact HC _ _ _ _ (Sv.step (AV _ _)) (by simp)|exact HC _ _ _ _ Sv (by simp)|exact HC _ _ _ _ P6 (by simp))
   (first
    |(go_at_call 14;refine(Qh _ ((Ah _ _).drew)).mono ?_;rintro e w2 ⟨rfl,Ad⟩;have P6:=Hi (Yt.step (((Ah _ w1).drew).trans Ad));clear Ad)
    |(go_at_call 15;refine(HNB _).mono ?_;rintro e w3 ⟨rfl,Aw⟩;have Sv:=Hi (P6.step Aw);clear Aw)
    |(go_at_call 17;refine(OY _ _ _ Sv (by omega) _ rfl).mono ?_;rintro e w4 ⟨rfl,jP,UB⟩;have aG:=Hi jP;clear jP UB))
  go_wp2_with fail;go_meet
  case rel=>exact⟨rfl,aG⟩
 case rest=>
  obtain⟨rfl,hk⟩:=hcut;have mQ:=Hi hk;obtain⟨y0,y1,y2⟩:=HC _ _ _ _ hk (by simp);have DY:=kU hk;have Sy:=Hi (show BM.May 100 EU from⟨DY.1,DY.2.1,DY.2.2⟩);have FK:=Hi (fun(W:World) (hW:Bw wc W)=>axi mQ (by omega) (show(p,GG y)∈_ by simp) (show(d,Gy y)∈_ by simp) hW);rw[asu] at FK;clear hk DY x0 x1 x2 Qh HNA OY;go_upto_region 4 with fail
  go_region_held3 (fun V=>V.cell? ⟨xb,1,none⟩=some (.pointer (some ⟨p,0,none⟩))∧V.cell? ⟨xb,2,none⟩=some (.pointer (some ⟨d,0,none⟩)))
   (first|exact⟨y1,y2⟩|exact(HC _ _ _ _ Yu (by simp)).2)
   (first|(go_at_call 18;refine(FK _ ((Ah _ _).drew)).mono ?_;rintro e w5 ⟨v5,rfl,MV,Bo⟩;obtain⟨q5,c5,rfl⟩:=Bp MV;have M3:=Hi MV;have Cy:=Hi (((Ah _ wc).drew).trans Bo);have Yu:=Hi (mQ.step Cy);clear MV Bo))
  clear FK y0 y1 y2;obtain⟨y0,y1,y2⟩:=HC _ _ _ _ Yu (by simp);have Rf:=Hi (fun(W:World) (hW:Bw w5 W)=>ac0 Yu (by omega) (show(p,GG y)∈_ by simp) (show(d,Gy y)∈_ by simp) hW);rw[decide_eq_false asz] at Rf;go_upto_region 5 with fail
  go_region_held3 (fun V=>V.cell? ⟨xb,1,none⟩=some (.pointer (some ⟨p,0,none⟩))∧V.cell? ⟨xb,2,none⟩=some (.pointer (some ⟨d,0,none⟩)))
   (first|exact⟨y1,y2⟩|exact(HC _ _ _ _ wJ (by simp)).2)
   (first|(go_at_call 14;refine(Rf _ ((Ah _ _).drew)).mono ?_;rintro e w6 ⟨rfl,Cb⟩;have EJ:=Hi (((Ah _ w5).drew).trans Cb);have wJ:=Hi (Yu.step EJ);clear Cb))
  clear Rf y0 y1 y2;have Ho:=Hi ((Lf.below EJ.out).br M3);obtain⟨y0,y1,y2⟩:=HC _ _ _ _ wJ (by simp)
  have HMD:=Hi (fun(W:World) (hW:Bw w6 W)=>show Calls prog 20 #[.pointer (some ⟨p,0,none⟩),.pointer (some ⟨d,0,none⟩)] W fun e w'=>e=.returned (.tuple #[.int .i64 1,.int .i64 1,.int .i64 0])∧ES w.heap.size w w' b y 100 6 (OM both EU) [(xb,JL y p d r),(d,Gy y),(p,GG y)]∧Lf w6 w' from by
   have h:=axh (wJ.step hW) (by omega) (by omega) (show(p,GG y)∈_ by simp) (show(d,Gy y)∈_ by simp);rw[asw,agD] at h;refine h.mono ?_;rintro e w'⟨rfl,h1,h2⟩;exact⟨rfl,h1,(Lf.below hW).trans h2⟩)
  go_upto_region 6 with fail
  go_region_held3 (fun V=>V.cell? ⟨xb,1,none⟩=some (.pointer (some ⟨p,0,none⟩))∧V.cell? ⟨xb,2,none⟩=some (.pointer (some ⟨d,0,none⟩)))
   (first|exact⟨y1,y2⟩|exact(HC _ _ _ _ V8 (by simp)).2)
   (first|(go_at_call 20;refine(HMD _ ((Ah _ _).drew)).mono ?_;rintro e w7 ⟨rfl,jQ,hs7⟩;have V8:=Hi jQ;have nL:=Hi (hs7.br Ho);clear jQ hs7))
  clear HMD y0 y1 y2;have R8:=Hi (L6.D9 nL);have hrb:JN [119,97,110,116,32,55,50,32,54,49]=(3,[114],[97]):=by decide+kernel
  have hrc:Nc [119,97,110,116,32,55,50,32,54,49]=0:=by decide+kernel
  have Ga:=Hi (fun(W:World) (hW:Bw w7 W)=>zy [119,97,110,116,32,55,50,32,54,49] W (by decide) ((WI.below V8.AQ).below hW));rw[hrb,hrc] at Ga;unfold bq at Ga;obtain⟨a0,Bg,Rq,-⟩:=R8.index c5 0 (by simp);obtain⟨a1,qP,bL,-⟩:=R8.index c5 1 (by simp);have Bg:∀ W,(Instr.indexAt 58 (.slice q5 2 c5) (.int .i64 0)).run prog W=.ok (.pointer (some a0)) W:=Bg;have qP:∀ W,(Instr.indexAt 58 (.slice q5 2 c5) (.int .i64 1)).run prog W=.ok (.pointer (some a1)) W:=qP;have HA:=Hi (fun(V:World) (hV:Bw w7 V)=>Cr (R3.below Rq hV).cells (R3.below bL hV).cells);have HS8:=Hi (fun(W:World) (hW:Bw w7 W)=>ac0 V8 (by omega) (show(p,GG y)∈_ by simp) (show(d,Gy y)∈_ by simp) hW);rw[OT (awS NA Sy)] at HS8;have Jv:=Hi (fun(W:World) (hW:Bw w7 W)=>(abZ V8).names W hW);rw[asv Sy.out] at Jv;have FR:=Hi (fun W=>p9 (3,[114],[97]) W (by decide) (by decide) (by decide));have HL9:=Hi (fun W=>p9 (9,[],[]) W (by decide) (by decide) (by decide));rw[show Gs (3,[114],[97])=[119,97,110,116,32,55,50,32,54,49] by decide+kernel] at FR;rw[show Gs (9,[],[])=[63,32,45,32,45] by decide+kernel] at HL9;clear hrb hrc Rq bL R8 M3 Ho nL;go_wp2_with fail;refine(axy _).mono ?_;rintro e w8⟨rfl,rfl⟩;go_wp2_with fail;refine(Ga _ (Ah _ _)).mono ?_;rintro e w9⟨rfl,Ez⟩;have Xh:=Ez.trans ((AV w9 (.cells #[.int .u8 3,.string (bs [114]),.string (bs [97])] 23)).mono Ez.size);have HX:=Hi (AP w9 (.cells #[.int .u8 3,.string (bs [114]),.string (bs [97])] 23))
  obtain⟨F7,XP⟩:=ex (w9.alloc (.cells #[.int .u8 3,.string (bs [114]),.string (bs [97])] 23));rw[XP] at Xh HX;have Np:=Hi Xh;clear Ez Xh
  have Bh:=Hi (fun(V:World) (hV:Bw F7 V)=>show(V.cell? ⟨xb,0,none⟩=some (.pointer (some ⟨y,0,none⟩))∧V.cell? ⟨xb,1,none⟩=some (.pointer (some ⟨p,0,none⟩))∧V.cell? ⟨xb,2,none⟩=some (.pointer (some ⟨d,0,none⟩)))∧(V.cell? a0=some (.int .u8 1)∧V.cell? ⟨a0.block,a0.off+1,none⟩=some (.string (bs IY))∧V.cell? ⟨a0.block,a0.off+2,none⟩=some (.string (bs [])))∧(V.cell? a1=some (.int .u8 3)∧V.cell? ⟨a1.block,a1.off+1,none⟩=some (.string (bs [114]))∧V.cell? ⟨a1.block,a1.off+2,none⟩=some (.string (bs [97])))∧(V.cell? ⟨w9.heap.size,0,none⟩=some (.int .u8 3)∧V.cell? ⟨w9.heap.size,1,none⟩=some (.string (bs [114]))∧V.cell? ⟨w9.heap.size,2,none⟩=some (.string (bs [97]))) from by
   have hV7:=Np.trans (hV.mono Np.size);obtain⟨q0,q1⟩:=HA V hV7;have hx:=(hV.block _ (Ao HX)).trans HX;exact⟨HC _ _ _ _ (V8.step hV7) (by simp),q0,q1,cr hx,cr hx,cr hx⟩)
  obtain⟨⟨y0,y1,y2⟩,⟨p0,p1,p2⟩,⟨r0,r1,r2⟩,s0,s1,s2⟩:=Bh F7 (Ah _ _);have AO:=Hi ((Ah F7.heap.size F7).drew);have vK:=Hi (Ah F7.heap.size F7);have HSD:=Hi (fun(V:World) (hV:Bw F7 V)=>HS8 V (bT Np hV));have ng:=Hi (fun(V:World) (hV:Bw F7 V)=>Jv V (bT Np hV));go_upto_region 9 with fail
  refine wp_region_held (S:=(fun V=>(V.cell? ⟨xb,0,none⟩=some (.pointer (some ⟨y,0,none⟩))∧V.cell? ⟨xb,1,none⟩=some (.pointer (some ⟨p,0,none⟩))∧V.cell? ⟨xb,2,none⟩=some (.pointer (some ⟨d,0,none⟩)))∧(V.cell? a0=some (.int .u8 1)∧V.cell? ⟨a0.block,a0.off+1,none⟩=some (.string (bs IY))∧V.cell? ⟨a0.block,a0.off+2,none⟩=some (.string (bs [])))∧(V.cell? a1=some (.int .u8 3)∧V.cell? ⟨a1.block,a1.off+1,none⟩=some (.string (bs [114]))∧V.cell? ⟨a1.block,a1.off+2,none⟩=some (.string (bs [97])))∧(V.cell? ⟨w9.heap.size,0,none⟩=some (.int .u8 3)∧V.cell? ⟨w9.heap.size,1,none⟩=some (.string (bs [114]))∧V.cell? ⟨w9.heap.size,2,none⟩=some (.string (bs [97]))))) (by kernel_rfl) ?_;generalize hW0:({ heap:=F7.heap,tape:=F7.tape,drawn:=F7.drawn+1,os:=F7.os,output:=F7.output }:World)=W0;have jm:F7.drew=W0:=hW0;rw[jm] at AO;clear hW0 jm y0 y1 y2 p0 p1 p2 r0 r1 r2 s0 s1 s2 XP;refine Av 0 (Bh _ AO) ?_;refine Av 1 (Bh _ AO) ?_;refine Av 2 (Bh _ AO) ?_;refine Av 3 (Bh _ AO) ?_;refine Av 4 (Bh _ AO) ?_;refine Av 5 (Bh _ AO) ?_;refine Av 6 (Bh _ AO) ?_;refine Av 7 (Bh _ AO) ?_;refine Av 8 (Bh _ AO) ?_;refine Av 9 (Bh _ AO) ?_;refine Av 10 (Bh _ AO) ?_;refine Nh 11 (fun K1 Il=>?_);go_simp;refine(HNB _).mono ?_;rintro e v1⟨rfl,JF⟩
  replace AO:=bH AO JF
  clear JF;refine Il _ _ (Bh _ AO) ?_;clear Il K1;try simp only[Act.put,np]
  refine Av 12 (Bh _ AO) ?_;refine Av 13 (Bh _ AO) ?_;refine Av 14 (Bh _ AO) ?_;refine Av 15 (Bh _ AO) ?_;refine Av 16 (Bh _ AO) ?_;refine Av 17 (Bh _ AO) ?_;refine Av 18 (Bh _ AO) ?_;refine Nh 19 (fun K2 Df=>?_);go_simp;refine(FR _).mono ?_;rintro e v2⟨rfl,JF⟩
  replace AO:=bH AO JF
  clear JF;refine Df _ _ (Bh _ AO) ?_;clear Df K2;try simp only[Act.put,np]
  refine Av 20 (Bh _ AO) ?_;refine Av 21 (Bh _ AO) ?_;refine Av 22 (Bh _ AO) ?_;refine Av 23 (Bh _ AO) ?_;refine Av 24 (Bh _ AO) ?_;refine Av 25 (Bh _ AO) ?_;refine Av 26 (Bh _ AO) ?_;refine Av 27 (Bh _ AO) ?_;refine Av 28 (Bh _ AO) ?_;refine Av 29 (Bh _ AO) ?_;refine Av 30 (Bh _ AO) ?_;refine Av 31 (Bh _ AO) ?_;refine Av 32 (Bh _ AO) ?_;refine Av 33 (Bh _ AO) ?_;refine Av 34 (Bh _ AO) ?_;refine Av 35 (Bh _ AO) ?_;refine Av 36 (Bh _ AO) ?_;refine Av 37 (Bh _ AO) ?_;refine Av 38 (Bh _ AO) ?_;refine Av 39 (Bh _ AO) ?_;refine Av 40 (Bh _ AO) ?_;refine Av 41 (Bh _ AO) ?_;refine Av 42 (Bh _ AO) ?_;refine Av 43 (Bh _ AO) ?_;refine Av 44 (Bh _ AO) ?_;refine Av 45 (Bh _ AO) ?_;refine Av 46 (Bh _ AO) ?_;refine Nh 47 (fun K3 Pw=>?_);go_simp;refine(HSD _ AO).mono ?_;rintro e v3⟨rfl,JF⟩
  replace AO:=bH AO JF
  clear JF;refine Pw _ _ (Bh _ AO) ?_;clear Pw K3;try simp only[Act.put,np]
  refine Av 48 (Bh _ AO) ?_;refine Av 49 (Bh _ AO) ?_;refine Av 50 (Bh _ AO) ?_;refine Av 51 (Bh _ AO) ?_;refine Av 52 (Bh _ AO) ?_;refine Av 53 (Bh _ AO) ?_;refine Nh 54 (fun K4 jd=>?_);go_simp;refine(ng _ AO).mono ?_;rintro e v4⟨vn,rfl,VO,JF,-⟩;obtain⟨qn,cn,rfl⟩:=Bp VO;clear VO
  replace AO:=bH AO JF
  clear JF;refine jd _ _ (Bh _ AO) ?_;clear jd K4;try simp only[Act.put,np]
  refine Av 55 (Bh _ AO) ?_;refine Av 56 (Bh _ AO) ?_;refine Av 57 (Bh _ AO) ?_;refine Av 58 (Bh _ AO) ?_;refine Av 59 (Bh _ AO) ?_;refine Av 60 (Bh _ AO) ?_;refine Av 61 (Bh _ AO) ?_;refine Av 62 (Bh _ AO) ?_;refine Av 63 (Bh _ AO) ?_;refine Av 64 (Bh _ AO) ?_;refine Av 65 (Bh _ AO) ?_;refine Av 66 (Bh _ AO) ?_;refine Av 67 (Bh _ AO) ?_;refine Av 68 (Bh _ AO) ?_;refine Av 69 (Bh _ AO) ?_;refine Av 70 (Bh _ AO) ?_;refine Av 71 (Bh _ AO) ?_;refine Av 72 (Bh _ AO) ?_;refine Av 73 (Bh _ AO) ?_;refine Av 74 (Bh _ AO) ?_;refine Nh 75 (fun K5 je=>?_);go_simp;refine(HL9 _).mono ?_;rintro e v5⟨rfl,JF⟩
  replace AO:=bH AO JF
  clear JF;refine je _ _ (Bh _ AO) ?_;clear je K5;try simp only[Act.put,np]
  refine Av 76 (Bh _ AO) ?_;refine Av 77 (Bh _ AO) ?_;refine Av 78 (Bh _ AO) ?_;refine wpAnyH_done (by kernel_rfl) ?_ _;go_wp2;go_ret;exact⟨rfl,V8.AQ.trans ((bT Np AO).mono V8.AQ.size)⟩
end ER
namespace ER
open Go.RowKit Go.Maps
open Aq Af Bu Kp BM Hex BD Al Mem Cg
open Ap hiding T
theorem awr(b:Br):(Gs b).length≤2*b.2.1.length+2*b.2.2.length+9:=by
 unfold Gs;simp only[Az,Kn];have h1:=adp b.1;have h2:=cz b.2.1;have h3:=cz b.2.2;omega
theorem ai6(s:T):s.length≤(E9 s).length:=by
 unfold E9;split
 ·rename_i h;rw[h];exact AZ _
 ·rw[Rx];omega
theorem ayD{s:T}{c:Br}(h:DF s=some c):c.1≤4∧c.2.1.length≤s.length∧c.2.2.length≤s.length∧Gs c=s:=by
 obtain⟨h1,h2⟩:=ui h;have h3:=congrArg List.length h2;unfold Gs at h3;simp only[Az,Kn] at h3;have h4:=ai6 c.2.1;have h5:=ai6 c.2.2;exact⟨h1.2,by omega,by omega,h2⟩
theorem yu{w0 V:World}{g:Nat}{x1:Int}{x2 x3:ByteArray}(h:w0.heap[g]?=some (.cells #[.int .u8 x1,.string x2,.string x3] 23))(hb:Bw w0 V):V.cell? ⟨g,0,none⟩=some (.int .u8 x1)∧V.cell? ⟨g,1,none⟩=some (.string x2)∧V.cell? ⟨g,2,none⟩=some (.string x3):=by
 have h2:=(hb.block g (Dm.1 h).1).trans h;exact⟨cr h2,cr h2,cr h2⟩
theorem asg(Rt:adB)(w:World)(Uy:Vm w)(b:Br)(s:T)(IZ:b.1≤255)(h1:b.2.1.length≤reachBytes)(h2:b.2.2.length≤reachBytes)(h3:s.length≤reachBytes):
  Calls prog 3 #[.agg #[.int .u8 (b.1:Int),.string (bs b.2.1),.string (bs b.2.2)],.string (bs s)] w fun e w'=>e=.returned (.bool true)∧Bw w w':=by
 have AR:=Hi (AV w (Ih b));have HX:=Hi (AP w (Ih b));have Nn:=Hi Rt;have WI:=Hi Uy;have HC:=Hi (fun(V:World) (hV:Below (w.alloc (Ih b)).heap.size (w.alloc (Ih b)) V)=>yn (AP w (Ih b)) hV);obtain⟨w0,ED⟩:=ex (w.alloc (Ih b));rw[ED] at AR HC HX;obtain⟨c0,c1,c2⟩:=HC _ (Ah _ _);have vJ:=Hi (show ∃ c,c=b from⟨_,rfl⟩);have hr:reachBytes≤300000000000000:=by unfold reachBytes;omega
 by_cases bW:4096 < b.2.1.length+b.2.2.length+s.length
 ·obtain⟨k,who,key⟩:=b;dsimp only at*;have hg:(4096:Int) < (who.length:Int)+(key.length:Int)+(s.length:Int):=by omega
  have Jr:IntKind.i64.wrap ((who.length:Int)+(key.length:Int))=(who.length:Int)+(key.length:Int):=Eh _ (by omega);have Kh:IntKind.i64.wrap ((who.length:Int)+(key.length:Int)+(s.length:Int))=(who.length:Int)+(key.length:Int)+(s.length:Int):=Eh _ (by omega);clear Rt Uy bW
  go_in
  unfold Ih at ED;go_wp2_with fail;refine(Nn w0 (WI.below AR)).mono ?_;rintro e w1⟨rfl,Ai⟩;have HB1:=bH AR Ai;clear Ai;go_wp2;go_ret;exact⟨rfl,HB1⟩
 ·have UB:s.length≤4096:=by omega
  have Nt:=Hi (show(Gs b).length≤100000 from by have:=awr b;omega);have HF:=Hi (fun W=>p9 b W IZ (by omega) (by omega));have HR:=Hi (fun W=>ama b W IZ (by omega) (by omega));have Ej:=Hi (fun(W:World) (hW:Bw w0 W)=>zy s W (by omega) ((WI.below AR).below hW));have DT:=Hi (fun(W:World)=>ayY s W (by omega));have Ga:=Hi (fun(W:World) (hW:Bw w0 W)=>zy (Gs b) W Nt ((WI.below AR).below hW))
  have Pb:=Hi (show(1≤b.1∧b.1≤4→JN (Gs b)=b∧Nc (Gs b)=0)∧(¬ (1≤b.1∧b.1≤4)→Nc (Gs b)=7) from by
   unfold JN Nc;rw[alZ];constructor
   ·intro h;rw[Ac h];exact⟨rfl,rfl⟩
   ·intro h;rw[Aa h];rfl)
  have Qi:=Hi (show(Nc s=0∧(JN s).1≤4∧(JN s).2.1.length≤4096∧(JN s).2.2.length≤4096∧Gs (JN s)=s)∨Nc s=7 from by
   unfold JN Nc;cases KU:DF s with
   |none=>exact .inr rfl
   |some c=>
    obtain⟨g1,g2,g3,g4⟩:=ayD KU;refine .inl ⟨rfl,g1,?_,?_,g4⟩
    ·show c.2.1.length≤4096;omega
    ·show c.2.2.length≤4096;omega)
  obtain⟨lb,MS⟩:=ex (Gs b);rw[MS] at HF HR Ga Pb;have Nr:=Hi (fun(h4:(JN s).1≤4) (h5:(JN s).2.1.length≤4096) (h6:(JN s).2.2.length≤4096) W=>p9 (JN s) W (by omega) (by omega) (by omega));obtain⟨sb,OE⟩:=ex (JN s);obtain⟨sc,hsc⟩:=ex (Nc s);obtain⟨bb,Gh⟩:=ex (JN lb);obtain⟨bc,Xk⟩:=ex (Nc lb);rw[OE] at Qi Ej DT Nr;rw[hsc] at Qi Ej DT;rw[Gh] at Ga Pb;rw[Xk] at Ga Pb;clear OE hsc Gh Xk MS Nt;obtain⟨k,who,key⟩:=b;obtain⟨sk,sw,sy⟩:=sb;obtain⟨bk,bw,yA⟩:=bb;unfold bq at Ej DT Ga;dsimp only at*;have hg:¬ (4096:Int) < (who.length:Int)+(key.length:Int)+(s.length:Int):=by omega
  have Jr:IntKind.i64.wrap ((who.length:Int)+(key.length:Int))=(who.length:Int)+(key.length:Int):=Eh _ (by omega);have Kh:IntKind.i64.wrap ((who.length:Int)+(key.length:Int)+(s.length:Int))=(who.length:Int)+(key.length:Int)+(s.length:Int):=Eh _ (by omega);clear Rt Uy bW
  go_in
  unfold Ih at ED;go_wp2_with fail;refine(Ej w0 (Ah _ _)).mono ?_;rintro e w1⟨rfl,Ai⟩;have Ee:=AP w1 (.cells #[.int .u8 (sk:Int),.string (bs sw),.string (bs sy)] 23);have Ad:=Ai.trans ((AV w1 (.cells #[.int .u8 (sk:Int),.string (bs sw),.string (bs sy)] 23)).mono Ai.size);obtain⟨w2,ajM⟩:=ex (w1.alloc (.cells #[.int .u8 (sk:Int),.string (bs sw),.string (bs sy)] 23));rw[ajM] at Ee Ad;have Qj:=Hi Ee;have Ak:=Hi Ad;clear Ee Ai Ad c0 c1 c2 Ej;go_wp2_with fail;refine(DT w2).mono ?_;rintro e w3⟨rfl,Aw⟩;have ZF:=AP w3 (.cells #[.int .u8 (sk:Int),.string (bs sw),.string (bs sy)] 23);have AB:=Aw.trans ((AV w3 (.cells #[.int .u8 (sk:Int),.string (bs sw),.string (bs sy)] 23)).mono Aw.size);obtain⟨w4,ajN⟩:=ex (w3.alloc (.cells #[.int .u8 (sk:Int),.string (bs sw),.string (bs sy)] 23));rw[ajN] at ZF AB;have iB:=Hi ZF;have Qj:=Hi ((AB.block _ (Ao Qj)).trans Qj);have AU:=bH Ak AB;clear ZF Aw AB DT ajM;have Bh:=Hi (fun(V:World) (hV:Bw w4 V)=>Cr (HC V (bT AU hV)) (Cr (yu Qj hV) (yu iB hV)));obtain⟨⟨c0,c1,c2⟩,⟨d0,d1,d2⟩,e0,e1,e2⟩:=Bh w4 (Ah _ _);have AO:=Hi ((Ah w4.heap.size w4).drew);have vK:=Hi (Ah w4.heap.size w4);go_upto_region 5 with fail
  go_cut [47] from 33 to 46 (fun s47 wx=>s47=.bool false∧Bw w4 wx)
  case first=>
   go_region_held3 (fun V=>(V.cell? ⟨w.heap.size,0,none⟩=some (.int .u8 (k:Int))∧V.cell? ⟨w.heap.size,1,none⟩=some (.string (bs who))∧V.cell? ⟨w.heap.size,2,none⟩=some (.string (bs key)))∧(V.cell? ⟨w1.heap.size,0,none⟩=some (.int .u8 (sk:Int))∧V.cell? ⟨w1.heap.size,1,none⟩=some (.string (bs sw))∧V.cell? ⟨w1.heap.size,2,none⟩=some (.string (bs sy)))∧(V.cell? ⟨w3.heap.size,0,none⟩=some (.int .u8 (sk:Int))∧V.cell? ⟨w3.heap.size,1,none⟩=some (.string (bs sw))∧V.cell? ⟨w3.heap.size,2,none⟩=some (.string (bs sy))))
    (first|exact Bh _ AO|exact Bh _ vK)
    (first
     |(go_at_call 9;refine(HF _).mono ?_;rintro e wn ⟨rfl,JF⟩;have AO:=bH AO JF;clear JF)
     |(go_at_call 10;refine(HR _).mono ?_;rintro e wn ⟨rfl,JF⟩;have AO:=bH AO JF;clear JF))
   all_goals
    go_wp2_with fail;go_meet
    case rel=>exact⟨rfl,AO⟩
  case rest=>
   obtain⟨rfl,Xk⟩:=hcut;have CL:=Hi Xk;clear c0 c1 c2 d0 d1 d2 e0 e1 e2 AO vK Xk ajN;obtain⟨⟨c0,c1,c2⟩,-⟩:=Bh wc CL.out;go_wp2_with fail;refine(HF wc).mono ?_;rintro e w5⟨rfl,Bo⟩;have Cy:=bH CL Bo;have aod:=bH AU Cy;clear c0 c1 c2 Bo;go_wp2_with fail;refine(Ga w5 aod).mono ?_;rintro e w6⟨rfl,Cb⟩;have OH:=AP w6 (.cells #[.int .u8 (bk:Int),.string (bs bw),.string (bs yA)] 23);have EW:=Cb.trans ((AV w6 (.cells #[.int .u8 (bk:Int),.string (bs bw),.string (bs yA)] 23)).mono Cb.size);obtain⟨w7,avs⟩:=ex (w6.alloc (.cells #[.int .u8 (bk:Int),.string (bs bw),.string (bs yA)] 23));rw[avs] at OH EW;have nS:=Hi OH;have Ed:=bH Cy EW;have Wu:=bH AU Ed;clear OH Cb EW;obtain⟨⟨c0,c1,c2⟩,⟨d0,d1,d2⟩,-⟩:=Bh w7 Ed.out;obtain⟨f0,f1,f2⟩:=yu nS (Ah w7.heap.size w7);by_cases hk:1≤k∧k≤4
   ·obtain⟨bV,atP⟩:=Pb.1 hk;injection bV with atS aaj
    injection aaj with aaj atT
    subst atS aaj atT atP;have k1:¬ (bk:Int) < 1:=(by omega);have k2:¬ (4:Int) < (bk:Int):=(by omega);rcases Qi.out with⟨MX,PR,Lu,QH,rU⟩|MX
    ·subst MX;have HFX:=Hi (Nr PR Lu QH);rw[rU] at HFX;clear PR Lu QH rU hk;go_wp2_with fail;refine(HFX w7).mono ?_;rintro e w8⟨rfl,Ji⟩;have Kw:=bH Wu Ji;clear Ji;go_wp2_with fail;refine(Nn w8 ((WI.below AR).below Kw)).mono ?_;rintro e w9⟨rfl,Ez⟩;have Gw:=Hi (AR.trans ((bT Kw Ez).mono AR.size));clear Ez;go_wp2;go_ret;exact⟨rfl,Gw⟩
    ·subst MX;clear hk;go_wp2_with fail;refine(Nn w7 ((WI.below AR).below Wu)).mono ?_;rintro e w9⟨rfl,Ez⟩;have Gw:=Hi (AR.trans ((bT Wu Ez).mono AR.size));clear Ez;go_wp2;go_ret;exact⟨rfl,Gw⟩
   ·have atQ:=Pb.2 hk;subst atQ;by_cases k1:k < 1
    case' pos=>have k1i:(k:Int) < 1:=by omega
    case' neg=>
     have k1i:¬ (k:Int) < 1:=(by omega);have k2i:(4:Int) < (k:Int):=by omega
    all_goals
     clear hk k1;go_wp2_with fail;refine(Nn w7 ((WI.below AR).below Wu)).mono ?_;rintro e w9⟨rfl,Ez⟩;have Gw:=Hi (AR.trans ((bT Wu Ez).mono AR.size));clear Ez;go_wp2;go_ret;exact⟨rfl,Gw⟩
end ER
namespace Hv
open Go.RowKit Go.WideShapes Go.ChangeShapes Go.Deep
open Aq Af Bu Kp BM Hex BD Al Mem Cg
open Ap
