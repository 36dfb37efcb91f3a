/- FilOpenW -/
import Derived.Test.YtmbbhdebddbhoaaGreatR16
set_option maxHeartbeats 8000000
set_option maxRecDepth 100000
set_option linter.all false
namespace Go.Proofs.YtmbbhdebddbhoaaGreat
open Tryz
section
open Go.RowKit Go.Maps
open Fil
theorem ah6:∀ {L:List (List (List UInt8))} {S:List UInt8},Wal.groupsE L=some S→64*L.length≤S.length∧∀ l∈L,rowLen l≤S.length
 |[],S,h=>by simp[Wal.groupsE] at h;subst h;simp
 |t :: L,S,h=>by
  simp only[Wal.groupsE] at h;cases h1:Wal.GQ t with
  |none=>rw[h1] at h;cases h
  |some a=>
   rw[h1] at h;simp only[Cj] at h;cases h2:Wal.groupsE L with
   |none=>rw[h2] at h;cases h
   |some b=>
    rw[h2] at h;simp only[Ej,BX] at h;subst h;obtain⟨g1,g2⟩:=ah6 h2;obtain⟨_,g4⟩:=Wal.iG h1;obtain⟨c,hc,e⟩:=Wal.pG h1;have g5:=tV hc;have g6:c.length≤a.length:=(by rw[e,Wal.Rh,Au,Crc.BK];omega);rw[Au,Br];refine⟨by omega,fun l hl=>?_⟩;rcases Bt.1 hl with rfl|hl
    ·omega
    ·have:=g2 l hl;omega
theorem aye(l:List T):2*l.length≤rowLen l∧∀ s∈l,s.length≤rowLen l:=by
 unfold rowLen
 induction l with
 |nil=>simp
 |cons x l ih=>
  obtain⟨h1,h2⟩:=ih;simp only[BL,Dq,Br];refine⟨by omega,fun s hs=>?_⟩;rcases Bt.1 hs with rfl|hs
  ·omega
  ·have:=h2 s hs;omega
theorem akK{D:Dsk}(hF:D.BM){g u:Nat}{G:List (List T)}{n:Nat}(h1:1≤n)(hn:1+n≤D.n)(h:Wal.IV (Dsk.text D.now 1 n) n=some (g,u,G)):g < 18446744073709551616∧G.length≤20000∧∀ l∈G,l.length≤1000000∧∀ s∈l,s.length≤2000000:=by
 have EP:=hF.n2;have hlen:(Dsk.text D.now 1 n).length=64*n:=Dsk.lH hF.now 1 n (by omega);obtain⟨b1,b2,b3,_⟩:=Wal.kQ h (by rw[hlen];exact Ac _) h1;have hS:(((Dsk.text D.now 1 n).drop 64).take (64*u)).length≤64*n:=by rw[AL,Ce,hlen];omega
 obtain⟨c1,c2⟩:=ah6 b3;refine⟨b2,by omega,fun l hl=>?_⟩;have:=c2 l hl;obtain⟨d1,d2⟩:=aye l;exact⟨by omega,fun s hs=>by have:=d2 s hs;omega⟩
theorem akI{f:Nat→T}{log size a num:Nat}{A:M}(h:MH f log size=some (a,num,A)):(f 0=Wal.pad [0]∧a=0∧num=0∧A=[])∨(a≤1∧f 0=Fil.mark a num∧num=Crc.val (((f 0).take 13).drop 5)∧∃ t r,cut (Dsk.text f (Cs log size a) size)=some (t,r)∧Fil.read t=some A):=by
 unfold MH at h;by_cases h2:f 0=Wal.pad [0]
 ·rw[Ab h2] at h;simp only[BX,M5] at h;exact .inl ⟨h2,h.1.symm,h.2.1.symm,h.2.2.symm⟩
 ·rw[Aa h2] at h;by_cases h3:((f 0).getD 4 0).toNat≤1∧f 0=Fil.mark ((f 0).getD 4 0).toNat (Crc.val (((f 0).take 13).drop 5))
  ·rw[Ab h3] at h;cases hc:cut (Dsk.text f (Cs log size ((f 0).getD 4 0).toNat) size) with
   |none=>rw[hc] at h;cases h
   |some p=>
    rw[hc] at h;simp only[Cj] at h;obtain⟨m,hm,e⟩:=Tg.1 h;simp only[M5] at e;obtain⟨e1,e2,e3⟩:=e;rw[e1,e2] at h3;rw[e1] at hc;exact .inr ⟨h3.1,h3.2,e2.symm,p.1,p.2,hc,by rw[hm,e3]⟩
  ·rw[Aa h3] at h;cases h
theorem awY{D D':Dsk}{F:St}{k:Int}(h:openF D=(some F,D',k)):k=0∧8≤D.n∧D.down=false∧∃ a num A g u G cs,MH D.now (lg D.n) (sz D.n)=some (a,num,A)∧Wal.IV (Dsk.text D.now 1 (lg D.n)) (lg D.n)=some (g,u,G)∧¬ (0 < num∧g < num -1)∧ungroups G=some cs∧
  ((g < num∧Dm D ⟨1,lg D.n,g,u,G,0⟩=(D',F.w,0)∧F=⟨lg D.n,sz D.n,a,A,F.w,0⟩)∨(¬ g < num∧D'=D∧F=⟨lg D.n,sz D.n,a,Oh A cs,⟨1,lg D.n,g,u,G,0⟩,0⟩)):=by
 unfold openF at h;by_cases h8:D.n < 8
 ·rw[Ab h8] at h;simp at h
 rw[Aa h8] at h;by_cases hd:D.down=true
 ·rw[Ab hd] at h;simp at h
 rw[Aa hd] at h;cases h1:MH D.now (lg D.n) (sz D.n) with
 |none=>rw[h1] at h;simp at h
 |some p=>
  obtain⟨a,num,A⟩:=p;rw[h1] at h;simp only at h;cases h2:Wal.IV (Dsk.text D.now 1 (lg D.n)) (lg D.n) with
  |none=>rw[h2] at h;simp at h
  |some p=>
   obtain⟨g,u,G⟩:=p;rw[h2] at h;simp only at h;by_cases h3:0 < num∧g < num -1
   ·rw[Ab h3] at h;simp at h
   rw[Aa h3] at h;cases h4:ungroups G with
   |none=>rw[h4] at h;simp at h
   |some cs=>
    rw[h4] at h;simp only at h;by_cases h5:g < num
    ·rw[Ab h5] at h;by_cases h6:(Dm D ⟨1,lg D.n,g,u,G,0⟩).2.2=0
     ·rw[Ab h6] at h;simp only[M5,BX] at h;obtain⟨e1,e2,e3⟩:=h;subst e1;exact⟨e3.symm,by omega,by simpa using hd,a,num,A,g,u,G,cs,rfl,rfl,h3,h4,.inl ⟨h5,Prod.ext e2 (Prod.ext rfl h6),rfl⟩⟩
     ·rw[Aa h6] at h;simp at h
    ·rw[Aa h5] at h;simp only[M5,BX] at h;obtain⟨e1,e2,e3⟩:=h;exact⟨e3.symm,by omega,by simpa using hd,a,num,A,g,u,G,cs,rfl,rfl,h3,h4,.inr ⟨h5,e2.symm,e1.symm⟩⟩
theorem lQ:∀ (n:Nat) (l:List T) (cs:List Aj),l.length≤n→ungroup l=some cs→2*cs.length=l.length:=by
 intro n
 induction n with
 |zero=>
  intro l cs hl h;have:l=[]:=List.eq_nil_of_length_eq_zero (by omega);subst this;simp only[ungroup,BX] at h;subst h;rfl
 |succ n ih=>
  intro l cs hl h
  match l,hl,h with
  |[],_,h=>simp only[ungroup,BX] at h;subst h;rfl
  |[_],_,h=>simp[ungroup] at h
  |[] :: _ :: _,_,h=>simp[ungroup] at h
  |(b :: n') :: d :: R,hl,h=>
   simp only[ungroup] at h;split at h
   ·obtain⟨cs',h1,h2⟩:=Tg.1 h;subst h2;have:=ih R cs' (by simp at hl;omega) h1;simp;omega
   ·cases h
theorem anx:∀ {G:List (List T)} {cs:List (List Aj)},ungroups G=some cs→cs.length=G.length∧∀ k (h:k < G.length) (h':k < cs.length),ungroup G[k]=some cs[k]
 |[],cs,h=>by simp only[ungroups,BX] at h;subst h;exact⟨rfl,fun k hk=>by simp at hk⟩
 |g :: G,cs,h=>by
  simp only[ungroups] at h;cases h1:ungroup g with
  |none=>rw[h1] at h;cases h
  |some c=>
   rw[h1] at h;simp only[Cj] at h;obtain⟨cs',h2,h3⟩:=Tg.1 h;subst h3;obtain⟨g1,g2⟩:=anx h2;refine⟨by simp[g1],fun k hk hk'=>?_⟩;cases k with
   |zero=>exact h1
   |succ k=>exact g2 k (by simpa using hk) (by simpa using hk')
theorem akQ(A:M)(cs:List (List Aj))(k:Nat)(h:k < cs.length):Oh A (cs.take (k+1))=made (Oh A (cs.take k)) cs[k]:=by
 rw[Cw h,akP]
theorem akO(A:M)(cs:List (List Aj))(b:Nat)(hb:∀ c∈cs,c.length≤b):(Oh A cs).length≤A.length+cs.length*b:=by
 induction cs generalizing A with
 |nil=>simp[Oh]
 |cons c cs ih=>
  have h1:=ih (made A c) (fun x hx=>hb x (DT _ hx));have h2:=ac2 A c;have h3:=hb c Dg
  show(Oh (made A c) cs).length≤_
  rw[Br,Nat.succ_mul];omega
theorem JK.index{w:World}{q:Option Addr}{c:Nat}{L:List (List T)}(h:JK w (.slice q L.length c) L)(k:Nat)(hk:k < L.length):
  ∃ p:Addr,(∀ W,(Instr.indexAt 128 (.slice q L.length c) (.int .i64 (k:Int))).run prog W=.ok (.pointer (some p)) W)∧∃ ar cr,w.cell? p=some (.slice ar L[k].length cr)∧Cg w ar L[k]:=by
 obtain⟨cs,h1,h2,h3,h4⟩:=h;rcases h1.2 with⟨e1,e2⟩|⟨g,cap,cur,e1,_⟩
 ·omega
 ·injection e1 with e1 e2 e3
  subst e1;have Q8:k < cs.length:=by omega
  obtain⟨ar,cr,er,ht⟩:=(h4 k hk Q8).texts;have hc:=h1.cells (g:=g) rfl k cs[k] (Cn Q8);rw[add_plain,er] at hc;refine⟨⟨g,k,Option.none⟩,fun W=>?_,ar,cr,hc,ht⟩;have:=Hr prog 128 27 underlying128 1 (by kernel_rfl) ⟨g,0,Option.none⟩ L.length c k hk W;rw[Nat.mul_one,add_plain] at this;exact this
theorem as4{w:World}{y log size b:Nat}{D:Dsk}{fp:Nat→Prop}(hd:Bl w b D fp)(hy:w.heap[y]?=some (.cells (JC log size 0 b none none) 113))(E5:D.down=false){a num:Nat}{A:M}(hl:MH D.now log size=some (a,num,A))
  (jE:log≤16384)(Jc:size≤8192)(IJ:∀ a,a≤1→Cs log size a+size≤D.n):
  Calls prog 52 #[.pointer (some ⟨y,0,none⟩)] w fun e w'=>xU w y log size b a num A e w':=by
 rcases akI hl with⟨h0,rfl,rfl,rfl⟩|⟨ha,h0,hn,t,r,hc,hr⟩
 ·exact as6 hd hy E5 h0
 ·have hv:num < 18446744073709551616:=by
   rw[hn];refine DK (Crc.Ji _) ?_;have hlen:(((D.now 0).take 13).drop 5).length≤8:=(by rw[Ce,AL];omega);exact Ap (Nat.pow_le_pow_right (by decide) hlen) (by decide)
  exact as5 hd hy E5 ha hv h0 jE Jc (IJ a ha) hc hr
theorem alT:∀ (n:Nat) (lo:Option T) (s:T) (r:M×T),readE n lo s=some r→8*r.1.length+r.2.length≤s.length
 |0,lo,s,r,h=>by simp only[readE,BX] at h;subst h;simp
 |n+1,lo,s,r,h=>by
  simp only[readE] at h;cases h1:cut s with
  |none=>rw[h1] at h;cases h
  |some p=>
   rw[h1] at h;simp only[Cj] at h;cases h2:cut p.2 with
   |none=>rw[h2] at h;cases h
   |some q=>
    rw[h2] at h;simp only[Cj] at h;split at h
    ·obtain⟨r',h3,h4⟩:=Tg.1 h;subst h4;have g1:=V4 (p:=p.1) (q:=p.2) h1;have g2:=V4 (p:=q.1) (q:=q.2) h2;have g3:=alT n _ _ _ h3;simp only[Br];omega
    ·cases h
theorem ay1{s:T}{A:M}(h:Fil.read s=some A):8*A.length≤s.length:=by
 unfold Fil.read at h;split at h
 ·cases h
 ·cases h1:readE (Crc.val (s.take 4)) none (s.drop 4) with
  |none=>rw[h1] at h;cases h
  |some r=>
   rw[h1] at h;simp only[Cj] at h;split at h
   ·have:=alT _ _ _ _ h1;simp only[BX] at h;subst h;rw[Ce] at this;omega
   ·cases h
theorem aw2{D:Dsk}(hF:D.BM){log size a num:Nat}{A:M}(h:MH D.now log size=some (a,num,A))(Jc:size≤8192)(IJ:∀ a,a≤1→Cs log size a+size≤D.n):a≤1∧A.length≤100000:=by
 rcases akI h with⟨_,h1,_,rfl⟩|⟨ha,_,_,t,r,hc,hr⟩
 ·exact⟨by omega,by simp⟩
 ·have h1:=V4 hc;have h2:=ay1 hr;rw[Dsk.lH hF.now _ _ (IJ a ha)] at h1;exact⟨ha,by omega⟩
end
section
open Go.RowKit Go.Maps
open Fil
def ao9(w:World)(b:Nat)(fp:Nat→Prop)(F:St)(D':Dsk)(e:Ending)(w':World):Prop:=
 ∃ y m x gv fp',e=.returned (.tuple #[.pointer (some ⟨y,0,none⟩),.int .i64 0])∧Bl w' b D' fp'∧CK w' y b m x gv F∧¬ fp' m∧A7 fp w w'∧D6 fp fp' w∧∀ k,RX y m x gv k→w.heap.size≤k
theorem JK.acX{w:World}{v:Value}{L:List (List T)}(h:JK w v L):∃ q cap,v=.slice q L.length cap:=by
 obtain⟨cs,h1,_⟩:=h;exact Bg h1
theorem CK.ofRaw{W:World}{y mb x b log size a:Nat}{gv:Value}{L:Bn}{A:M}(hy:W.heap[y]?=some (.cells (JC log size a b (some mb) none) 113))(hm:Co W mb A)(hw:BZ W x b gv L)(h1:log≤16384)(h2:size≤16384)(h3:1≤size)(h4:a≤1):
  CK (W.setCell ⟨y,5,none⟩ (.pointer (some ⟨x,0,none⟩))) y b mb x gv ⟨log,size,a,A,L,0⟩:=by
 have hu:A7 (fun k=>k=y) W (W.setCell ⟨y,5,none⟩ (.pointer (some ⟨x,0,none⟩))):=(A7.refl (fun k=>k=y) W).setCell (p:=⟨y,5,none⟩) (.inl rfl) _;have hb:AA W y 113:=⟨_,_,hy⟩
 exact⟨BU W y 5 _ _ _ hy,hm.upd hu (fun e=>hm.Cv (e▸hb)),hw.upd hu (fun k hk e=>by subst e;exact AA.ne hk hb (by decide) rfl) (fun k hk e=>by
  subst e;rcases hk with h|h
  ·exact AA.ne hb (h▸⟨_,_,hw.struct⟩:AA W k 207) (by decide) rfl
  ·obtain⟨cs',g1,_⟩:=hw.groups;exact AA.ne hb (BQ g1 h) (by decide) rfl),⟨h1,h2,h3,h4⟩⟩
theorem ash{w:World}{b:Nat}{D D':Dsk}{fp:Nat→Prop}{F:St}(hd:Bl w b D fp)(h:openF D=(some F,D',0))(GU:D.loose.length≤300000000):
  Calls prog 18 #[.pointer (some ⟨b,0,none⟩)] w fun e w'=>ao9 w b fp F D' e w':=by
 obtain⟨_,h8,E5,a,num,A,g,u,G,cs,hl,ho,hng,Dv,hend⟩:=awY h;have OV:=hd.fine;have EP:=OV.n2;obtain⟨l1,l2,l3⟩:=Zt h8;have HD:=Hi hd;obtain⟨s1,s2,s3⟩:=akK OV (by omega) (by omega) ho;have HS:=Hi (fun(V:World) (h:Bl V b D fp)=>XJ h);have hlg:(max ((D.n:Int) / 8) 2)=((lg D.n:Nat):Int):=by unfold lg;omega
 have hsz:((D.n:Int) -1 -((lg D.n:Nat):Int)) / 2=((sz D.n:Nat):Int):=by unfold sz;omega
 have h8':¬ (D.n:Int) < 8:=by omega
 clear hd;go_enter func18,ntmps18;go_wp2_with fail;refine(HS _ HD).mono ?_;rintro e w1⟨rfl,rfl⟩;go_wp2_with fail;refine(HS _ HD).mono ?_;rintro e w1⟨rfl,rfl⟩;go_wp2_with fail;have rQ:=AJ w (.cells (JC (lg D.n) 0 0 b none none) 113);have Bq:Bw w (w.alloc (.cells (JC (lg D.n) 0 0 b none none) 113)).drew:=((Af w.heap.size w).alloc (Ac _) _).drew;have Bc:=Hi Bq;have xM:=Hi (show(w.alloc (.cells (JC (lg D.n) 0 0 b none none) 113)).drew.heap[w.heap.size]?=_ from rQ);have e1:IntKind.i64.wrap ((D.n:Int) -1)=(D.n:Int) -1:=Ei _ (by omega);have e2:IntKind.i64.wrap ((D.n:Int) -1 -((lg D.n:Nat):Int))=(D.n:Int) -1 -((lg D.n:Nat):Int):=Ei _ (by omega);have e3:IntKind.i64.wrap (((D.n:Int) -1 -((lg D.n:Nat):Int)).tdiv 2)=((sz D.n:Nat):Int):=by
  rw[Int.tdiv_eq_ediv_of_nonneg (by omega),hsz];exact Ei _ (by omega)
 have Dt:(JC (lg D.n) 0 0 b none none).setIfInBounds 2 (.int .i64 (IntKind.i64.wrap (((D.n:Int) -1 -((lg D.n:Nat):Int)).tdiv 2)))=JC (lg D.n) (sz D.n) 0 b none none:=by rw[e3];rfl
 have nA:=Hi Dt;have TE:=Hi (show(w.alloc (.cells ((JC (lg D.n) 0 0 b none none).setIfInBounds 2 (.int .i64 (IntKind.i64.wrap (((D.n:Int) -1 -((lg D.n:Nat):Int)).tdiv 2)))) 113)).drew.heap[w.heap.size]?=some (.cells (JC (lg D.n) (sz D.n) 0 b none none) 113) by rw[Dt];exact AJ w _);have HD0:=Hi (HD.below Bq);obtain⟨_,d1,d2,_,_,_,_,df⟩:=JD xM.out;have df2:=df 2;clear df rQ Bq Dt e3
 go_region_held3 (fun W=>W.cell? ⟨w.heap.size,1,none⟩=some (.int .i64 ((lg D.n:Nat):Int)))
  (first|exact(JD xM).2.1|exact(JD TE).2.1)
  (first
   |(go_at_call 51;refine(HS _ HD0).mono ?_;rintro e w1 ⟨rfl,rfl⟩))
 all_goals
  clear d1 d2 df2;go_wp2_with fail;have ajT:(JC (lg D.n) 0 0 b none none).setIfInBounds 2 (.int .i64 (((D.n:Int) -1 -((lg D.n:Nat):Int)) / 2))=JC (lg D.n) (sz D.n) 0 b none none:=by rw[hsz];rfl
  rw[ajT];have TF:=Hi (show(w.alloc (.cells (JC (lg D.n) (sz D.n) 0 b none none) 113)).drew.heap[w.heap.size]?=_ from AJ w _);have Ag:=Hi (show Bw w (w.alloc (.cells (JC (lg D.n) (sz D.n) 0 b none none) 113)).drew from((Af w.heap.size w).alloc (Ac _) _).drew);have MP:=Hi (HD.below Ag);clear ajT nA TE xM Bc HD0 e1 e2;generalize (w.alloc (.cells (JC (lg D.n) (sz D.n) 0 b none none) 113)).drew=w2 at*
  refine(as4 MP TF E5 hl (by omega) (by omega) (fun a ha=>by
   unfold Cs;have:a*sz D.n≤1*sz D.n:=NC _ ha;omega)).mono ?_
  rintro e w3⟨mb,rfl,hy3,U7,CP,hn3⟩;have QU:=Hi hy3;have Wm:=Hi U7;have TA:=Hi (show w.heap.size≤mb from Ap Ag.size hn3);have Am:=Hi (Ca Ag CP (fun k e=>by subst e;exact Ac _) Ag.size);have Oq:=Hi (HD.below Am);clear hy3 U7 CP hn3 TF Ag MP;obtain⟨_,d1,_⟩:=JD QU.out;have hW:D.openW 1 ((lg D.n:Nat):Int)=(some ⟨1,lg D.n,g,u,G,0⟩,0):=by
   unfold Dsk.openW;rw[Aa (by omega),Aa (by simp[E5])]
   show(match Wal.IV (Dsk.text D.now 1 (lg D.n)) (lg D.n) with
    |none=>((none,50):Option Bn×Int)
    |some (g,u,l)=>(some (⟨1,lg D.n,g,u,l,0⟩:Bn),(0:Int)))=_
   rw[ho]
  have rM:=aAl Oq 1 ((lg D.n:Nat):Int) (by omega) (by omega);unfold UT at rM;rw[hW] at rM;have Wy:=Hi rM;clear rM hW;go_wp2_with fail;refine Wy.mono ?_;rintro e w4⟨x,gv,rfl,JA,Ar,hn4⟩;have nJ:=Hi (show ∀ k,BD x gv k→w.heap.size≤k from fun k hk=>Ap Am.size (hn4 k hk));have AZ:=Hi (Am.trans (Ar.mono Am.size));have PO:=Hi ((Ar.block w.heap.size (Ai QU)).trans QU);have UG:=Hi (Wm.below Ar);have RO:=Hi JA;have Tw:=Hi (fun(V:World) (h:BZ V x b gv ⟨1,lg D.n,g,u,G,0⟩)=>anP h);have ah:=Hi (aAj JA (by show G.length≤_;omega) (fun l hl=>by have:=(s3 l hl).1;omega));clear JA Ar hn4 Am QU Wm Oq Wy d1;have SL:=anx Dv;have Ow:=Hi SL;have Hy:=Hi s3
  obtain⟨qf,hAl⟩:=aw2 OV hl (by omega) (fun a ha=>by
   unfold Cs;have:a*sz D.n≤1*sz D.n:=NC _ ha;omega)
  have UE:=Hi hl;have HHO:=Hi ho;clear s3 hl ho SL hlg hsz h8';rcases hend with⟨hlt,dw,hF⟩|⟨IL,e,rfl⟩
  ·have h1:(0:Int) < (num:Int):=(by omega);have FY:IntKind.u64.wrap ((num:Int) -1)=((num -1:Nat):Int):=by
    have:num≤18446744073709551616:=(by omega);simp[IntKind.wrap,IntKind.bits,IntKind.signed];omega
   have Ef:¬ g < num -1:=(by omega);have CV:g < num:=hlt;have QN:=Hi dw;generalize bC:F.w=L2 at*;clear dw;subst hF;clear hng bC;go_wp2_with fail;refine(Tw _ RO).mono ?_;rintro e w4'⟨rfl,rfl⟩;go_wp2_with fail;refine ah.mono ?_;rintro e w5⟨v5,rfl,Ml,Bf,SN⟩;obtain⟨q5,c5,rfl⟩:=Ml.acX;have G9:=Hi Ml;have Ck:=Hi (AZ.trans (Bf.mono AZ.size));have Hz:=Hi ((Bf.block w.heap.size (Ai PO)).trans PO);have FC:=Hi (UG.below Bf);have JX:=Hi (RO.below Bf);obtain⟨es,ck,O1⟩:=FC.is;have RD:=Hi O1
   have J4:=Hi (show ∀ (F:Nat→Prop) (W:World),A7 F w5 W→(∀ k,F k→k=mb)→BZ W x b gv ⟨1,lg D.n,g,u,G,0⟩ from fun F W hu hF=>JX.upd hu (fun k hk e=>by rw[hF k e] at hk;exact FC.Cv hk) (fun k hk e=>by
    rw[hF k e] at hk;rcases hk with h|h
    ·exact FC.Cv (t:=207) (h▸⟨_,_,JX.struct⟩)
    ·obtain⟨cs',h1,_⟩:=JX.groups;exact FC.Cv (BQ h1 h)))
   clear Ml Bf SN O1 PO UG RO ah;go_wp2_with fail
   go_loopw [9,10,11,75] (fun _ _ _ i wr=>∃ k:Nat,k≤G.length∧i=.int .i64 k∧Co wr mb A∧A7 (fun k=>k=mb) w5 wr) (fun _ _ _ i _=>G.length -(intOf i).toNat)
   case atStart=>exact⟨0,AB _,rfl,FC,A7.refl _ _⟩
   case round=>
    obtain⟨k,hk,rfl,hm,hu⟩:=hrel;by_cases hlt:k < G.length
    ·have Qc:k < cs.length:=(by rw[Ow.1];exact hlt);obtain⟨p,Cu,ar,cr,hc,Gj⟩:=G9.index k hlt;have Ni:wr.cell? p=some (.slice ar G[k].length cr):=(hu.cell (BS hc) (Zy hc RD)).trans hc
     have Xn:Cg wr ar G[k]:=Gj.upd hu (fun p' Mw hne=>by
      obtain⟨p2,Jb,h3⟩:=Gj 0 (List.length_pos_iff.2 hne);rw[Mw] at Jb;injection Jb with Jb
      subst Jb;have:=Zy h3 RD;rwa[add_block] at this)
     have iL:=Hy _ (Ci hlt);have GA:=Ow.2 k hlt Qc;have Nn:=adi _ _ _ (Ac _) GA;have I9:=lQ _ _ _ (Ac _) GA;have OY:=zD (cap:=cr) Xn (by omega) (fun s hs=>by have:=iL.2 s hs;omega);unfold WB at OY;rw[GA] at OY;have BH:cs[k].length≤1000000:=(by omega);have RF:=Hi OY;have Ot:=Hi Nn;have HM:=Hi hm;have HU:=Hi hu;clear hc Gj Xn GA Nn I9 OY hm hu;generalize G[k]=Gk at*;generalize cs[k]=ck at*;clear Qc;go_wp2_with fail;refine RF.mono ?_;rintro e w6⟨q6,c6,rfl,I8,Cx⟩;have Y7:=Hi (DW.CG I8);have gD:=Hi (HM.below Cx);have JW:=Hi (HU.trans (A7.of_below (F:=fun k=>k=mb) Cx) (fun i hi=>.inl hi));clear I8 Cx Ni;have ME:=J4 _ _ JW (fun k e=>e);have MF:=(JW.block w.heap.size (Ai Hz) (fun e=>FC.Cv (t:=113) (e▸⟨_,_,Hz⟩))).trans Hz.out;obtain⟨_,_,_,_,d4,_⟩:=JD MF;have Lm:=Hi ME;clear ME MF;go_wp2_with fail;refine(Tw _ Lm).mono ?_;rintro e w7⟨rfl,rfl⟩;go_wp2_with fail;go_roundw
     case rel=>exact⟨k+1,by omega,by go_num,gD,JW⟩
     case measure=>simp[intOf];omega
    ·obtain rfl:k=G.length:=(by omega);have HM:=Hi hm;have HU:=Hi hu;clear hm hu;have ME:=J4 _ _ HU (fun k e=>e);have MF:=(HU.block w.heap.size (Ai Hz) (fun e=>FC.Cv (t:=113) (e▸⟨_,_,Hz⟩))).trans Hz.out;have Lm:=Hi ME;have NT:=Hi MF;clear ME MF;go_wp2_with fail;refine(Tw _ Lm).mono ?_;rintro e w7⟨rfl,rfl⟩;have Ez:=Ca Ck HU (fun k e=>by subst e;exact TA.out) Ck.size;have En:=Hi Ez;have LG:=am6 (HD.below Ez) Lm (by omega);rw[QN.out] at LG;have Ex:=Hi LG;clear Ez LG;go_wp2_with fail;refine Ex.mono ?_;rintro e w9⟨rfl,fp9,gv9,g1,g2,g3,g4,g5⟩;have NM:=Hi (show ∀ k,w.heap.size≤k→¬ fp k from fun k hk e=>by have:=HD.lt _ e;omega);have hny:¬ (fp w.heap.size∨BD x gv w.heap.size):=by
      rintro(e|e|e)
      ·exact NM _ (Ac _) e
      ·exact AA.ne (⟨_,_,NT⟩:AA _ w.heap.size 113) (e▸⟨_,_,Lm.struct⟩:AA _ w.heap.size 207) (by decide) rfl
      ·obtain⟨cs',h1,_⟩:=Lm.groups;exact AA.ne (⟨_,_,NT⟩:AA _ w.heap.size 113) (BQ h1 e) (by decide) rfl
     have Jw:¬ (fp mb∨BD x gv mb):=by
      rintro(e|e|e)
      ·exact NM _ TA e
      ·exact HM.Cv (t:=207) (e▸⟨_,_,Lm.struct⟩)
      ·obtain⟨cs',h1,_⟩:=Lm.groups;exact HM.Cv (BQ h1 e)
     have hy9:=(g3.block w.heap.size (Ai NT) hny).trans NT.out;have xP:=Hi hy9;have QK:=Hi (HM.upd g3 Jw);have Hw:=Hi g1;have CS:=Hi g2;have FJ:=Hi g3;have FP:=Hi g4;have G9:=Hi g5;have aoT:=Hi HM.lt;clear g1 g2 g3 g4 g5 hny Jw hy9;obtain⟨_,_,_,_,_,d5,_,df⟩:=JD xP.out;have RS:=df 5;clear df;go_wp2_with fail;go_ret2;have AP:D6 fp fp9 w:=fun i hi=>(FP i hi).imp id (fun e=>Ap En.size e)
     refine⟨w.heap.size,mb,x,gv9,fp9,rfl,Hw.upd ((A7.refl (fun k=>k=w.heap.size) _).setCell (p:=⟨w.heap.size,5,none⟩) (.inl rfl) _) (fun k hk e=>by subst e;exact Hw.Cv _ hk (by decide) (by decide) ⟨_,_,xP⟩),CK.ofRaw xP QK CS (by omega) (by omega) (by omega) qf,fun e=>(FP mb e).elim (NM _ TA) (fun f=>by have:=aoT.out;omega),((A7.of_below En).trans FJ (fun i hi=>hi.elim .inl (fun e=>.inr (nJ i e)))).setCell (p:=⟨w.heap.size,5,none⟩) (.inr (Ac _)) _,AP,?_⟩;rintro k (rfl|rfl|hk)
     ·exact Ac _
     ·exact TA.out
     ·exact(G9 k hk).elim (nJ k) (fun e=>Ap En.size e)
  ·have e:=e.symm;subst e;by_cases h0:num=0
   ·subst h0;clear hng IL;go_wp2_with fail;refine ah.mono ?_;rintro e w5⟨v5,rfl,Ml,Bf,SN⟩;obtain⟨q5,c5,rfl⟩:=Ml.acX;have G9:=Hi Ml;have Ck:=Hi (AZ.trans (Bf.mono AZ.size));have Hz:=Hi ((Bf.block w.heap.size (Ai PO)).trans PO);have FC:=Hi (UG.below Bf);have JX:=Hi (RO.below Bf);obtain⟨es,ck,O1⟩:=FC.is;have RD:=Hi O1
    have J4:=Hi (show ∀ (F:Nat→Prop) (W:World),A7 F w5 W→(∀ k,F k→k=mb)→BZ W x b gv ⟨1,lg D.n,g,u,G,0⟩ from fun F W hu hF=>JX.upd hu (fun k hk e=>by rw[hF k e] at hk;exact FC.Cv hk) (fun k hk e=>by
     rw[hF k e] at hk;rcases hk with h|h
     ·exact FC.Cv (t:=207) (h▸⟨_,_,JX.struct⟩)
     ·obtain⟨cs',h1,_⟩:=JX.groups;exact FC.Cv (BQ h1 h)))
    clear Ml Bf SN O1 PO UG RO ah;go_wp2_with fail
    go_loopw [9,10,11,75] (fun _ _ _ i wr=>∃ k:Nat,k≤G.length∧i=.int .i64 k∧Co wr mb (Oh A (cs.take k))∧A7 (fun k=>k=mb) w5 wr) (fun _ _ _ i _=>G.length -(intOf i).toNat)
    case atStart=>exact⟨0,AB _,rfl,FC,A7.refl _ _⟩
    case round=>
     obtain⟨k,hk,rfl,hm,hu⟩:=hrel;by_cases hlt:k < G.length
     ·have Qc:k < cs.length:=(by rw[Ow.1];exact hlt);obtain⟨p,Cu,ar,cr,hc,Gj⟩:=G9.index k hlt;have Ni:wr.cell? p=some (.slice ar G[k].length cr):=(hu.cell (BS hc) (Zy hc RD)).trans hc
      have Xn:Cg wr ar G[k]:=Gj.upd hu (fun p' Mw hne=>by
       obtain⟨p2,Jb,h3⟩:=Gj 0 (List.length_pos_iff.2 hne);rw[Mw] at Jb;injection Jb with Jb
       subst Jb;have:=Zy h3 RD;rwa[add_block] at this)
      have iL:=Hy _ (Ci hlt);have GA:=Ow.2 k hlt Qc;have Nn:=adi _ _ _ (Ac _) GA;have I9:=lQ _ _ _ (Ac _) GA;have OY:=zD (cap:=cr) Xn (by omega) (fun s hs=>by have:=iL.2 s hs;omega);unfold WB at OY;rw[GA] at OY;have wJ:=Hi (akQ A cs k Qc)
      have hlen:=akO A (cs.take k) 1000000 (fun c hc=>by
       obtain⟨j,hj,rfl⟩:=List.getElem_of_mem (List.mem_of_mem_take hc);have h1:=Ow.2 j (by rw[←Ow.1];exact hj) hj;have h2:=lQ _ _ _ (Ac _) h1;have h3:=(Hy _ (Ci (by rw[←Ow.1];exact hj:j < G.length))).1;omega)
      have Q8:(cs.take k).length≤20000:=(by rw[AL];omega);have jD:(Oh A (cs.take k)).length≤1000000000000000:=by
       refine Ap hlen ?_;have:(cs.take k).length*1000000≤20000*1000000:=NC _ Q8;omega
      have BH:cs[k].length≤1000000:=(by omega);have RF:=Hi OY;have Ot:=Hi Nn;have HM:=Hi hm;have HU:=Hi hu;have J3:=Hi jD;clear hc Gj Xn GA Nn I9 OY hlen jD hm hu Q8;generalize G[k]=Gk at*;generalize cs[k]=ck at*;clear Qc;go_wp2_with fail;refine RF.mono ?_;rintro e w6⟨q6,c6,rfl,I8,Cx⟩;have Y7:=Hi (DW.CG I8);have gD:=Hi (HM.below Cx);have JW:=Hi (HU.trans (A7.of_below (F:=fun k=>k=mb) Cx) (fun i hi=>.inl hi));clear I8 Cx Ni;have ME:=J4 _ _ JW (fun k e=>e);have MF:=(JW.block w.heap.size (Ai Hz) (fun e=>FC.Cv (t:=113) (e▸⟨_,_,Hz⟩))).trans Hz.out;obtain⟨_,_,_,_,d4,_⟩:=JD MF;have Lm:=Hi ME;clear ME MF;go_wp2_with fail;refine(Tw _ Lm).mono ?_;rintro e w7⟨rfl,rfl⟩;go_wp2_with fail
      refine(zx (cap:=c6) gD Y7 BH J3 (fun c hc=>by
       have:=Ot c hc;unfold Aj.may Fw at this;simp at this;unfold maxLen;omega)).mono ?_
      rintro e w8⟨rfl,Vr,LM⟩;have Tz:=Hi Vr;have gU:=Hi (JW.trans LM (fun i hi=>.inl hi));clear Vr LM d4;go_wp2_with fail;go_roundw
      case rel=>exact⟨k+1,by omega,by go_num,by rw[wJ.out];exact Tz.out,gU⟩
      case measure=>simp[intOf];omega
     ·obtain rfl:k=G.length:=(by omega);have Km:cs.take G.length=cs:=(by rw[←Ow.1,CY]);rw[Km] at hm;have HM:=Hi hm;have HU:=Hi hu;clear Km hm hu;have ME:=J4 _ _ HU (fun k e=>e);have MF:=(HU.block w.heap.size (Ai Hz) (fun e=>FC.Cv (t:=113) (e▸⟨_,_,Hz⟩))).trans Hz.out;have Lm:=Hi ME;have NT:=Hi MF;clear ME MF;go_wp2_with fail;refine(Tw _ Lm).mono ?_;rintro e w7⟨rfl,rfl⟩;obtain⟨_,_,_,_,_,d5,_,df⟩:=JD NT.out;have RS:=df 5;clear df;go_wp2_with fail;go_ret2;have Ez:=Ca Ck HU (fun k e=>by subst e;exact TA.out) Ck.size;refine⟨w.heap.size,mb,x,gv,fp,rfl,(HD.below Ez).upd ((A7.refl (fun k=>k=w.heap.size) _).setCell (p:=⟨w.heap.size,5,none⟩) (.inl rfl) _) (fun k hk e=>by subst e;have:=HD.lt _ hk;omega),CK.ofRaw NT HM Lm (by omega) (by omega) (by omega) qf,fun e=>by have:=HD.lt _ e;have:=TA.out;omega,(A7.of_below Ez).setCell (p:=⟨w.heap.size,5,none⟩) (.inr (Ac _)) _,fun _ h=>.inl h,?_⟩;rintro k (rfl|rfl|hk)
      ·exact Ac _
      ·exact TA.out
      ·exact nJ k hk
   ·have h1:(0:Int) < (num:Int):=(by omega);have FY:IntKind.u64.wrap ((num:Int) -1)=((num -1:Nat):Int):=by
     simp[IntKind.wrap,IntKind.bits,IntKind.signed];omega
    have Ef:¬ g < num -1:=(by omega);have CV:num≤g:=(by omega);clear hng IL h0;go_wp2_with fail;refine(Tw _ RO).mono ?_;rintro e w4'⟨rfl,rfl⟩;go_wp2_with fail;refine ah.mono ?_;rintro e w5⟨v5,rfl,Ml,Bf,SN⟩;obtain⟨q5,c5,rfl⟩:=Ml.acX;have G9:=Hi Ml;have Ck:=Hi (AZ.trans (Bf.mono AZ.size));have Hz:=Hi ((Bf.block w.heap.size (Ai PO)).trans PO);have FC:=Hi (UG.below Bf);have JX:=Hi (RO.below Bf);obtain⟨es,ck,O1⟩:=FC.is;have RD:=Hi O1
    have J4:=Hi (show ∀ (F:Nat→Prop) (W:World),A7 F w5 W→(∀ k,F k→k=mb)→BZ W x b gv ⟨1,lg D.n,g,u,G,0⟩ from fun F W hu hF=>JX.upd hu (fun k hk e=>by rw[hF k e] at hk;exact FC.Cv hk) (fun k hk e=>by
     rw[hF k e] at hk;rcases hk with h|h
     ·exact FC.Cv (t:=207) (h▸⟨_,_,JX.struct⟩)
     ·obtain⟨cs',h1,_⟩:=JX.groups;exact FC.Cv (BQ h1 h)))
    clear Ml Bf SN O1 PO UG RO ah;go_wp2_with fail
    go_loopw [9,10,11,75] (fun _ _ _ i wr=>∃ k:Nat,k≤G.length∧i=.int .i64 k∧Co wr mb (Oh A (cs.take k))∧A7 (fun k=>k=mb) w5 wr) (fun _ _ _ i _=>G.length -(intOf i).toNat)
    case atStart=>exact⟨0,AB _,rfl,FC,A7.refl _ _⟩
    case round=>
     obtain⟨k,hk,rfl,hm,hu⟩:=hrel;by_cases hlt:k < G.length
     ·have Qc:k < cs.length:=(by rw[Ow.1];exact hlt);obtain⟨p,Cu,ar,cr,hc,Gj⟩:=G9.index k hlt;have Ni:wr.cell? p=some (.slice ar G[k].length cr):=(hu.cell (BS hc) (Zy hc RD)).trans hc
      have Xn:Cg wr ar G[k]:=Gj.upd hu (fun p' Mw hne=>by
       obtain⟨p2,Jb,h3⟩:=Gj 0 (List.length_pos_iff.2 hne);rw[Mw] at Jb;injection Jb with Jb
       subst Jb;have:=Zy h3 RD;rwa[add_block] at this)
      have iL:=Hy _ (Ci hlt);have GA:=Ow.2 k hlt Qc;have Nn:=adi _ _ _ (Ac _) GA;have I9:=lQ _ _ _ (Ac _) GA;have OY:=zD (cap:=cr) Xn (by omega) (fun s hs=>by have:=iL.2 s hs;omega);unfold WB at OY;rw[GA] at OY;have wJ:=Hi (akQ A cs k Qc)
      have hlen:=akO A (cs.take k) 1000000 (fun c hc=>by
       obtain⟨j,hj,rfl⟩:=List.getElem_of_mem (List.mem_of_mem_take hc);have h1:=Ow.2 j (by rw[←Ow.1];exact hj) hj;have h2:=lQ _ _ _ (Ac _) h1;have h3:=(Hy _ (Ci (by rw[←Ow.1];exact hj:j < G.length))).1;omega)
      have Q8:(cs.take k).length≤20000:=(by rw[AL];omega);have jD:(Oh A (cs.take k)).length≤1000000000000000:=by
       refine Ap hlen ?_;have:(cs.take k).length*1000000≤20000*1000000:=NC _ Q8;omega
      have BH:cs[k].length≤1000000:=(by omega);have RF:=Hi OY;have Ot:=Hi Nn;have HM:=Hi hm;have HU:=Hi hu;have J3:=Hi jD;clear hc Gj Xn GA Nn I9 OY hlen jD hm hu Q8;generalize G[k]=Gk at*;generalize cs[k]=ck at*;clear Qc;go_wp2_with fail;refine RF.mono ?_;rintro e w6⟨q6,c6,rfl,I8,Cx⟩;have Y7:=Hi (DW.CG I8);have gD:=Hi (HM.below Cx);have JW:=Hi (HU.trans (A7.of_below (F:=fun k=>k=mb) Cx) (fun i hi=>.inl hi));clear I8 Cx Ni;have ME:=J4 _ _ JW (fun k e=>e);have MF:=(JW.block w.heap.size (Ai Hz) (fun e=>FC.Cv (t:=113) (e▸⟨_,_,Hz⟩))).trans Hz.out;obtain⟨_,_,_,_,d4,_⟩:=JD MF;have Lm:=Hi ME;clear ME MF;go_wp2_with fail;refine(Tw _ Lm).mono ?_;rintro e w7⟨rfl,rfl⟩;go_wp2_with fail
      refine(zx (cap:=c6) gD Y7 BH J3 (fun c hc=>by
       have:=Ot c hc;unfold Aj.may Fw at this;simp at this;unfold maxLen;omega)).mono ?_
      rintro e w8⟨rfl,Vr,LM⟩;have Tz:=Hi Vr;have gU:=Hi (JW.trans LM (fun i hi=>.inl hi));clear Vr LM d4;go_wp2_with fail;go_roundw
      case rel=>exact⟨k+1,by omega,by go_num,by rw[wJ.out];exact Tz.out,gU⟩
      case measure=>simp[intOf];omega
     ·obtain rfl:k=G.length:=(by omega);have Km:cs.take G.length=cs:=(by rw[←Ow.1,CY]);rw[Km] at hm;have HM:=Hi hm;have HU:=Hi hu;clear Km hm hu;have ME:=J4 _ _ HU (fun k e=>e);have MF:=(HU.block w.heap.size (Ai Hz) (fun e=>FC.Cv (t:=113) (e▸⟨_,_,Hz⟩))).trans Hz.out;have Lm:=Hi ME;have NT:=Hi MF;clear ME MF;go_wp2_with fail;refine(Tw _ Lm).mono ?_;rintro e w7⟨rfl,rfl⟩;obtain⟨_,_,_,_,_,d5,_,df⟩:=JD NT.out;have RS:=df 5;clear df;go_wp2_with fail;go_ret2;have Ez:=Ca Ck HU (fun k e=>by subst e;exact TA.out) Ck.size;refine⟨w.heap.size,mb,x,gv,fp,rfl,(HD.below Ez).upd ((A7.refl (fun k=>k=w.heap.size) _).setCell (p:=⟨w.heap.size,5,none⟩) (.inl rfl) _) (fun k hk e=>by subst e;have:=HD.lt _ hk;omega),CK.ofRaw NT HM Lm (by omega) (by omega) (by omega) qf,fun e=>by have:=HD.lt _ e;have:=TA.out;omega,(A7.of_below Ez).setCell (p:=⟨w.heap.size,5,none⟩) (.inr (Ac _)) _,fun _ h=>.inl h,?_⟩;rintro k (rfl|rfl|hk)
      ·exact Ac _
      ·exact TA.out
      ·exact nJ k hk
end
end Go.Proofs.YtmbbhdebddbhoaaGreat
