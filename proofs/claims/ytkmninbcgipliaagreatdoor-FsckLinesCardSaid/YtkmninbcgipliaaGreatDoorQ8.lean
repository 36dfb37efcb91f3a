/- FilOpenW FilAlive ManA Sha1 -/
import Derived.Test.YtkmninbcgipliaaGreatDoorQ7
import Derived.Shelf.SlGeneric
import Derived.Shelf.Slices.CompactS
import Derived.Shelf.Slices.Clone
import Derived.Shelf.Slices.Equal
import Derived.Ground.NamesProg
import Derived.Ground.Names2Prog
import Derived.Lib.OwnBridge
import Derived.Shelf.Slices.Empties2
import Derived.Shelf.Strconv.Itoa3
import Derived.Laws.ResultCell
import Derived.Laws.CopyRow
import Derived.BigRegion
set_option maxHeartbeats 8000000
set_option maxRecDepth 100000
set_option linter.all false
namespace Go.Proofs.YtkmninbcgipliaaGreatDoor
open Tryz
section
open Go.RowKit Go.Maps
open Af
theorem agZ:∀ {L:List (List (List UInt8))} {S:List UInt8},Aq.KN L=some S→64*L.length≤S.length∧∀ l∈L,rowLen l≤S.length
 |[],S,h=>by simp[Aq.KN] at h;subst h;simp
 |t :: L,S,h=>by
  simp only[Aq.KN] at h;cases h1:Aq.Hu t with
  |none=>rw[h1] at h;cases h
  |some a=>
   rw[h1] at h;simp only[CF] at h;cases h2:Aq.KN L with
   |none=>rw[h2] at h;cases h
   |some b=>
    rw[h2] at h;simp only[EP,Ci] at h;subst h;obtain⟨g1,g2⟩:=agZ h2;obtain⟨_,g4⟩:=Aq.iZ h1;obtain⟨c,hc,e⟩:=Aq.pR h1;have g5:=uo hc;have g6:c.length≤a.length:=(by rw[e,Aq.RN,Az,A9.BV];omega);rw[Az,BN];refine⟨by omega,fun l hl=>?_⟩;rcases BZ.1 hl with rfl|hl
    ·omega
    ·have:=g2 l hl;omega
theorem ayS(l:List T):2*l.length≤rowLen l∧∀ s∈l,s.length≤rowLen l:=by
 unfold rowLen
 induction l with
 |nil=>simp
 |cons x l ih=>
  obtain⟨h1,h2⟩:=ih;simp only[Ce,Eo,BN];refine⟨by omega,fun s hs=>?_⟩;rcases BZ.1 hs with rfl|hs
  ·omega
  ·have:=h2 s hs;omega
theorem aks{D:A8}(hF:D.BX){g u:Nat}{G:List (List T)}{n:Nat}(h1:1≤n)(hn:1+n≤D.n)(h:Aq.Jt (A8.text D.now 1 n) n=some (g,u,G)):g < 18446744073709551616∧G.length≤20000∧∀ l∈G,l.length≤1000000∧∀ s∈l,s.length≤2000000:=by
 have Gm:=hF.n2;have hlen:(A8.text D.now 1 n).length=64*n:=A8.lN hF.now 1 n (by omega);obtain⟨b1,b2,b3,_⟩:=Aq.kZ h (by rw[hlen];exact Ae _) h1;have hS:(((A8.text D.now 1 n).drop 64).take (64*u)).length≤64*n:=by rw[Be,Cs,hlen];omega
 obtain⟨c1,c2⟩:=agZ b3;refine⟨b2,by omega,fun l hl=>?_⟩;have:=c2 l hl;obtain⟨d1,d2⟩:=ayS l;exact⟨by omega,fun s hs=>by have:=d2 s hs;omega⟩
theorem akq{f:Nat→T}{log size a num:Nat}{A:M}(h:N9 f log size=some (a,num,A)):(f 0=Aq.pad [0]∧a=0∧num=0∧A=[])∨(a≤1∧f 0=Af.mark a num∧num=A9.val (((f 0).take 13).drop 5)∧∃ t r,cut (A8.text f (CS log size a) size)=some (t,r)∧Af.read t=some A):=by
 unfold N9 at h;by_cases h2:f 0=Aq.pad [0]
 ·rw[Ac h2] at h;simp only[Ci,Mx] at h;exact .inl ⟨h2,h.1.symm,h.2.1.symm,h.2.2.symm⟩
 ·rw[Aa h2] at h;by_cases h3:((f 0).getD 4 0).toNat≤1∧f 0=Af.mark ((f 0).getD 4 0).toNat (A9.val (((f 0).take 13).drop 5))
  ·rw[Ac h3] at h;cases hc:cut (A8.text f (CS log size ((f 0).getD 4 0).toNat) size) with
   |none=>rw[hc] at h;cases h
   |some p=>
    rw[hc] at h;simp only[CF] at h;obtain⟨m,hm,e⟩:=Sc.1 h;simp only[Mx] at e;obtain⟨e1,e2,e3⟩:=e;rw[e1,e2] at h3;rw[e1] at hc;exact .inr ⟨h3.1,h3.2,e2.symm,p.1,p.2,hc,by rw[hm,e3]⟩
  ·rw[Aa h3] at h;cases h
theorem axC{D D':A8}{F:St}{k:Int}(h:eB D=(some F,D',k)):k=0∧8≤D.n∧D.down=false∧∃ a num A g u G cs,N9 D.now (lg D.n) (sz D.n)=some (a,num,A)∧Aq.Jt (A8.text D.now 1 (lg D.n)) (lg D.n)=some (g,u,G)∧¬ (0 < num∧g < num -1)∧PY G=some cs∧
  ((g < num∧DR D ⟨1,lg D.n,g,u,G,0⟩=(D',F.w,0)∧F=⟨lg D.n,sz D.n,a,A,F.w,0⟩)∨(¬ g < num∧D'=D∧F=⟨lg D.n,sz D.n,a,OL A cs,⟨1,lg D.n,g,u,G,0⟩,0⟩)):=by
 unfold eB at h;by_cases h8:D.n < 8
 ·rw[Ac h8] at h;simp at h
 rw[Aa h8] at h;by_cases hd:D.down=true
 ·rw[Ac hd] at h;simp at h
 rw[Aa hd] at h;cases h1:N9 D.now (lg D.n) (sz D.n) with
 |none=>rw[h1] at h;simp at h
 |some p=>
  obtain⟨a,num,A⟩:=p;rw[h1] at h;simp only at h;cases h2:Aq.Jt (A8.text D.now 1 (lg D.n)) (lg D.n) with
  |none=>rw[h2] at h;simp at h
  |some p=>
   obtain⟨g,u,G⟩:=p;rw[h2] at h;simp only at h;by_cases h3:0 < num∧g < num -1
   ·rw[Ac h3] at h;simp at h
   rw[Aa h3] at h;cases h4:PY G with
   |none=>rw[h4] at h;simp at h
   |some cs=>
    rw[h4] at h;simp only at h;by_cases h5:g < num
    ·rw[Ac h5] at h;by_cases h6:(DR D ⟨1,lg D.n,g,u,G,0⟩).2.2=0
     ·rw[Ac h6] at h;simp only[Mx,Ci] at h;obtain⟨e1,e2,e3⟩:=h;subst e1;exact⟨e3.symm,by omega,by simpa using hd,a,num,A,g,u,G,cs,rfl,rfl,h3,h4,.inl ⟨h5,Prod.ext e2 (Prod.ext rfl h6),rfl⟩⟩
     ·rw[Aa h6] at h;simp at h
    ·rw[Aa h5] at h;simp only[Mx,Ci] at h;obtain⟨e1,e2,e3⟩:=h;exact⟨e3.symm,by omega,by simpa using hd,a,num,A,g,u,G,cs,rfl,rfl,h3,h4,.inr ⟨h5,e2.symm,e1.symm⟩⟩
theorem lW:∀ (n:Nat) (l:List T) (cs:List Am),l.length≤n→ungroup l=some cs→2*cs.length=l.length:=by
 intro n
 induction n with
 |zero=>
  intro l cs hl h;have:l=[]:=List.eq_nil_of_length_eq_zero (by omega);subst this;simp only[ungroup,Ci] at h;subst h;rfl
 |succ n ih=>
  intro l cs hl h
  match l,hl,h with
  |[],_,h=>simp only[ungroup,Ci] at h;subst h;rfl
  |[_],_,h=>simp[ungroup] at h
  |[] :: _ :: _,_,h=>simp[ungroup] at h
  |(b :: n') :: d :: R,hl,h=>
   simp only[ungroup] at h;split at h
   ·obtain⟨cs',h1,h2⟩:=Sc.1 h;subst h2;have:=ih R cs' (by simp at hl;omega) h1;simp;omega
   ·cases h
theorem anp:∀ {G:List (List T)} {cs:List (List Am)},PY G=some cs→cs.length=G.length∧∀ k (h:k < G.length) (h':k < cs.length),ungroup G[k]=some cs[k]
 |[],cs,h=>by simp only[PY,Ci] at h;subst h;exact⟨rfl,fun k hk=>by simp at hk⟩
 |g :: G,cs,h=>by
  simp only[PY] at h;cases h1:ungroup g with
  |none=>rw[h1] at h;cases h
  |some c=>
   rw[h1] at h;simp only[CF] at h;obtain⟨cs',h2,h3⟩:=Sc.1 h;subst h3;obtain⟨g1,g2⟩:=anp h2;refine⟨by simp[g1],fun k hk hk'=>?_⟩;cases k with
   |zero=>exact h1
   |succ k=>exact g2 k (by simpa using hk) (by simpa using hk')
theorem akA(A:M)(cs:List (List Am))(k:Nat)(h:k < cs.length):OL A (cs.take (k+1))=made (OL A (cs.take k)) cs[k]:=by
 rw[CQ h,akz]
theorem aky(A:M)(cs:List (List Am))(b:Nat)(hb:∀ c∈cs,c.length≤b):(OL A cs).length≤A.length+cs.length*b:=by
 induction cs generalizing A with
 |nil=>simp[OL]
 |cons c cs ih=>
  have h1:=ih (made A c) (fun x hx=>hb x (GI _ hx));have h2:=abT A c;have h3:=hb c Hg
  show(OL (made A c) cs).length≤_
  rw[BN,Nat.succ_mul];omega
theorem Kv.index{w:World}{q:Option Addr}{c:Nat}{L:List (List T)}(h:Kv w (.slice q L.length c) L)(k:Nat)(hk:k < L.length):
  ∃ p:Addr,(∀ W,(Instr.indexAt 155 (.slice q L.length c) (.int .i64 (k:Int))).run prog W=.ok (.pointer (some p)) W)∧∃ ar cr,w.cell? p=some (.slice ar L[k].length cr)∧Dv w ar L[k]:=by
 obtain⟨cs,h1,h2,h3,h4⟩:=h;rcases h1.2 with⟨e1,e2⟩|⟨g,cap,cur,e1,_⟩
 ·omega
 ·injection e1 with e1 e2 e3
  subst e1;have Qu:k < cs.length:=by omega
  obtain⟨ar,cr,er,ht⟩:=(h4 k hk Qu).texts;have hc:=h1.cells (g:=g) rfl k cs[k] (Ei Qu);rw[add_plain,er] at hc;refine⟨⟨g,k,Option.none⟩,fun W=>?_,ar,cr,hc,ht⟩;have:=IM prog 155 61 underlying155 1 (by kernel_rfl) ⟨g,0,Option.none⟩ L.length c k hk W;rw[Nat.mul_one,add_plain] at this;exact this
theorem arT{w:World}{y log size b:Nat}{D:A8}{fp:Nat→Prop}(hd:BI w b D fp)(hy:w.heap[y]?=some (.cells (Kj log size 0 b none none) 116))(DY:D.down=false){a num:Nat}{A:M}(hl:N9 D.now log size=some (a,num,A))
  (jT:log≤16384)(JJ:size≤8192)(Jk:∀ a,a≤1→CS log size a+size≤D.n):
  Calls prog 78 #[.pointer (some ⟨y,0,none⟩)] w fun e w'=>xR w y log size b a num A e w':=by
 rcases akq hl with⟨h0,rfl,rfl,rfl⟩|⟨ha,h0,hn,t,r,hc,hr⟩
 ·exact arV hd hy DY h0
 ·have hv:num < 18446744073709551616:=by
   rw[hn];refine I9 (A9.Jb _) ?_;have hlen:(((D.now 0).take 13).drop 5).length≤8:=(by rw[Cs,Be];omega);exact Ay (Nat.pow_le_pow_right (by decide) hlen) (by decide)
  exact arU hd hy DY ha hv h0 jT JJ (Jk a ha) hc hr
theorem alO:∀ (n:Nat) (lo:Option T) (s:T) (r:M×T),JO n lo s=some r→8*r.1.length+r.2.length≤s.length
 |0,lo,s,r,h=>by simp only[JO,Ci] at h;subst h;simp
 |n+1,lo,s,r,h=>by
  simp only[JO] at h;cases h1:cut s with
  |none=>rw[h1] at h;cases h
  |some p=>
   rw[h1] at h;simp only[CF] at h;cases h2:cut p.2 with
   |none=>rw[h2] at h;cases h
   |some q=>
    rw[h2] at h;simp only[CF] at h;split at h
    ·obtain⟨r',h3,h4⟩:=Sc.1 h;subst h4;have g1:=Vw (p:=p.1) (q:=p.2) h1;have g2:=Vw (p:=q.1) (q:=q.2) h2;have g3:=alO n _ _ _ h3;simp only[BN];omega
    ·cases h
theorem ayB{s:T}{A:M}(h:Af.read s=some A):8*A.length≤s.length:=by
 unfold Af.read at h;split at h
 ·cases h
 ·cases h1:JO (A9.val (s.take 4)) none (s.drop 4) with
  |none=>rw[h1] at h;cases h
  |some r=>
   rw[h1] at h;simp only[CF] at h;split at h
   ·have:=alO _ _ _ _ h1;simp only[Ci] at h;subst h;rw[Cs] at this;omega
   ·cases h
theorem awt{D:A8}(hF:D.BX){log size a num:Nat}{A:M}(h:N9 D.now log size=some (a,num,A))(JJ:size≤8192)(Jk:∀ a,a≤1→CS log size a+size≤D.n):a≤1∧A.length≤100000:=by
 rcases akq h with⟨_,h1,_,rfl⟩|⟨ha,_,_,t,r,hc,hr⟩
 ·exact⟨by omega,by simp⟩
 ·have h1:=Vw hc;have h2:=ayB hr;rw[A8.lN hF.now _ _ (Jk a ha)] at h1;exact⟨ha,by omega⟩
end
section
open Go.RowKit Go.Maps
open Af
def ao4(w:World)(b:Nat)(fp:Nat→Prop)(F:St)(D':A8)(e:Ending)(w':World):Prop:=
 ∃ y m x gv fp',e=.returned (.tuple #[.pointer (some ⟨y,0,none⟩),.int .i64 0])∧BI w' b D' fp'∧Dg w' y b m x gv F∧¬ fp' m∧A7 fp w w'∧Di fp fp' w∧∀ k,Vy y m x gv k→w.heap.size≤k
theorem Kv.acN{w:World}{v:Value}{L:List (List T)}(h:Kv w v L):∃ q cap,v=.slice q L.length cap:=by
 obtain⟨cs,h1,_⟩:=h;exact Bp h1
theorem Dg.ofRaw{W:World}{y mb x b log size a:Nat}{gv:Value}{L:Bz}{A:M}(hy:W.heap[y]?=some (.cells (Kj log size a b (some mb) none) 116))(hm:CG W mb A)(hw:Cj W x b gv L)(h1:log≤16384)(h2:size≤16384)(h3:1≤size)(h4:a≤1):
  Dg (W.setCell ⟨y,5,none⟩ (.pointer (some ⟨x,0,none⟩))) y b mb x gv ⟨log,size,a,A,L,0⟩:=by
 have hu:A7 (fun k=>k=y) W (W.setCell ⟨y,5,none⟩ (.pointer (some ⟨x,0,none⟩))):=(A7.refl (fun k=>k=y) W).setCell (p:=⟨y,5,none⟩) (.inl rfl) _;have hb:Bf W y 116:=⟨_,_,hy⟩
 exact⟨Cf W y 5 _ _ _ hy,hm.upd hu (fun e=>hm.Dp (e▸hb)),hw.upd hu (fun k hk e=>by subst e;exact Bf.ne hk hb (by decide) rfl) (fun k hk e=>by
  subst e;rcases hk with h|h
  ·exact Bf.ne hb (h▸⟨_,_,hw.struct⟩:Bf W k 224) (by decide) rfl
  ·obtain⟨cs',g1,_⟩:=hw.groups;exact Bf.ne hb (CB g1 h) (by decide) rfl),⟨h1,h2,h3,h4⟩⟩
theorem as8{w:World}{b:Nat}{D D':A8}{fp:Nat→Prop}{F:St}(hd:BI w b D fp)(h:eB D=(some F,D',0))(Hw:D.loose.length≤300000000):
  Calls prog 25 #[.pointer (some ⟨b,0,none⟩)] w fun e w'=>ao4 w b fp F D' e w':=by
 obtain⟨_,h8,DY,a,num,A,g,u,G,cs,hl,ho,hng,DK,hend⟩:=axC h;have PI:=hd.fine;have Gm:=PI.n2;obtain⟨l1,l2,l3⟩:=ZJ h8;have HD:=Hi hd;obtain⟨s1,s2,s3⟩:=aks PI (by omega) (by omega) ho;have HS:=Hi (fun(V:World) (h:BI V b D fp)=>Y6 h);have hlg:(max ((D.n:Int) / 8) 2)=((lg D.n:Nat):Int):=by unfold lg;omega
 have BL:((D.n:Int) -1 -((lg D.n:Nat):Int)) / 2=((sz D.n:Nat):Int):=by unfold sz;omega
 have h8':¬ (D.n:Int) < 8:=by omega
 clear hd
 go_in
 go_wp2_with fail;refine(HS _ HD).mono ?_;rintro e w1⟨rfl,rfl⟩;go_wp2_with fail;refine(HS _ HD).mono ?_;rintro e w1⟨rfl,rfl⟩;go_wp2_with fail;have su:=AP w (.cells (Kj (lg D.n) 0 0 b none none) 116);have Bb:Bw w (w.alloc (.cells (Kj (lg D.n) 0 0 b none none) 116)).drew:=((Ah w.heap.size w).alloc (Ae _) _).drew;have AR:=Hi Bb;have xN:=Hi (show(w.alloc (.cells (Kj (lg D.n) 0 0 b none none) 116)).drew.heap[w.heap.size]?=_ from su);have e1:IntKind.i64.wrap ((D.n:Int) -1)=(D.n:Int) -1:=Eh _ (by omega);have e2:IntKind.i64.wrap ((D.n:Int) -1 -((lg D.n:Nat):Int))=(D.n:Int) -1 -((lg D.n:Nat):Int):=Eh _ (by omega);have e3:IntKind.i64.wrap (((D.n:Int) -1 -((lg D.n:Nat):Int)).tdiv 2)=((sz D.n:Nat):Int):=by
  rw[Int.tdiv_eq_ediv_of_nonneg (by omega),BL];exact Eh _ (by omega)
 have Jq:(Kj (lg D.n) 0 0 b none none).setIfInBounds 2 (.int .i64 (IntKind.i64.wrap (((D.n:Int) -1 -((lg D.n:Nat):Int)).tdiv 2)))=Kj (lg D.n) (sz D.n) 0 b none none:=by rw[e3];rfl
 have nN:=Hi Jq;have U7:=Hi (show(w.alloc (.cells ((Kj (lg D.n) 0 0 b none none).setIfInBounds 2 (.int .i64 (IntKind.i64.wrap (((D.n:Int) -1 -((lg D.n:Nat):Int)).tdiv 2)))) 116)).drew.heap[w.heap.size]?=some (.cells (Kj (lg D.n) (sz D.n) 0 b none none) 116) by rw[Jq];exact AP w _);have HD0:=Hi (HD.below Bb);obtain⟨_,d1,d2,_,_,_,_,df⟩:=Kk xN.out;have df2:=df 2;clear df su Bb Jq e3
 go_region_held3 (fun W=>W.cell? ⟨w.heap.size,1,none⟩=some (.int .i64 ((lg D.n:Nat):Int)))
  (first|exact(Kk xN).2.1|exact(Kk U7).2.1)
  (first
   |(go_at_call 77;refine(HS _ HD0).mono ?_;rintro e w1 ⟨rfl,rfl⟩))
 all_goals
  clear d1 d2 df2;go_wp2_with fail;have ajx:(Kj (lg D.n) 0 0 b none none).setIfInBounds 2 (.int .i64 (((D.n:Int) -1 -((lg D.n:Nat):Int)) / 2))=Kj (lg D.n) (sz D.n) 0 b none none:=by rw[BL];rfl
  rw[ajx];have U8:=Hi (show(w.alloc (.cells (Kj (lg D.n) (sz D.n) 0 b none none) 116)).drew.heap[w.heap.size]?=_ from AP w _);have Ak:=Hi (show Bw w (w.alloc (.cells (Kj (lg D.n) (sz D.n) 0 b none none) 116)).drew from((Ah w.heap.size w).alloc (Ae _) _).drew);have Nq:=Hi (HD.below Ak);clear ajx nN U7 xN AR HD0 e1 e2;generalize (w.alloc (.cells (Kj (lg D.n) (sz D.n) 0 b none none) 116)).drew=w2 at*
  refine(arT Nq U8 DY hl (by omega) (by omega) (fun a ha=>by
   unfold CS;have:a*sz D.n≤1*sz D.n:=Nat.mul_le_mul_right _ ha;omega)).mono ?_
  rintro e w3⟨mb,rfl,hy3,Uv,Dk,hn3⟩;have Rm:=Hi hy3;have WG:=Hi Uv;have TY:=Hi (show w.heap.size≤mb from Ay Ak.size hn3);have AA:=Hi (Cq Ak Dk (fun k e=>by subst e;exact Ae _) Ak.size);have OZ:=Hi (HD.below AA);clear hy3 Uv Dk hn3 U8 Ak Nq;obtain⟨_,d1,_⟩:=Kk Rm.out;have hW:D.TF 1 ((lg D.n:Nat):Int)=(some ⟨1,lg D.n,g,u,G,0⟩,0):=by
   unfold A8.TF;rw[Aa (by omega),Aa (by simp[DY])]
   show(match Aq.Jt (A8.text D.now 1 (lg D.n)) (lg D.n) with
    |none=>((none,50):Option Bz×Int)
    |some (g,u,l)=>(some (⟨1,lg D.n,g,u,l,0⟩:Bz),(0:Int)))=_
   rw[ho]
  have rZ:=aBa OZ 1 ((lg D.n:Nat):Int) (by omega) (by omega);unfold Vo at rZ;rw[hW] at rZ;have WS:=Hi rZ;clear rZ hW;go_wp2_with fail;refine WS.mono ?_;rintro e w4⟨x,gv,rfl,Io,AB,hn4⟩;have nR:=Hi (show ∀ k,BP x gv k→w.heap.size≤k from fun k hk=>Ay AA.size (hn4 k hk));have AU:=bH AA AB;have Qk:=Hi ((AB.block w.heap.size (Ao Rm)).trans Rm);have Vf:=Hi (WG.below AB);have SE:=Hi Io;have TU:=Hi (fun(V:World) (h:Cj V x b gv ⟨1,lg D.n,g,u,G,0⟩)=>anH h);have aF:=Hi (aB8 Io (by show G.length≤_;omega) (fun l hl=>by have:=(s3 l hl).1;omega));clear Io AB hn4 AA Rm WG OZ WS d1;have Tq:=anp DK;have Pk:=Hi Tq;have Jy:=Hi s3
  obtain⟨qz,hAl⟩:=awt PI hl (by omega) (fun a ha=>by
   unfold CS;have:a*sz D.n≤1*sz D.n:=Nat.mul_le_mul_right _ ha;omega)
  have Ve:=Hi hl;have HHO:=Hi ho;clear s3 hl ho Tq hlg BL h8';rcases hend with⟨hlt,dP,hF⟩|⟨IG,e,rfl⟩
  ·have h1:(0:Int) < (num:Int):=(by omega);have Jr:IntKind.u64.wrap ((num:Int) -1)=((num -1:Nat):Int):=by
    have:num≤18446744073709551616:=(by omega);simp[IntKind.wrap,IntKind.bits,IntKind.signed];omega
   have GX:¬ g < num -1:=(by omega);have Fp:g < num:=hlt;have Pf:=Hi dP;generalize hL2:F.w=L2 at*;clear dP;subst hF;clear hng hL2;go_wp2_with fail;refine(TU _ SE).mono ?_;rintro e w4'⟨rfl,rfl⟩;go_wp2_with fail;refine aF.mono ?_;rintro e w5⟨v5,rfl,PN,Bo,Tt⟩;obtain⟨q5,c5,rfl⟩:=PN.acN;have Je:=Hi PN;have Cy:=bH AU Bo;have IA:=Hi ((Bo.block w.heap.size (Ao Qk)).trans Qk);have FT:=Hi (Vf.below Bo);have KH:=Hi (SE.below Bo);obtain⟨es,ck,Ou⟩:=FT.is;have Sm:=Hi Ou
   have Jw:=Hi (show ∀ (F:Nat→Prop) (W:World),A7 F w5 W→(∀ k,F k→k=mb)→Cj W x b gv ⟨1,lg D.n,g,u,G,0⟩ from fun F W hu hF=>KH.upd hu (fun k hk e=>by rw[hF k e] at hk;exact FT.Dp hk) (fun k hk e=>by
    rw[hF k e] at hk;rcases hk with h|h
    ·exact FT.Dp (t:=224) (h▸⟨_,_,KH.struct⟩)
    ·obtain⟨cs',h1,_⟩:=KH.groups;exact FT.Dp (CB h1 h)))
   clear PN Bo Tt Ou Qk Vf SE aF;go_wp2
   go_loopw [9,10,11,75] (fun _ _ _ i wr=>∃ k:Nat,k≤G.length∧i=.int .i64 k∧CG wr mb A∧A7 (fun k=>k=mb) w5 wr) (fun _ _ _ i _=>G.length -(intOf i).toNat)
   case atStart=>exact⟨0,AZ _,rfl,FT,A7.refl _ _⟩
   case round=>
    obtain⟨k,hk,rfl,hm,hu⟩:=hrel;by_cases hlt:k < G.length
    ·have Uu:k < cs.length:=(by rw[Pk.1];exact hlt);obtain⟨p,Cx,ar,cr,hc,GD⟩:=Je.index k hlt;have Oq:wr.cell? p=some (.slice ar G[k].length cr):=(hu.cell (D7 hc) (ZN hc Sm)).trans hc
     have XJ:Dv wr ar G[k]:=GD.upd hu (fun p' MU hne=>by
      obtain⟨p2,Jp,h3⟩:=GD 0 (List.length_pos_iff.2 hne);rw[MU] at Jp;injection Jp with Jp
      subst Jp;have:=ZN h3 Sm;rwa[add_block] at this)
     have ja:=Jy _ (Dc hlt);have H8:=Pk.2 k hlt Uu;have Mf:=ad5 _ _ _ (Ae _) H8;have Hz:=lW _ _ _ (Ae _) H8;have PL:=zC (cap:=cr) XJ (by omega) (fun s hs=>by have:=ja.2 s hs;omega);unfold WV at PL;rw[H8] at PL;have BJ:cs[k].length≤1000000:=(by omega);have Sq:=Hi PL;have Sy:=Hi Mf;have HM:=Hi hm;have HU:=Hi hu;clear hc GD XJ H8 Mf Hz PL hm hu;generalize G[k]=Gk at*;generalize cs[k]=ck at*;clear Uu;go_wp2_with fail;refine Sq.mono ?_;rintro e w6⟨q6,c6,rfl,IJ,Cb⟩;have mR:=Hi (Ew.D9 IJ);have gX:=Hi (HM.below Cb);have KG:=Hi (HU.trans (A7.of_below (F:=fun k=>k=mb) Cb) (fun i hi=>.inl hi));clear IJ Cb Oq;have MZ:=Jw _ _ KG (fun k e=>e);have N8:=(KG.block w.heap.size (Ao IA) (fun e=>FT.Dp (t:=116) (e▸⟨_,_,IA⟩))).trans IA.out;obtain⟨_,_,_,_,d4,_⟩:=Kk N8;have M6:=Hi MZ;clear MZ N8;go_wp2_with fail;refine(TU _ M6).mono ?_;rintro e w7⟨rfl,rfl⟩;go_wp2;go_roundw
     case rel=>exact⟨k+1,by omega,by go_num,gX,KG⟩
     case measure=>simp[intOf];omega
    ·obtain rfl:k=G.length:=(by omega);have HM:=Hi hm;have HU:=Hi hu;clear hm hu;have MZ:=Jw _ _ HU (fun k e=>e);have N8:=(HU.block w.heap.size (Ao IA) (fun e=>FT.Dp (t:=116) (e▸⟨_,_,IA⟩))).trans IA.out;have M6:=Hi MZ;have Oh:=Hi N8;clear MZ N8;go_wp2_with fail;refine(TU _ M6).mono ?_;rintro e w7⟨rfl,rfl⟩;have EW:=Cq Cy HU (fun k e=>by subst e;exact TY.out) Cy.size;have Ed:=Hi EW;have Mh:=am2 (HD.below EW) M6 (by omega);rw[Pf.out] at Mh;have Ej:=Hi Mh;clear EW Mh;go_wp2_with fail;refine Ej.mono ?_;rintro e w9⟨rfl,fp9,gv9,g1,g2,g3,g4,g5⟩;have Oc:=Hi (show ∀ k,w.heap.size≤k→¬ fp k from fun k hk e=>by have:=HD.lt _ e;omega);have hny:¬ (fp w.heap.size∨BP x gv w.heap.size):=by
      rintro(e|e|e)
      ·exact Oc _ (Ae _) e
      ·exact Bf.ne (⟨_,_,Oh⟩:Bf _ w.heap.size 116) (e▸⟨_,_,M6.struct⟩:Bf _ w.heap.size 224) (by decide) rfl
      ·obtain⟨cs',h1,_⟩:=M6.groups;exact Bf.ne (⟨_,_,Oh⟩:Bf _ w.heap.size 116) (CB h1 e) (by decide) rfl
     have Jo:¬ (fp mb∨BP x gv mb):=by
      rintro(e|e|e)
      ·exact Oc _ TY e
      ·exact HM.Dp (t:=224) (e▸⟨_,_,M6.struct⟩)
      ·obtain⟨cs',h1,_⟩:=M6.groups;exact HM.Dp (CB h1 e)
     have hy9:=(g3.block w.heap.size (Ao Oh) hny).trans Oh.out;have xQ:=Hi hy9;have Rb:=Hi (HM.upd g3 Jo);have Iw:=Hi g1;have Du:=Hi g2;have GL:=Hi g3;have Iz:=Hi g4;have Je:=Hi g5;have aoO:=Hi HM.lt;clear g1 g2 g3 g4 g5 hny Jo hy9;obtain⟨_,_,_,_,_,d5,_,df⟩:=Kk xQ.out;have SG:=df 5;clear df;go_wp2;go_ret2;have Bl:Di fp fp9 w:=fun i hi=>(Iz i hi).imp id (fun e=>Ay Ed.size e)
     refine⟨w.heap.size,mb,x,gv9,fp9,rfl,Iw.upd ((A7.refl (fun k=>k=w.heap.size) _).setCell (p:=⟨w.heap.size,5,none⟩) (.inl rfl) _) (fun k hk e=>by subst e;exact Iw.Dp _ hk (by decide) (by decide) ⟨_,_,xQ⟩),Dg.ofRaw xQ Rb Du (by omega) (by omega) (by omega) qz,fun e=>(Iz mb e).elim (Oc _ TY) (fun f=>by have:=aoO.out;omega),((A7.of_below Ed).trans GL (fun i hi=>hi.elim .inl (fun e=>.inr (nR i e)))).setCell (p:=⟨w.heap.size,5,none⟩) (.inr (Ae _)) _,Bl,?_⟩;rintro k (rfl|rfl|hk)
     ·exact Ae _
     ·exact TY.out
     ·exact(Je k hk).elim (nR k) (fun e=>Ay Ed.size e)
  ·have e:=e.symm;subst e;by_cases h0:num=0
   ·subst h0;clear hng IG;go_wp2_with fail;refine aF.mono ?_;rintro e w5⟨v5,rfl,PN,Bo,Tt⟩;obtain⟨q5,c5,rfl⟩:=PN.acN;have Je:=Hi PN;have Cy:=bH AU Bo;have IA:=Hi ((Bo.block w.heap.size (Ao Qk)).trans Qk);have FT:=Hi (Vf.below Bo);have KH:=Hi (SE.below Bo);obtain⟨es,ck,Ou⟩:=FT.is;have Sm:=Hi Ou
    have Jw:=Hi (show ∀ (F:Nat→Prop) (W:World),A7 F w5 W→(∀ k,F k→k=mb)→Cj W x b gv ⟨1,lg D.n,g,u,G,0⟩ from fun F W hu hF=>KH.upd hu (fun k hk e=>by rw[hF k e] at hk;exact FT.Dp hk) (fun k hk e=>by
     rw[hF k e] at hk;rcases hk with h|h
     ·exact FT.Dp (t:=224) (h▸⟨_,_,KH.struct⟩)
     ·obtain⟨cs',h1,_⟩:=KH.groups;exact FT.Dp (CB h1 h)))
    clear PN Bo Tt Ou Qk Vf SE aF;go_wp2
    go_loopw [9,10,11,75] (fun _ _ _ i wr=>∃ k:Nat,k≤G.length∧i=.int .i64 k∧CG wr mb (OL A (cs.take k))∧A7 (fun k=>k=mb) w5 wr) (fun _ _ _ i _=>G.length -(intOf i).toNat)
    case atStart=>exact⟨0,AZ _,rfl,FT,A7.refl _ _⟩
    case round=>
     obtain⟨k,hk,rfl,hm,hu⟩:=hrel;by_cases hlt:k < G.length
     ·have Uu:k < cs.length:=(by rw[Pk.1];exact hlt);obtain⟨p,Cx,ar,cr,hc,GD⟩:=Je.index k hlt;have Oq:wr.cell? p=some (.slice ar G[k].length cr):=(hu.cell (D7 hc) (ZN hc Sm)).trans hc
      have XJ:Dv wr ar G[k]:=GD.upd hu (fun p' MU hne=>by
       obtain⟨p2,Jp,h3⟩:=GD 0 (List.length_pos_iff.2 hne);rw[MU] at Jp;injection Jp with Jp
       subst Jp;have:=ZN h3 Sm;rwa[add_block] at this)
      have ja:=Jy _ (Dc hlt);have H8:=Pk.2 k hlt Uu;have Mf:=ad5 _ _ _ (Ae _) H8;have Hz:=lW _ _ _ (Ae _) H8;have PL:=zC (cap:=cr) XJ (by omega) (fun s hs=>by have:=ja.2 s hs;omega);unfold WV at PL;rw[H8] at PL;have wN:=Hi (akA A cs k Uu)
      have hlen:=aky A (cs.take k) 1000000 (fun c hc=>by
       obtain⟨j,hj,rfl⟩:=List.getElem_of_mem (List.mem_of_mem_take hc);have h1:=Pk.2 j (by rw[←Pk.1];exact hj) hj;have h2:=lW _ _ _ (Ae _) h1;have h3:=(Jy _ (Dc (by rw[←Pk.1];exact hj:j < G.length))).1;omega)
      have Qu:(cs.take k).length≤20000:=(by rw[Be];omega);have jS:(OL A (cs.take k)).length≤1000000000000000:=by
       refine Ay hlen ?_;have:(cs.take k).length*1000000≤20000*1000000:=Nat.mul_le_mul_right _ Qu;omega
      have BJ:cs[k].length≤1000000:=(by omega);have Sq:=Hi PL;have Sy:=Hi Mf;have HM:=Hi hm;have HU:=Hi hu;have LY:=Hi jS;clear hc GD XJ H8 Mf Hz PL hlen jS hm hu Qu;generalize G[k]=Gk at*;generalize cs[k]=ck at*;clear Uu;go_wp2_with fail;refine Sq.mono ?_;rintro e w6⟨q6,c6,rfl,IJ,Cb⟩;have mR:=Hi (Ew.D9 IJ);have gX:=Hi (HM.below Cb);have KG:=Hi (HU.trans (A7.of_below (F:=fun k=>k=mb) Cb) (fun i hi=>.inl hi));clear IJ Cb Oq;have MZ:=Jw _ _ KG (fun k e=>e);have N8:=(KG.block w.heap.size (Ao IA) (fun e=>FT.Dp (t:=116) (e▸⟨_,_,IA⟩))).trans IA.out;obtain⟨_,_,_,_,d4,_⟩:=Kk N8;have M6:=Hi MZ;clear MZ N8;go_wp2_with fail;refine(TU _ M6).mono ?_;rintro e w7⟨rfl,rfl⟩;go_wp2_with fail
      refine(zw (cap:=c6) gX mR BJ LY (fun c hc=>by
       have:=Sy c hc;unfold Am.may Fq at this;simp at this;unfold maxLen;omega)).mono ?_
      rintro e w8⟨rfl,VM,PT⟩;have TW:=Hi VM;have iy:=Hi (KG.trans PT (fun i hi=>.inl hi));clear VM PT d4;go_wp2;go_roundw
      case rel=>exact⟨k+1,by omega,by go_num,by rw[wN.out];exact TW.out,iy⟩
      case measure=>simp[intOf];omega
     ·obtain rfl:k=G.length:=(by omega);have J3:cs.take G.length=cs:=(by rw[←Pk.1,Dq]);rw[J3] at hm;have HM:=Hi hm;have HU:=Hi hu;clear J3 hm hu;have MZ:=Jw _ _ HU (fun k e=>e);have N8:=(HU.block w.heap.size (Ao IA) (fun e=>FT.Dp (t:=116) (e▸⟨_,_,IA⟩))).trans IA.out;have M6:=Hi MZ;have Oh:=Hi N8;clear MZ N8;go_wp2_with fail;refine(TU _ M6).mono ?_;rintro e w7⟨rfl,rfl⟩;obtain⟨_,_,_,_,_,d5,_,df⟩:=Kk Oh.out;have SG:=df 5;clear df;go_wp2;go_ret2;have EW:=Cq Cy HU (fun k e=>by subst e;exact TY.out) Cy.size;refine⟨w.heap.size,mb,x,gv,fp,rfl,(HD.below EW).upd ((A7.refl (fun k=>k=w.heap.size) _).setCell (p:=⟨w.heap.size,5,none⟩) (.inl rfl) _) (fun k hk e=>by subst e;have:=HD.lt _ hk;omega),Dg.ofRaw Oh HM M6 (by omega) (by omega) (by omega) qz,fun e=>by have:=HD.lt _ e;have:=TY.out;omega,(A7.of_below EW).setCell (p:=⟨w.heap.size,5,none⟩) (.inr (Ae _)) _,fun _ h=>.inl h,?_⟩;rintro k (rfl|rfl|hk)
      ·exact Ae _
      ·exact TY.out
      ·exact nR k hk
   ·have h1:(0:Int) < (num:Int):=(by omega);have Jr:IntKind.u64.wrap ((num:Int) -1)=((num -1:Nat):Int):=by
     simp[IntKind.wrap,IntKind.bits,IntKind.signed];omega
    have GX:¬ g < num -1:=(by omega);have Fp:num≤g:=(by omega);clear hng IG h0;go_wp2_with fail;refine(TU _ SE).mono ?_;rintro e w4'⟨rfl,rfl⟩;go_wp2_with fail;refine aF.mono ?_;rintro e w5⟨v5,rfl,PN,Bo,Tt⟩;obtain⟨q5,c5,rfl⟩:=PN.acN;have Je:=Hi PN;have Cy:=bH AU Bo;have IA:=Hi ((Bo.block w.heap.size (Ao Qk)).trans Qk);have FT:=Hi (Vf.below Bo);have KH:=Hi (SE.below Bo);obtain⟨es,ck,Ou⟩:=FT.is;have Sm:=Hi Ou
    have Jw:=Hi (show ∀ (F:Nat→Prop) (W:World),A7 F w5 W→(∀ k,F k→k=mb)→Cj W x b gv ⟨1,lg D.n,g,u,G,0⟩ from fun F W hu hF=>KH.upd hu (fun k hk e=>by rw[hF k e] at hk;exact FT.Dp hk) (fun k hk e=>by
     rw[hF k e] at hk;rcases hk with h|h
     ·exact FT.Dp (t:=224) (h▸⟨_,_,KH.struct⟩)
     ·obtain⟨cs',h1,_⟩:=KH.groups;exact FT.Dp (CB h1 h)))
    clear PN Bo Tt Ou Qk Vf SE aF;go_wp2
    go_loopw [9,10,11,75] (fun _ _ _ i wr=>∃ k:Nat,k≤G.length∧i=.int .i64 k∧CG wr mb (OL A (cs.take k))∧A7 (fun k=>k=mb) w5 wr) (fun _ _ _ i _=>G.length -(intOf i).toNat)
    case atStart=>exact⟨0,AZ _,rfl,FT,A7.refl _ _⟩
    case round=>
     obtain⟨k,hk,rfl,hm,hu⟩:=hrel;by_cases hlt:k < G.length
     ·have Uu:k < cs.length:=(by rw[Pk.1];exact hlt);obtain⟨p,Cx,ar,cr,hc,GD⟩:=Je.index k hlt;have Oq:wr.cell? p=some (.slice ar G[k].length cr):=(hu.cell (D7 hc) (ZN hc Sm)).trans hc
      have XJ:Dv wr ar G[k]:=GD.upd hu (fun p' MU hne=>by
       obtain⟨p2,Jp,h3⟩:=GD 0 (List.length_pos_iff.2 hne);rw[MU] at Jp;injection Jp with Jp
       subst Jp;have:=ZN h3 Sm;rwa[add_block] at this)
      have ja:=Jy _ (Dc hlt);have H8:=Pk.2 k hlt Uu;have Mf:=ad5 _ _ _ (Ae _) H8;have Hz:=lW _ _ _ (Ae _) H8;have PL:=zC (cap:=cr) XJ (by omega) (fun s hs=>by have:=ja.2 s hs;omega);unfold WV at PL;rw[H8] at PL;have wN:=Hi (akA A cs k Uu)
      have hlen:=aky A (cs.take k) 1000000 (fun c hc=>by
       obtain⟨j,hj,rfl⟩:=List.getElem_of_mem (List.mem_of_mem_take hc);have h1:=Pk.2 j (by rw[←Pk.1];exact hj) hj;have h2:=lW _ _ _ (Ae _) h1;have h3:=(Jy _ (Dc (by rw[←Pk.1];exact hj:j < G.length))).1;omega)
      have Qu:(cs.take k).length≤20000:=(by rw[Be];omega);have jS:(OL A (cs.take k)).length≤1000000000000000:=by
       refine Ay hlen ?_;have:(cs.take k).length*1000000≤20000*1000000:=Nat.mul_le_mul_right _ Qu;omega
      have BJ:cs[k].length≤1000000:=(by omega);have Sq:=Hi PL;have Sy:=Hi Mf;have HM:=Hi hm;have HU:=Hi hu;have LY:=Hi jS;clear hc GD XJ H8 Mf Hz PL hlen jS hm hu Qu;generalize G[k]=Gk at*;generalize cs[k]=ck at*;clear Uu;go_wp2_with fail;refine Sq.mono ?_;rintro e w6⟨q6,c6,rfl,IJ,Cb⟩;have mR:=Hi (Ew.D9 IJ);have gX:=Hi (HM.below Cb);have KG:=Hi (HU.trans (A7.of_below (F:=fun k=>k=mb) Cb) (fun i hi=>.inl hi));clear IJ Cb Oq;have MZ:=Jw _ _ KG (fun k e=>e);have N8:=(KG.block w.heap.size (Ao IA) (fun e=>FT.Dp (t:=116) (e▸⟨_,_,IA⟩))).trans IA.out;obtain⟨_,_,_,_,d4,_⟩:=Kk N8;have M6:=Hi MZ;clear MZ N8;go_wp2_with fail;refine(TU _ M6).mono ?_;rintro e w7⟨rfl,rfl⟩;go_wp2_with fail
      refine(zw (cap:=c6) gX mR BJ LY (fun c hc=>by
       have:=Sy c hc;unfold Am.may Fq at this;simp at this;unfold maxLen;omega)).mono ?_
      rintro e w8⟨rfl,VM,PT⟩;have TW:=Hi VM;have iy:=Hi (KG.trans PT (fun i hi=>.inl hi));clear VM PT d4;go_wp2;go_roundw
      case rel=>exact⟨k+1,by omega,by go_num,by rw[wN.out];exact TW.out,iy⟩
      case measure=>simp[intOf];omega
     ·obtain rfl:k=G.length:=(by omega);have J3:cs.take G.length=cs:=(by rw[←Pk.1,Dq]);rw[J3] at hm;have HM:=Hi hm;have HU:=Hi hu;clear J3 hm hu;have MZ:=Jw _ _ HU (fun k e=>e);have N8:=(HU.block w.heap.size (Ao IA) (fun e=>FT.Dp (t:=116) (e▸⟨_,_,IA⟩))).trans IA.out;have M6:=Hi MZ;have Oh:=Hi N8;clear MZ N8;go_wp2_with fail;refine(TU _ M6).mono ?_;rintro e w7⟨rfl,rfl⟩;obtain⟨_,_,_,_,_,d5,_,df⟩:=Kk Oh.out;have SG:=df 5;clear df;go_wp2;go_ret2;have EW:=Cq Cy HU (fun k e=>by subst e;exact TY.out) Cy.size;refine⟨w.heap.size,mb,x,gv,fp,rfl,(HD.below EW).upd ((A7.refl (fun k=>k=w.heap.size) _).setCell (p:=⟨w.heap.size,5,none⟩) (.inl rfl) _) (fun k hk e=>by subst e;have:=HD.lt _ hk;omega),Dg.ofRaw Oh HM M6 (by omega) (by omega) (by omega) qz,fun e=>by have:=HD.lt _ e;have:=TY.out;omega,(A7.of_below EW).setCell (p:=⟨w.heap.size,5,none⟩) (.inr (Ae _)) _,fun _ h=>.inl h,?_⟩;rintro k (rfl|rfl|hk)
      ·exact Ae _
      ·exact TY.out
      ·exact nR k hk
end
namespace Af
theorem aqE(k:T)(F:M):((del k F).map cost).sum≤(F.map cost).sum:=by
 unfold del
 induction F with
 |nil=>simp
 |cons p F ih=>
  rw[List.filter_cons];split
  ·simp only[Ce,Eo];omega
  ·simp only[Ce,Eo];omega
theorem aAQ{F:M}(hu:Up F)(c:Am):used (Am.on F c)≤used F+(8+c.name.length+c.data.length):=by
 unfold Am.on used;have hd:=aqE c.name F;split
 ·omega
 ·have hp:=((ZT (v:=c.data) hu c.name).map cost).sum_nat;rw[hp,Ce,Eo];have:cost (c.name,c.data)=8+c.name.length+c.data.length:=rfl;omega
def F8(l:List Am):Nat:=(l.map fun c=>8+c.name.length+c.data.length).sum
theorem anK{l:List Am}{c:Am}(h:c∈l):8+c.name.length+c.data.length≤F8 l:=by
 unfold F8
 induction l with
 |nil=>simp at h
 |cons x l ih=>
  rw[Ce,Eo];rcases BZ.1 h with rfl|h
  ·omega
  ·have:=ih h;omega
theorem UR{F:M}(hu:Up F)(l:List Am):used (made F l)≤used F+F8 l:=by
 induction l generalizing F with
 |nil=>exact Nat.le_add_right _ _
 |cons c l ih=>
  have h1:=ih (hu.on c);have h2:=aAQ hu c
  show used (made (Am.on F c) l)≤_
  unfold F8 at h1 ⊢;rw[Ce,Eo];omega
theorem agY(l:List Am):rowLen (group l)≤2+F8 l:=by
 unfold rowLen F8 group
 induction l with
 |nil=>simp
 |cons c l ih=>
  simp only[Q0,D6,OQ,Ce,Eo,Kq,List.sum_nil,BN] at ih ⊢;omega
def Cn(n:Nat):Nat:=sz n*64 -4
def Fy(n:Nat)(A:M)(l:List Am):Int:=if l.all Am.may=false then 2 else if Cn n < used (made A l) then 4 else 0
def Es(n:Nat)(A:M)(l:List Am):M:=if l.all Am.may=true∧used (made A l)≤Cn n then made A l else A
end Af
section
open Go.RowKit Go.Maps
open Af
def FZ(fz:Bool)(w:World)(b y:Nat)(bl:Nat→Prop)(n N:Nat)(A:M):Prop:=
 ∃ D fp m x gv F,BI w b D fp∧Dg w y b m x gv F∧¬ fp m∧Af.Calm D F∧(fz=false→D.left= -1)∧D.n=n∧F.w.gen≤N∧F.m=A∧(∀ k,fp k∨Vy y m x gv k→bl k)
abbrev Sg:=FZ false
def kL:List TypeId:=[144,242,116,224,61]
def Ig(w:World)(bl:Nat→Prop)(k:Nat):Prop:=bl k∧∀ t,Bf w k t→t∈kL
theorem Ig.not{w:World}{bl:Nat→Prop}{k:Nat}{t:TypeId}(h:Ig w bl k)(hb:Bf w k t)(ht:t∉kL):False:=ht (h.2 t hb)
section
variable {w w':World}{b y:Nat}{bl:Nat→Prop}{n N:Nat}{A:M}{fz:Bool}
theorem FZ.upd{P:Nat→Prop}(h:FZ fz w b y bl n N A)(hu:A7 P w w')(hs:∀ k,Bf w k 9→¬ P k)(hP:∀ k,bl k→¬ P k):FZ fz w' b y bl n N A:=by
 obtain⟨D,fp,m,x,gv,F,h1,h2,h3,h4,h5,h6,h7,h8,h9⟩:=h;exact⟨D,fp,m,x,gv,F,h1.upd hu (fun k hk=>hP k (h9 k (.inl hk))),h2.upd hu hs (fun k hk=>hP k (h9 k (.inr hk))),h3,h4,h5,h6,h7,h8,h9⟩
theorem FZ.below(h:FZ fz w b y bl n N A)(hb:Bw w w'):FZ fz w' b y bl n N A:=h.upd (ub hb) (fun _ _ f=>f) (fun _ _ f=>f)
theorem FZ.more{N':Nat}(h:FZ fz w b y bl n N A)(hN:N≤N'):FZ fz w b y bl n N' A:=by
 obtain⟨D,fp,m,x,gv,F,h1,h2,h3,h4,h5,h6,h7,h8,h9⟩:=h;exact⟨D,fp,m,x,gv,F,h1,h2,h3,h4,h5,h6,by omega,h8,h9⟩
theorem FZ.up(h:FZ fz w b y bl n N A):Up A∧Af.Good A∧used A≤Cn n∧8≤n∧n≤16384:=by
 obtain⟨D,fp,m,x,gv,F,h1,h2,h3,h4,h5,h6,h7,h8,h9⟩:=h;subst h8 h6;refine⟨h4.up,h4.good,?_,h4.n8,h4.disk.fine.n2⟩;have:=h4.room;unfold St.room at this;rw[h4.size] at this;exact this
theorem ZX{n:Nat}(h:n≤16384):Cn n≤524288:=by unfold Cn sz lg;omega
theorem akX{D:A8}{fp:Nat→Prop}{m x:Nat}{gv:Value}{F:St}(hd:BI w b D fp)(hf:Dg w y b m x gv F)(h9:∀ k,fp k∨Vy y m x gv k→bl k)(k:Nat)(hk:fp k∨k=y∨BP x gv k):Ig w bl k:=by
 refine⟨h9 k (hk.imp id (fun e=>e.elim .inl (fun e=>.inr (.inr e)))),fun t hb=>?_⟩;unfold kL;rcases hk with e|e|e
 ·by_cases h1:t=144
  ·subst h1;simp
  ·by_cases h2:t=242
   ·subst h2;simp
   ·exact(hd.Dp _ e h1 h2 hb).elim
 ·subst e;by_cases h1:t=116
  ·subst h1;simp
  ·exact(Bf.ne hb hf.blk h1 rfl).elim
 ·rcases hf.DZ.kind e with g|g
  ·by_cases h1:t=224
   ·subst h1;simp
   ·exact(Bf.ne hb g h1 rfl).elim
  ·by_cases h1:t=61
   ·subst h1;simp
   ·exact(Bf.ne hb g h1 rfl).elim
theorem A7.noS{bl:Nat→Prop}(hu:A7 (Ig w bl) w w'){k:Nat}{t:TypeId}{cs:Array Value}{fr:Nat×Nat}(h:w.heap[k]?=some (.cells cs t fr))(ht:t∉kL):w'.heap[k]?=some (.cells cs t fr):=
 (hu.block k (Ao h) (fun e=>e.not ⟨_,_,h⟩ ht)).trans h
theorem ah0{D:A8}{F:St}(h:Af.Calm D F):F.w.groups.length≤20000:=by
 have hw:=h.DZ;unfold logAt at hw;obtain⟨g1,g2,g3⟩:=ZJ h.n8;rw[h.TI,h.wn,h.log,←h.disk.now] at hw;exact(aks h.disk.fine (by omega) (by omega) hw).2.1
def fO(w:World)(b y:Nat)(bl:Nat→Prop)(n N:Nat)(A A':M):Prop:=
 ∃ D fp m x gv F,BI w b D fp∧Dg w y b m x gv F∧¬ fp m∧F.fault=40∧D.loose.length≤100000000∧D.n=n∧(Af.Good A∧used A≤Cn n∧n≤16384)∧F.m=A∧(∀ keep,∃ F' D',nY (D.NC keep) F' D'∧D'.left= -1∧F'.w.gen≤N∧(F'.m=A∨F'.m=A'))∧(∀ k,fp k∨Vy y m x gv k→bl k)
def av(fz:Bool)(w:World)(b y:Nat)(bl:Nat→Prop)(n N:Nat)(A:M)(r:Int×M)(c:Int):Prop:=
 (c=r.1∧FZ fz w b y bl n N r.2)∨(fz=true∧c=40∧r.1=0∧fO w b y bl n N A r.2)
theorem av.calm{r:Int×M}{c:Int}(h:av false w b y bl n N A r c):c=r.1∧Sg w b y bl n N r.2:=by
 rcases h with h|⟨h,_⟩
 ·exact h
 ·cases h
theorem yY(l:List (A8→A8×Int))(D:A8)(h:∀ f∈l,∀ D,(f D).1.loose.length≤D.loose.length+1000000)(hl:l.length≤4):(Bt l D).1.loose.length≤D.loose.length+4000000:=by
 have:=afS 1000000 l D h;omega
theorem ayG(D:A8)(L:Bz):(DR D L).1.loose.length≤D.loose.length+4000000:=by
 have hd:=yY L.LB D (fun f hf D=>by
  unfold Bz.LB at hf;simp only[BZ,List.not_mem_nil,or_false] at hf;rcases hf with rfl|rfl
  ·have:=A8.TJ D (L.from_:Int) (Aq.mark ((L.gen+1) % 18446744073709551616) 0);rw[Aq.NY] at this
   show(D.write (L.from_:Int) (Aq.mark ((L.gen+1) % 18446744073709551616) 0)).1.loose.length≤_
   omega
  ·have:=A8.Uh D;omega) (by show 2≤4;omega)
 unfold DR;split
 ·show D.loose.length≤_;omega
 ·split<;>exact hd
theorem apM(D:A8)(L:Bz)(l:List T)(hl:rowLen l≤10000000):(Dw D L l).1.loose.length≤D.loose.length+4000000:=by
 unfold Dw;split
 ·show D.loose.length≤_;omega
 ·split
  ·show D.loose.length≤_;omega
  ·rename_i s hs
   have GZ:s.length≤rowLen l+68:=by
    have:=zN l;unfold JE at this;rw[hs] at this;exact this
   have hd:=yY (L.acts s) D (fun f hf D=>by
    unfold Bz.acts at hf;simp only[BZ,List.not_mem_nil,or_false] at hf;rcases hf with rfl|rfl|rfl|rfl
    ·have:=A8.TJ D ((L.from_+1+L.used:Nat):Int) s
     show(D.write ((L.from_+1+L.used:Nat):Int) s).1.loose.length≤_
     omega
    ·have:=A8.Uh D;omega
    ·have:=A8.TJ D (L.from_:Int) (Aq.mark L.gen (L.used+s.length / 64));rw[Aq.NY] at this
     show(D.write (L.from_:Int) (Aq.mark L.gen (L.used+s.length / 64))).1.loose.length≤_
     omega
    ·have:=A8.Uh D;omega) (by show 4≤4;omega)
   split
   ·show D.loose.length≤_;omega
   ·split<;>exact hd
theorem awj(D:A8)(F:St)(m:M)(hu:used m≤10000000):(OJ D F m).1.loose.length≤D.loose.length+8000000:=by
 have ha:=aeY m
 have hd:=yY (I1 F m) D (fun f hf D=>by
  unfold I1 at hf;simp only[BZ,List.not_mem_nil,or_false] at hf;rcases hf with rfl|rfl|rfl|rfl
  ·have:=A8.TJ D ((CS F.log F.size (1 -F.AL):Nat):Int) (Qn m)
   show(D.write ((CS F.log F.size (1 -F.AL):Nat):Int) (Qn m)).1.loose.length≤_
   omega
  ·have:=A8.Uh D;omega
  ·have:=A8.TJ D ((0:Nat):Int) (Af.mark (1 -F.AL) ((F.w.gen+1) % 18446744073709551616));rw[Af.NY] at this
   show(D.write ((0:Nat):Int) (Af.mark (1 -F.AL) ((F.w.gen+1) % 18446744073709551616))).1.loose.length≤_
   omega
  ·have:=A8.Uh D;omega) (by show 4≤4;omega)
 have hr:=ayG (Bt (I1 F m) D).1 F.w;unfold OJ;split
 ·split
  ·show(DR (Bt (I1 F m) D).1 F.w).1.loose.length≤_;omega
  ·show(DR (Bt (I1 F m) D).1 F.w).1.loose.length≤_;omega
 ·show(Bt (I1 F m) D).1.loose.length≤_;omega
theorem yM(D:A8)(F:St)(l:List Am)(h1:rowLen (group l)≤10000000)(h2:used (made F.m l)≤10000000):(JD D F l).1.loose.length≤D.loose.length+8000000:=by
 have ha:=apM D F.w (group l) h1;have hl:=awj D F (made F.m l) h2;unfold JD;split
 ·show D.loose.length≤_;omega
 ·split
  ·show D.loose.length≤_;omega
  ·split
   ·show D.loose.length≤_;omega
   ·split
    ·split
     ·show(Dw D F.w (group l)).1.loose.length≤_;omega
     ·show(Dw D F.w (group l)).1.loose.length≤_;omega
    ·exact hl
theorem zx{a:Option Addr}{cap:Nat}{l:List Am}(h:FZ fz w b y bl n N A)(hN:N < 1000000000)(hL:Ew w a l)(hlen:l.length≤100000)(hw:F8 l≤900000):
  Calls prog 17 #[.pointer (some ⟨y,0,none⟩),.slice a l.length cap] w fun e w'=>∃ c:Int,e=.returned (.int .i64 c)∧∃ CP,av fz w' b y CP n (N+1) A (Fy n A l,Es n A l) c∧A7 (Ig w bl) w w'∧∀ k,CP k→bl k∨w.heap.size≤k:=by
 have DY:=h.up;obtain⟨D,fp,m,x,gv,F,h1,h2,h3,h4,h5,h6,h7,h8,h9⟩:=h;have hok:∀ c∈l,c.name.length≤1000000∧c.data.length≤maxLen:=fun c hc=>by
  have:=anK hc;unfold maxLen;omega
 have J2:=ZX DY.2.2.2.2;have FE:=UR DY.1 l;have FP:F.room=Cn n:=by unfold St.room Cn;rw[h4.size,h6]
 have hgw:=agY l;have Hz:=QV A;have Hw:D.loose.length=0:=by rw[h4.disk.loose];rfl
 have GZ:=yM D F l (by omega) (by rw[h8];omega);have key:Calls prog 17 #[.pointer (some ⟨y,0,none⟩),.slice a l.length cap] w fun e w'=>Sd w y b m x gv fp (JD D F l) e w':=by
  by_cases hall:l.all Am.may=true
  ·exact ag2 h1 h2 h3 hL hlen hok h4.good (by rw[h8];omega) (by rw[h8];omega) (by rw[h4.size];have:=h4.disk.fine.n2;unfold sz;omega) (by omega) (by omega) (by have:=ah0 h4;omega) h4.fault hall
  ·exact ag1 h1 h2 h3 hL hlen (fun c hc=>⟨Ay (hok c hc).1 (by unfold maxLen;omega),(hok c hc).2⟩) h4.fault (by simpa using hall)
 refine key.mono ?_;rintro e w'⟨m',⟨he,fp',Fg,p1,p2,p3,p4,p5,p6⟩,XC⟩;refine⟨_,he,fun k=>bl k∨w.heap.size≤k,?_,p4.mono (fun k hk=>akX h1 h2 h9 k hk),fun k hk=>hk⟩;have Ct:∀ k,fp' k∨Vy y m' x Fg k→bl k∨w.heap.size≤k:=by
  rintro k (hk|hk|hk|hk)
  ·exact(p5 k hk).imp (fun e=>h9 k (.inl e)) id
  ·exact .inl (h9 k (.inr (.inl hk)))
  ·subst hk;exact XC.imp (fun e=>h9 _ (.inr (.inr (.inl e)))) id
  ·exact(p6 k hk).imp (fun e=>h9 k (.inr (.inr (.inr e)))) id
 by_cases hall:l.all Am.may=true
 ·by_cases hr:used (made F.m l)≤F.room
  ·have hc:=afq h4 (by omega) hall hr;have SX:Fy n A l=0:=(by unfold Fy;rw[Aa (by simp[hall]),Aa (by rw[←h8,←FP];omega)]);have Lr:Es n A l=made A l:=(by unfold Es;rw[Ac ⟨hall,by rw[←h8,←FP];exact hr⟩]);rw[SX,Lr];rcases hc.out with⟨o1,o2,o3,o4,o5⟩|⟨o1,o2,o3,o4,o5,o6⟩
   ·exact .inl ⟨o1,_,fp',m',x,Fg,_,p1,p2,p3,o2,fun e=>o5 (h5 e),hc.n.trans h6,by omega,by rw[←h8];exact o3,Ct⟩
   ·refine .inr ⟨?_,o1,rfl,_,fp',m',x,Fg,_,p1,p2,p3,o3,by omega,hc.n.trans h6,⟨DY.2.1,DY.2.2.1,DY.2.2.2.2⟩,o4.trans h8,fun keep=>?_,Ct⟩
    ·cases fz with
     |false=>exact absurd (h5 rfl) o2
     |true=>rfl
    ·obtain⟨F',D',q1,q2,q3,q4⟩:=o6 keep;exact⟨F',D',q1,q2,by omega,by rw[←h8];exact q4⟩
  ·have e1:JD D F l=(D,F,4):=by
    unfold JD;rw[Aa (by simp[h4.fault]),Aa (by simp[hall]),Ac (by omega)]
   have SX:Fy n A l=4:=(by unfold Fy;rw[Aa (by simp[hall]),Ac (by rw[←h8,←FP];omega)]);have Lr:Es n A l=A:=(by unfold Es;rw[Aa (fun e=>hr (by rw[h8,FP];exact e.2))]);rw[e1] at p1 p2 ⊢;rw[SX,Lr];exact .inl ⟨rfl,D,fp',m',x,Fg,F,p1,p2,p3,h4,h5,h6,by omega,h8,Ct⟩
 ·have GU:l.all Am.may=false:=by simpa using hall
  have e1:JD D F l=(D,F,2):=by
   unfold JD;rw[Aa (by simp[h4.fault]),Ac GU]
  have SX:Fy n A l=2:=by unfold Fy;rw[Ac GU]
  have Lr:Es n A l=A:=by unfold Es;rw[Aa (fun e=>hall e.1)]
  rw[e1] at p1 p2 ⊢;rw[SX,Lr];exact .inl ⟨rfl,D,fp',m',x,Fg,F,p1,p2,p3,h4,h5,h6,by omega,h8,Ct⟩
theorem asn{a:Option Addr}{cap:Nat}{l:List Am}(h:Sg w b y bl n N A)(hN:N < 1000000000)(hL:Ew w a l)(hlen:l.length≤100000)(hw:F8 l≤900000):
  Calls prog 17 #[.pointer (some ⟨y,0,none⟩),.slice a l.length cap] w fun e w'=>e=.returned (.int .i64 (Fy n A l))∧∃ CP,Sg w' b y CP n (N+1) (Es n A l)∧A7 (Ig w bl) w w'∧∀ k,CP k→bl k∨w.heap.size≤k:=
 (zx h hN hL hlen hw).mono fun e w' ⟨c,he,CP,g1,g2⟩=>by
  obtain⟨rfl,g3⟩:=g1.calm;exact⟨he,CP,g3,g2⟩
theorem ass{D D':A8}{fp:Nat→Prop}{F:St}(hd:BI w b D fp)(h:nY D F D')(aiI:D'.left= -1)(Hw:D.loose.length≤300000000)(hN:F.w.gen≤N):
  Calls prog 25 #[.pointer (some ⟨b,0,none⟩)] w fun e w'=>∃ y CP,e=.returned (.tuple #[.pointer (some ⟨y,0,none⟩),.int .i64 0])∧Sg w' b y CP D.n N F.m∧A7 fp w w'∧(∀ k,CP k→fp k∨w.heap.size≤k)∧w.heap.size≤y:=
 (as8 hd h.1 Hw).mono (by
  rintro e w'⟨y,m,x,gv,fp',rfl,p1,p2,p3,p4,p5,p6⟩;refine⟨y,fun k=>fp k∨w.heap.size≤k,rfl,⟨D',fp',m,x,gv,F,p1,p2,p3,h.2.1,fun _=>aiI,h.2.2,hN,rfl,?_⟩,p4,fun k hk=>hk,p6 y (.inl rfl)⟩;rintro k (hk|hk)
  ·exact p5 k hk
  ·exact .inr (p6 k hk))
theorem asr(n:Nat)(hn:8≤n)(Gm:n≤16384){fp:Nat→Prop}(hd:BI w b (A8.new n) fp):
  Calls prog 25 #[.pointer (some ⟨b,0,none⟩)] w fun e w'=>∃ y CP,e=.returned (.tuple #[.pointer (some ⟨y,0,none⟩),.int .i64 0])∧Sg w' b y CP n 0 []∧A7 fp w w'∧(∀ k,CP k→fp k∨w.heap.size≤k)∧w.heap.size≤y:=
 ass (N:=0) hd (Af.Calm.new hn Gm).opens rfl (by show(0:Nat)≤_;omega) (Ae 0)
theorem aso(h:FZ fz w b y bl n N A)(k:T)(hk:k.length≤maxLen):
  Calls prog 16 #[.pointer (some ⟨y,0,none⟩),.string (bs k)] w fun e w'=>e=.returned (.tuple #[.string (bs ((Af.get A k).getD [])),.bool (Af.get A k).isSome])∧FZ fz w' b y bl n N A∧Bw w w':=by
 have h0:=h;obtain⟨D,fp,m,x,gv,F,h1,h2,h3,h4,h5,h6,h7,h8,h9⟩:=h;refine(arF h2 k hk).mono ?_;rintro e w'⟨rfl,hb⟩;rw[h8];exact⟨rfl,h0.below hb,hb⟩
theorem asq(h:FZ fz w b y bl n N A):
  Calls prog 28 #[.pointer (some ⟨y,0,none⟩)] w fun e w'=>∃ v,e=.returned v∧w'.ownsRow 0 9 1 v A.length (strCells (A.map (·.1)))∧FZ fz w' b y bl n N A∧Bw w w'∧∀ k,v.ownBlock=some k→w.heap.size≤k:=by
 have h0:=h;have DY:=h.up;have J2:=ZX DY.2.2.2.2;have Hz:=QV A;obtain⟨D,fp,m,x,gv,F,h1,h2,h3,h4,h5,h6,h7,h8,h9⟩:=h;refine(arZ h2 h4.good (by rw[h8];omega)).mono ?_;rw[h8];rintro e w'⟨v,rfl,p1,p2,p3⟩;exact⟨v,rfl,p1,h0.below p2,p2,p3⟩
theorem yJ{W:World}{g:Nat}{c:Am}(h:W.heap[g]?=some (.cells #[.string (bs c.name),.string (bs c.data),.bool c.gone] 57)):Ew W (some ⟨g,0,none⟩) [c]:=fun i hi=>by
 obtain rfl:i=0:=by simpa using hi
 refine⟨⟨g,0,none⟩,rfl,?_⟩;constructor
 ·rw[add_plain,add_plain,BF W g _ _ _ _ h];rfl
 ·rw[add_plain,add_plain,BF W g _ _ _ _ h];rfl
 ·rw[add_plain,add_plain,BF W g _ _ _ _ h];rfl
end
end
section
open Go.RowKit Go.Maps
open Af
theorem FZ.shrink{w:World}{b y:Nat}{bl:Nat→Prop}{n N:Nat}{A:M}{fz:Bool}(h:FZ fz w b y bl n N A):FZ fz w b y (fun k=>bl k∧k < w.heap.size) n N A:=by
 obtain⟨D,fp,m,x,gv,F,h1,h2,h3,h4,h5,h6,h7,h8,h9⟩:=h;exact⟨D,fp,m,x,gv,F,h1,h2,h3,h4,h5,h6,h7,h8,fun k hk=>⟨h9 k hk,hk.elim (h1.lt k) (h2.lt k)⟩⟩
def Vn(B:Nat)(w0 w:World)(b y n N:Nat)(A:M)(X:Nat→Prop):Prop:=Below B w0 w∧B≤w.heap.size∧(∀ k,X k→k < w.heap.size)∧∃ bl,Sg w b y bl n N A∧∀ k,bl k→B≤k∧¬ X k
def Kept(X:Nat→Prop)(w w':World):Prop:=∀ k,X k→w'.heap[k]?=w.heap[k]?
section
variable {B:Nat}{w0 w w':World}{b y n N:Nat}{A:M}{X:Nat→Prop}
theorem Vn.step(h:Vn B w0 w b y n N A X)(hb:Bw w w'):Vn B w0 w' b y n N A X:=by
 obtain⟨h1,h2,hx,bl,h3,h4⟩:=h;exact⟨h1.trans (hb.mono h2),Ay h2 hb.size,fun k hk=>I9 (hx k hk) hb.size,bl,h3.below hb,h4⟩
theorem Vn.turn{bl CP:Nat→Prop}{A':M}{N' y':Nat}(h1:Below B w0 w)(h2:B≤w.heap.size)(hx:∀ k,X k→k < w.heap.size)(h4:∀ k,bl k→B≤k∧¬ X k)(g:Sg w' b y' CP n N' A')(hu:A7 (Ig w bl) w w')(hs:∀ k,CP k→bl k∨w.heap.size≤k):Vn B w0 w' b y' n N' A' X∧Kept X w w':=
 ⟨⟨Cq h1 hu (fun k hk=>(h4 k hk.1).1) h2,Ay h2 hu.size,fun k hk=>I9 (hx k hk) hu.size,CP,g,fun k hk=>(hs k hk).elim (h4 k) (fun e=>⟨Ay h2 e,fun f=>by have:=hx k f;omega⟩)⟩,
  fun k hk=>hu.block k (hx k hk) (fun f=>(h4 k f.1).2 hk)⟩
end
theorem axo{w:World}(n:Nat)(h1:1≤n)(h2:n≤16384):
  Calls prog 90 #[.int .i64 n] w fun e w'=>∃ b fp,e=.returned (.tuple #[.pointer (some ⟨b,0,none⟩),.int .i64 0])∧BI w' b (A8.new n) fp∧Bw w w'∧∀ k,fp k→w.heap.size≤k:=axp n w h1 h2
def MyF(B:Nat)(w0 w:World)(b y n N:Nat)(A:M):Prop:=Below B w0 w∧B≤w.heap.size∧∃ bl,Sg w b y bl n N A∧∀ k,bl k→B≤k
section
variable {B:Nat}{w0 w w':World}{b y n N:Nat}{A:M}
theorem axf{fp:Nat→Prop}(h1:Below B w0 w)(h2:B≤w.heap.size)(hn:8≤n)(Gm:n≤16384)(hd:BI w b (A8.new n) fp)(hf:∀ k,fp k→B≤k):
  Calls prog 25 #[.pointer (some ⟨b,0,none⟩)] w fun e w'=>∃ y,e=.returned (.tuple #[.pointer (some ⟨y,0,none⟩),.int .i64 0])∧MyF B w0 w' b y n 0 []:=by
 refine(asr n hn Gm hd).mono ?_;rintro e w'⟨y,CP,rfl,g1,g2,g3,_⟩;exact⟨y,rfl,Cq h1 g2 hf h2,Ay h2 g2.size,CP,g1,fun k hk=>(g3 k hk).elim (hf k) (fun e=>Ay h2 e)⟩
theorem AV(w:World)(o:Obj):Bw w (w.alloc o):=(Ah _ _).alloc (Ae _) _
end
end
namespace Ap
open Go.RowKit Aq
end Ap
section
open Go.RowKit Go.Shelf
def awO:Go.Shelf.Ren:=⟨fun|16=>149|n=>n,fun|24=>61|9=>9|4=>4|n=>n,fun|n=>n⟩
theorem abU:Go.Proofs.Lays2.n16 prog awO:={
 mixed:=by kernel_rfl
 f16:=func149.trans (congrArg some (by kernel_rfl))
 t4:=underlying4
 a4:=Tryz.isAgg4
 z4:=Tryz.sizeOf4
 v4:=Tryz.zeroValue4
 t9:=underlying9
 a9:=Tryz.isAgg9
 z9:=Tryz.sizeOf9
 v9:=Tryz.zeroValue9
 t24:=underlying61
 a24:=Tryz.isAgg61
 z24:=Tryz.sizeOf61
 v24:=Tryz.zeroValue61
 i9:=by kernel_rfl }
def sO:Go.Shelf.Ren:=⟨fun|194=>71|n=>n,fun|31=>61|9=>9|3=>3|4=>4|0=>0|n=>n,fun|n=>n⟩
theorem dY:Go.Proofs.Lays.n194 prog sO:={
 mixed:=by kernel_rfl
 f194:=func71.trans (congrArg some (by kernel_rfl))
 t0:=underlying0
 a0:=Tryz.isAgg0
 z0:=Tryz.sizeOf0
 v0:=Tryz.zeroValue0
 t3:=underlying3
 a3:=Tryz.isAgg3
 z3:=Tryz.sizeOf3
 v3:=Tryz.zeroValue3
 t4:=underlying4
 a4:=Tryz.isAgg4
 z4:=Tryz.sizeOf4
 v4:=Tryz.zeroValue4
 t9:=underlying9
 a9:=Tryz.isAgg9
 z9:=Tryz.sizeOf9
 v9:=Tryz.zeroValue9
 t31:=underlying61
 a31:=Tryz.isAgg61
 z31:=Tryz.sizeOf61
 v31:=Tryz.zeroValue61 }
def awV:Go.Shelf.Ren:=⟨fun|193=>247|n=>n,fun|31=>61|9=>9|4=>4|3=>3|0=>0|n=>n,fun|n=>n⟩
theorem sU:Go.Proofs.Lays.n193 prog awV:={
 mixed:=by kernel_rfl
 f193:=func247.trans (congrArg some (by kernel_rfl))
 t0:=underlying0
 a0:=Tryz.isAgg0
 z0:=Tryz.sizeOf0
 v0:=Tryz.zeroValue0
 t3:=underlying3
 a3:=Tryz.isAgg3
 z3:=Tryz.sizeOf3
 v3:=Tryz.zeroValue3
 t4:=underlying4
 a4:=Tryz.isAgg4
 z4:=Tryz.sizeOf4
 v4:=Tryz.zeroValue4
 t9:=underlying9
 a9:=Tryz.isAgg9
 z9:=Tryz.sizeOf9
 v9:=Tryz.zeroValue9
 t31:=underlying61
 a31:=Tryz.isAgg61
 z31:=Tryz.sizeOf61
 v31:=Tryz.zeroValue61 }
end
namespace Ap
open Go.RowKit Go.Maps Go.Sort Go.Shelf Go.Lib
def Bc(l:List (List UInt8)):List (List UInt8):=Lib.compact (l.mergeSort fun x y=>decide (x≤y))
theorem LG(l:List (List UInt8)):strCells l=l.map encStr:=by unfold strCells;rfl
theorem aA0(l:List (List UInt8)):(l.map bs).map Value.string=strCells l:=by unfold strCells;rw[Ko];rfl
abbrev Bq(w:World)(base:Nat)(v:Value)(l:List (List UInt8)):Prop:=w.ownsRow base 9 1 v l.length (strCells l)
theorem Bq.cells{w:World}{base:Nat}{l:List (List UInt8)}{g n cap:Nat}(h:Bq w base (.slice (some ⟨g,0,none⟩) n cap) l):
  n=l.length∧∀ j,j < (l.map bs).length→w.cell? ⟨g,0+j,none⟩=some (.string ((l.map bs).getD j ByteArray.empty)):=by
 rcases h.2 with⟨e0,_⟩|⟨g',cap',cur,e0,hb,hg,hn,hm,hs,ht⟩
 ·cases e0
 ·injection e0 with e1 e2 e3
  injection e1 with e1
  injection e1 with e1
  subst e1;subst e2;subst e3;refine⟨rfl,fun j hj=>?_⟩;rw[Ca] at hj;have e1:(cur.toList.take (l.length*1))[j]?=(strCells l)[j]? :=by rw[ht]
  rw[List.getElem?_take,Ac (by omega),Dx,Y8 l j hj] at e1;simp only[World.cell?,hg,GJ];simp only[Option.isSome_none,Bool.false_eq_true,if_false];rw[e1,Ir,O3,Ei hj];rfl
theorem Bq.parts{w:World}{base:Nat}{v:Value}{l:List (List UInt8)}(h:Bq w base v l):(v=.slice none 0 0∧l=[])∨∃ g cap,v=.slice (some ⟨g,0,none⟩) l.length cap∧base≤g∧l.length≤cap∧cap≤maxLen∧g < w.heap.size:=by
 rcases h.2 with⟨e0,h0⟩|⟨g,cap,cur,rfl,hb,hg,hn,hm,hs,ht⟩
 ·exact .inl ⟨e0,JW.1 h0⟩
 ·exact .inr ⟨g,cap,rfl,hb,hn,hm,(Dm.1 hg).1⟩
theorem aqs{w:World}{base:Nat}{v:Value}{l:List (List UInt8)}(h:Bq w base v l)(hl:l.length≤1000000):
  Calls prog 149 #[v] w fun e w'=>∃ v',e=.returned v'∧Bq w' w.heap.size v' l∧(v'=.slice none 0 0→l=[])∧Bw w w':=by
 rcases h.parts with⟨rfl,rfl⟩|⟨g,cap,rfl,_⟩
 ·refine(Any.slices_Clone_string_nil abU 0 0 w).mono ?_;rintro e w'⟨rfl,rfl⟩;exact⟨_,rfl,by unfold Bq;rw[LG];exact E5 _ _ _ _,fun _=>rfl,Ah _ _⟩
 ·cases l with
  |nil=>
   refine(Any.slices_Clone_string_zero abU ⟨g,0,none⟩ cap w).mono ?_;rintro e w'⟨v',rfl,ho,hne,hb⟩;exact⟨v',rfl,by unfold Bq;rw[LG];exact ho,fun e=>absurd e hne,hb⟩
  |cons x l=>
   refine(Any.slices_Clone_string abU g 0 (x :: l).length cap ((x :: l).map bs) w (by simp) (by omega) h.cells.2).mono ?_;rintro e w'⟨v',rfl,ho,hne,hb⟩;rw[I7 (by simp),aA0] at ho;exact⟨v',rfl,ho,fun e=>absurd e hne,hb⟩
theorem below_grow{B:Nat}{w0 w:World}(h:Below B w0 w)(hB:B≤w.heap.size)(os:Array Obj):Below B w0 (grow w os):=
 ⟨h.os,h.tape,h.output,by simp[grow];exact Ay h.size (by omega),fun k hk=>by
  rw[←h.block k hk];have:=h.size;simp[grow];exact Array.getElem?_append_left (by omega)⟩
theorem compact_length_le(l:List (List UInt8)):(Lib.compact l).length≤l.length:=by
 unfold Lib.compact Lib.compactUpTo;rw[Ca];exact Ay (LK _ _) (by simp)
theorem UM(l:List (List UInt8)):(Bc l).length≤l.length:=by
 unfold Bc;exact Ay (compact_length_le _) (by simp)
theorem aq6{l k:List (List UInt8)}(h:l.map bs=k.map bs):l=k:=by
 have e:∀ a b,bs a=bs b→a=b:=fun a b e=>by
  have:=congrArg (fun x:ByteArray=>x.data.toList) e;simpa[bs] using this
 exact(List.map_inj_right (fun {a b} h=>e a b h)).1 h
theorem arv{w:World}{base Ub:Nat}{v u:Value}{l k:List (List UInt8)}(h:Bq w base v l)(h2:Bq w Ub u k)(hl:l.length≤1000000)(hk:k.length≤1000000):
  Calls prog 247 #[v,u] w fun e w'=>e=.returned (.bool (decide (l=k)))∧Bw w w':=by
 obtain⟨q1,c1,rfl⟩:=Bp h;obtain⟨q2,c2,rfl⟩:=Bp h2;by_cases Jn:l.length=k.length
 ·rcases h.parts with⟨e1,e2⟩|⟨g,cap,e1,_⟩
  ·subst e2;cases e1;obtain rfl:k=[]:=JW.1 Jn.symm;refine(Any.slices_Equal_string_empty sU none q2 0 0 c2 w (by omega)).mono ?_;rintro e w'⟨rfl,rfl⟩;exact⟨rfl,Ah _ _⟩
  ·cases e1;rcases h2.parts with⟨e1,e2⟩|⟨g2,cap2,e1,_⟩
   ·subst e2;cases e1;obtain rfl:l=[]:=JW.1 Jn;refine(Any.slices_Equal_string_empty sU _ none _ 0 0 w (by omega)).mono ?_;rintro e w'⟨rfl,rfl⟩;exact⟨rfl,Ah _ _⟩
   ·cases e1;refine(Any.slices_Equal_string sU g 0 l.length c1 g2 0 k.length c2 (l.map bs) (k.map bs) w (by simp) (by simp) (by omega) (by omega) h.cells.2 h2.cells.2).mono ?_;rintro e w'⟨rfl,q,rfl⟩;refine⟨?_,FM w q⟩;rw[I7 (by simp),I7 (by simp)];have:(l.map bs=k.map bs)↔l=k:=⟨aq6,fun e=>by rw[e]⟩;simp[this]
 ·refine(Any.slices_Equal_string_lens sU q1 q2 _ c1 _ c2 w Jn).mono ?_;rintro e w'⟨rfl,rfl⟩;refine⟨?_,Ah _ _⟩;have:¬ l=k:=fun e=>Jn (by rw[e])
  simp[this]
end Ap
section
open Go.RowKit Go.Shelf
end
namespace Ap
open Go.RowKit Aq Af
structure OV(w:World)(y:Nat)(A:M):Prop where
 gets:∀ W,Bw w W→∀ k:T,k.length≤1000→Calls prog 16 #[.pointer (some ⟨y,0,none⟩),.string (bs k)] W fun e w'=>e=.returned (.tuple #[.string (bs ((Af.get A k).getD [])),.bool (Af.get A k).isSome])∧Bw W w'
 small:∀ k:T,((Af.get A k).getD []).length≤1000000
theorem O0{W:World}{g:Nat}{a b c:Value}{t:TypeId}(h:W.heap[g]?=some (.cells #[a,b,c] t)):
  W.cell? ⟨g,0,none⟩=some a∧W.cell? ⟨g,1,none⟩=some b∧W.cell? ⟨g,2,none⟩=some c∧W.frozen? ⟨g,0,none⟩=false∧W.frozen? ⟨g,1,none⟩=false∧W.frozen? ⟨g,2,none⟩=false:=
 ⟨by rw[BF W g _ _ _ _ h];rfl,by rw[BF W g _ _ _ _ h];rfl,by rw[BF W g _ _ _ _ h];rfl,Cu W g 0 _ _ h,Cu W g 1 _ _ h,Cu W g 2 _ _ h⟩
end Ap
namespace BD
open Go.RowKit
def Ip(x:Int)(n:Nat):Int:=bits .or .u32 (x / 2 ^ n) (x*2 ^ (32 -n) % 4294967296)
@[irreducible] def Bn (l:List Int):Array Value:=(l.map fun x=>Value.int .u32 x).toArray
@[simp] theorem TH (l:List Int):(Bn l).size=l.length:=by unfold Bn;simp
theorem RY(l:List Int)(i:Nat)(h:i < l.length):(Bn l)[i]?=some (.int .u32 l[i]):=by
 unfold Bn;rw[List.getElem?_toArray,O3,Ei h];rfl
theorem uO(l:List Int)(i:Nat)(x:Int):(Bn l).setIfInBounds i (.int .u32 x)=Bn (l.set i x):=by
 unfold Bn;rw[List.map_set,List.setIfInBounds_toArray]
theorem fB(l:List Int):(Bn l).all (·.oneCell')=true:=by
 unfold Bn;rw[Array.all_eq_true];intro i hi;simp at hi ⊢;rfl
def zeros(n:Nat):List Int:=List.replicate n 0
def be(b:List UInt8)(t:Nat):Int:=
 bits .or .u32 (bits .or .u32 (bits .or .u32 ((b[4*t]?.getD 0).toNat % 4294967296*16777216 % 4294967296) ((b[4*t+1]?.getD 0).toNat % 4294967296*65536 % 4294967296)) ((b[4*t+2]?.getD 0).toNat % 4294967296*256 % 4294967296)) ((b[4*t+3]?.getD 0).toNat % 4294967296)
def sig(x:Int)(i j k:Nat):Int:=bits .xor .u32 (bits .xor .u32 (Ip x i) (Ip x j)) (x / 2 ^ k)
def ZO(l:List Int)(t:Nat):Int:=
 (((l.getD (t -16) 0+sig (l.getD (t -15) 0) 7 18 3) % 4294967296+l.getD (t -7) 0) % 4294967296+sig (l.getD (t -2) 0) 17 19 10) % 4294967296
def CV(b:List UInt8):Nat→List Int
 |0=>(List.range 16).map (be b)
 |k+1=>CV b k++[ZO (CV b k) (16+k)]
theorem ak(b:List UInt8):∀ k,(CV b k).length=16+k
 |0=>by simp[CV]
 |k+1=>by simp[CV,ak b k];omega
end BD
section
open Go.RowKit
open BD
theorem uk(x:Int)(n:Nat)(h0:0 < n)(hn:n < 32)(w:World):
  Calls prog 259 #[.int .u32 x,.int .i64 n] w fun e w'=>e=.returned (.int .u32 (Ip x n))∧Bw w w':=by
 have h1:(n:Int) < 32:=by omega
 have h2:(0:Int) < n:=by omega
 go_in
 go_wp2
 go_quiet (fail)
 go_wp2;go_ret;exact⟨rfl,FM _ _⟩
theorem adt:(#[.int .u32 0,.int .u32 0,.int .u32 0,.int .u32 0,.int .u32 0,.int .u32 0,.int .u32 0,.int .u32 0,.int .u32 0,.int .u32 0,.int .u32 0,.int .u32 0,.int .u32 0,.int .u32 0,.int .u32 0,.int .u32 0,.int .u32 0,.int .u32 0,.int .u32 0,.int .u32 0,.int .u32 0,.int .u32 0,.int .u32 0,.int .u32 0,.int .u32 0,.int .u32 0,.int .u32 0,.int .u32 0,.int .u32 0,.int .u32 0,.int .u32 0,.int .u32 0,.int .u32 0,.int .u32 0,.int .u32 0,.int .u32 0,.int .u32 0,.int .u32 0,.int .u32 0,.int .u32 0,.int .u32 0,.int .u32 0,.int .u32 0,.int .u32 0,.int .u32 0,.int .u32 0,.int .u32 0,.int .u32 0,.int .u32 0,.int .u32 0,.int .u32 0,.int .u32 0,.int .u32 0,.int .u32 0,.int .u32 0,.int .u32 0,.int .u32 0,.int .u32 0,.int .u32 0,.int .u32 0,.int .u32 0,.int .u32 0,.int .u32 0,.int .u32 0]:Array Value)=Bn (zeros 64):=by
 unfold Bn zeros;rfl
theorem aB6:(prog.info? 325).map (·.size)=some 64:=by kernel_rfl
theorem lY(l:List Int)(h:l.length=64):(prog.info? 325).map (·.size)=some (Bn l).size:=by rw[TH,h];exact aB6
def SI(b:List UInt8)(k:Nat):List Int:=(List.range k).map (be b)++zeros (64 -k)
theorem bF(b:List UInt8)(k:Nat)(h:k≤64):(SI b k).length=64:=by unfold SI zeros;simp;omega
theorem abO(l:List Int)(z:Nat)(x:Int):(l++zeros (z+1)).set l.length x=(l++[x])++zeros z:=by
 unfold zeros;rw[List.set_append_right _ _ (Ae _),Nat.sub_self,List.replicate_succ,List.set_cons_zero,Dy];rfl
theorem agf(b:List UInt8)(k:Nat)(h:k < 64):(SI b k).set k (be b k)=SI b (k+1):=by
 unfold SI;have e:=abO ((List.range k).map (be b)) (64 -(k+1)) (be b k);rw[Ca,List.length_range,show 64 -(k+1)+1=64 -k by omega] at e;rw[e,List.range_succ,D6];rfl
theorem Y5(b:List UInt8)(j:Nat)(hj:j < b.length)(i:Int)(hi:i=(j:Int))(W:World):(Instr.index 9 (.string (bs b)) (.int .i64 i)).run prog W=.ok (.int .u8 ((b.getD j 0).toNat:Int)) W:=by
 subst hi;rw[run_index_string (P:=prog) (w:=W) 9 (bs b) .i64 _ underlying9,dif_pos ⟨by omega,by rw[yw];omega⟩];simp[Ir,hj]
theorem aBm(b:List UInt8)(hb:b.length=64)(w:World):
  Calls prog 257 #[.string (bs b)] w fun e w'=>e=.returned (.agg (Bn (CV b 48)))∧Bw w w':=by
 go_in
 go_wp2_with fail;rw[adt]
 go_loopw [7] (fun i wr=>∃ k:Nat,k≤16∧i=.int .i64 k∧Bw w wr∧wr.heap[w.heap.size]?=some (.cells (Bn (SI b k)) 325)) (fun i _=>16 -(intOf i).toNat)
 case atStart=>exact⟨0,by omega,rfl,(Ah _ _).alloc (Ae _) _,AP _ _⟩
 case round=>
  obtain⟨k,hk,rfl,CY,Ag⟩:=hrel;have HB:=Hi CY;have HR:=Hi Ag;by_cases hlt:k < 16
  ·have FW:wr.cell? ⟨w.heap.size,k,none⟩=some (.int .u32 ((SI b k)[k]'(by rw[bF _ _ (by omega)];omega))):=by
    rw[BF _ _ _ _ _ _ Ag,RY _ _ (by rw[bF _ _ (by omega)];omega)]
   have Ow:=Cu _ _ k _ _ Ag;generalize (SI b k)[k]'(by rw[bF _ _ (by omega)];omega)=x0 at FW;have i1:=Y5 b (4*k) (by omega) (4*(k:Int)) (by omega);have i2:=Y5 b (4*k+1) (by omega) (4*(k:Int)+1) (by omega);have i3:=Y5 b (4*k+2) (by omega) (4*(k:Int)+2) (by omega);have i4:=Y5 b (4*k+3) (by omega) (4*(k:Int)+3) (by omega);clear CY Ag;go_wp2;go_region;go_wp2;go_roundw
   case rel=>exact⟨k+1,by omega,by go_num,((HB.setCell (p:=⟨w.heap.size,k,none⟩) (Ae _) _).drew),by
    have h:=Cf wr w.heap.size k _ _ (.int .u32 (be b k)) HR;rw[uO,agf b k (by omega)] at h;exact h⟩
   case measure=>simp[intOf];omega
  ·obtain rfl:k=16:=(by omega);clear CY Ag;go_wp2
   go_loopw [4] (fun i wr=>∃ k:Nat,k≤48∧i=.int .i64 ((16+k:Nat):Int)∧Bw w wr∧wr.heap[w.heap.size]?=some (.cells (Bn (CV b k++zeros (48 -k))) 325)) (fun i _=>64 -(intOf i).toNat)
   case atStart=>exact⟨0,by omega,rfl,HB,HR⟩
   case round=>
    clear HB HR;obtain⟨k,hk,rfl,CY,Ag⟩:=hrel;have HB:=Hi CY;have HR:=Hi Ag;clear CY Ag;by_cases hlt:k < 48
    ·have hlen:=ak b k
     have KP:=Hi (fun(V:World) (h:V.heap[w.heap.size]?=some (.cells (Bn (CV b k++zeros (48 -k))) 325))=>(show(∀ j,j < 16+k→V.cell? ⟨w.heap.size,j,none⟩=some (.int .u32 ((CV b k).getD j 0)))∧(∃ v0,V.cell? ⟨w.heap.size,16+k,none⟩=some v0)∧V.frozen? ⟨w.heap.size,16+k,none⟩=false from by
      have hl:(CV b k++zeros (48 -k)).length=64:=(by rw[Az,hlen];unfold zeros;simp;omega);refine⟨fun j hj=>?_,⟨_,(BF _ _ _ _ _ _ h).trans (RY _ _ (by omega))⟩,Cu _ _ _ _ _ h⟩;rw[BF _ _ _ _ _ _ h,RY _ _ (by omega),List.getElem_append_left (by omega),Ir,Ei (by omega)];rfl))
     have Bi:=Hi (show(CV b k++zeros (48 -k)).set (16+k) (ZO (CV b k) (16+k))=CV b (k+1)++zeros (48 -(k+1)) from by
      have e:=abO (CV b k) (48 -(k+1)) (ZO (CV b k) (16+k));rw[hlen,show 48 -(k+1)+1=48 -k by omega] at e;exact e)
     unfold ZO at Bi;obtain⟨t,ht⟩:=ex (16+k);obtain⟨Js,VB⟩:=ex (t -16);obtain⟨QJ,j5⟩:=ex (t -15);obtain⟨j7,h7⟩:=ex (t -7);obtain⟨j2,h2⟩:=ex (t -2);rw[ht] at KP Bi ⊢;rw[VB,j5,h7,h2] at Bi;have e16:(t:Int) -16=(Js:Int):=(by omega);have e15:(t:Int) -15=(QJ:Int):=(by omega);have e7:(t:Int) -7=(j7:Int):=(by omega);have e2:(t:Int) -2=(j2:Int):=(by omega);have b0:(t:Int) < 64:=(by omega);have b16:(Js:Int) < 64:=(by omega);have b15:(QJ:Int) < 64:=(by omega);have b7:(j7:Int) < 64:=(by omega);have b2:(j2:Int) < 64:=(by omega);have Ns:=Hi (show Js < t∧QJ < t∧j7 < t∧j2 < t∧t+1=16+(k+1)∧k < 48 from by omega);obtain⟨hc,⟨v0,hcz⟩,Ow⟩:=KP _ HR.out;have c15:=hc _ Ns.2.1;have c2:=hc _ Ns.2.2.2.1;clear hc hlen ht VB j5 h7 h2 hlt hk;obtain⟨Wq,dS⟩:=ex ((CV b k).getD Js 0);obtain⟨UU,kF⟩:=ex ((CV b k).getD QJ 0);obtain⟨x7,UF⟩:=ex ((CV b k).getD j7 0);obtain⟨x2,Ea⟩:=ex ((CV b k).getD j2 0);rw[kF] at c15 Bi;rw[Ea] at c2 Bi;rw[dS,UF] at Bi;have HX:=Hi (Cr dS UF);clear dS kF UF Ea;go_wp2
     go_quiet (fail)
     have Pb:=Hi (fun(V:World) (hb:Bw wr V)=>(hb.block w.heap.size (Ao HR)).trans HR);have P6:=Hi (fun(V:World) (hb:Bw wr V)=>(show V.cell? ⟨w.heap.size,Js,none⟩=some (.int .u32 Wq)∧V.cell? ⟨w.heap.size,j7,none⟩=some (.int .u32 x7) from⟨by rw[(KP V (Pb V hb)).1 Js Ns.1,HX.1],by rw[(KP V (Pb V hb)).1 j7 Ns.2.2.1,HX.2]⟩))
     have Ld:=Hi (fun(V:World) (v:Value) (hb:Bw wr V)=>(show(V.setCell ⟨w.heap.size,t,none⟩ v).cell? ⟨w.heap.size,Js,none⟩=some (.int .u32 Wq)∧(V.setCell ⟨w.heap.size,t,none⟩ v).cell? ⟨w.heap.size,j7,none⟩=some (.int .u32 x7) from by
      have h1:=Ns.out;have h2:=P6 V hb;rw[World.cell?_setCell_other (w:=V) (a:=⟨w.heap.size,t,none⟩) (b:=⟨w.heap.size,Js,none⟩) (v:=v) (by intro e;injection e with _ e2;omega),World.cell?_setCell_other (w:=V) (a:=⟨w.heap.size,t,none⟩) (b:=⟨w.heap.size,j7,none⟩) (v:=v) (by intro e;injection e with _ e2;omega)];exact h2))
     have AR:=Hi (show Bw wr (wr.drewN nq) from FM _ _);have HB1:=Hi (AR.trans ((Ah _ (wr.drewN nq)).drew));clear hcz Ow c15 c2;go_wp2_with fail;have p16:(0:Int)≤(Js:Int):=(by omega);have p7:(0:Int)≤(j7:Int):=(by omega);have OI:∀ W,(Instr.indexAt 325 (.pointer (some ⟨w.heap.size,0,none⟩)) (.int .i64 (Js:Int))).run prog W=.ok (.pointer (some ⟨w.heap.size,Js,none⟩)) W:=fun W=>by go_simp
     have hxb:∀ W,(Instr.indexAt 325 (.pointer (some ⟨w.heap.size,0,none⟩)) (.int .i64 ((t:Int) -16))).run prog W=.ok (.pointer (some ⟨w.heap.size,Js,none⟩)) W:=fun W=>by go_simp
     have hya:∀ W,(Instr.indexAt 325 (.pointer (some ⟨w.heap.size,0,none⟩)) (.int .i64 (j7:Int))).run prog W=.ok (.pointer (some ⟨w.heap.size,j7,none⟩)) W:=fun W=>by go_simp
     have hyb:∀ W,(Instr.indexAt 325 (.pointer (some ⟨w.heap.size,0,none⟩)) (.int .i64 ((t:Int) -7))).run prog W=.ok (.pointer (some ⟨w.heap.size,j7,none⟩)) W:=fun W=>by go_simp
     have aDh:IntKind.i64.wrap (Js:Int)=(Js:Int):=(by rw[IntKind.wrap];simp[IntKind.bits,IntKind.signed];omega);have hw7:IntKind.i64.wrap (j7:Int)=(j7:Int):=by rw[IntKind.wrap];simp[IntKind.bits,IntKind.signed];omega
     go_region_held3 (fun V=>V.cell? ⟨w.heap.size,Js,none⟩=some (.int .u32 Wq)∧V.cell? ⟨w.heap.size,j7,none⟩=some (.int .u32 x7))
      (first|exact Ld _ _ O8|exact P6 _ O8|exact P6 _ Dt|exact P6 _ AO|exact P6 _ Au|exact P6 _ HB1|exact P6 _ AR)
      (first
       |(go_at_call 259;refine(uk x2 19 (by decide) (by decide) wD).mono ?_;rintro e wE ⟨rfl,hb⟩;have O8:=bH Dt hb;clear hb;obtain⟨_,⟨vz,hcz⟩,Ow⟩:=KP _ (Pb _ O8))
       |(go_at_call 259;refine(uk x2 17 (by decide) (by decide) wC).mono ?_;rintro e wD ⟨rfl,hb⟩;have Dt:=bH AO hb;clear hb)
       |(go_at_call 259;refine(uk UU 18 (by decide) (by decide) wA).mono ?_;rintro e wC ⟨rfl,hb⟩;have AO:=bH Au hb;clear hb)
       |(go_at_call 259;refine(uk UU 7 (by decide) (by decide) _).mono ?_;rintro e wA ⟨rfl,hb⟩;have Au:=bH HB1 hb;clear hb))
     go_wp2_with fail;refine⟨?_,?measure⟩
     ·repeat apply Exists.intro
      refine⟨?rel,rfl⟩
      case rel=>exact⟨k+1,by have:=Ns.out;omega,by have:=Ns.2.2.2.2.1;go_num,((bT HB O8).setCell (p:=⟨w.heap.size,t,none⟩) (Ae _) _),by
       have h:=Cf wE w.heap.size t _ _ (.int .u32 ((((Wq+sig UU 7 18 3) % 4294967296+x7) % 4294967296+sig x2 17 19 10) % 4294967296)) (Pb _ O8);rw[uO,Bi.out] at h;exact h⟩
     show 64 -((t:Int)+1).toNat < 64 -(t:Int).toNat
     omega
    ·obtain rfl:k=48:=(by omega);have BL:=lY (CV b 48) (ak b 48);have Dz:=Hi BL
     have BU:=Hi (show wr.heap[w.heap.size]?=some (.cells (Bn (CV b 48)) 325) from by
      have h:=HR.out;rw[show 48 -48=0 from rfl,show zeros 0=[] from rfl,En] at h;exact h)
     have nu:=Hi (fB (CV b 48));clear BL HR;obtain⟨l,hl⟩:=ex (CV b 48);rw[hl] at Dz BU nu;have HL:=Hi hl;clear hl;have hzz:∃ z,w.heap.size=z:=⟨_,rfl⟩;obtain⟨z,hz⟩:=hzz;rw[hz] at BU ⊢;clear hz;go_wp2_with (first|(refine wpList_load_row rfl 325 _ rfl z rfl 325 (Bn l) (0,0) _ BU underlying325 rfl Dz ?_)|(refine wpList_store_row rfl 325 _ _ rfl z (Bn l) rfl rfl 325 (Bn l) BU Dz rfl nu ?_;rw[setRow_self _ _ _ _ _ BU.out]));exact EI (v:=.agg (Bn l)) (results_cell_row rfl _ _ z 325 _ (0,0) _ rfl BU underlying325 rfl Dz) rfl ⟨by rw[HL.out],HB⟩
end
section
def cntF(l:Array Bool):Nat:=l.toList.count false
theorem afu:∀ (l:List Bool) (i:Nat),l.getD i true=false→(l.set i true).count false+1=l.count false
 |[],i,h=>by simp at h
 |b :: l,0,h=>by
  have hb:b=false:=by simpa using h
  subst hb;simp
 |b :: l,i+1,h=>by
  have:=afu l i (by simpa using h);rw[List.set_cons_succ,List.count_cons,List.count_cons];omega
theorem afp{l:Array Bool}{i:Nat}(h:l.getD i true=false):cntF (l.setIfInBounds i true)+1=cntF l:=by
 unfold cntF;rw[Array.toList_setIfInBounds];refine afu _ _ ?_;rw[Ir,Dx];simpa using h
section
variable {P:Program}{ops:Array Oper}{Q:Exit→Act→World→Prop}{md:Region.Mode}{S:World→Prop}
theorem anR{Inv:Array Bool→Act→World→Prop}{E:Array Bool}{m:Nat}(hend:∀ a w,Inv E a w→wpAnyH P md ops Q S m E a w)(hm:cntF E=m)
  (hstep:∀ l a w,Inv l a w→l≠E→Region.ready md ops l≠[]∧∀ i∈Region.ready md ops l,wpOp P ops Q i (fun a' w'=>S w'∧Inv (l.setIfInBounds i true) a' w') a w):
  ∀ (n:Nat) (l:Array Bool) (a:Act) (w:World),cntF l=n→Inv l a w→wpAnyH P md ops Q S n l a w
 |n,l,a,w=>fun hn hi=>by
  by_cases e:l=E
  ·subst e;rw[←hn,hm];exact hend a w hi
  ·obtain⟨h1,h2⟩:=hstep l a w hi e;obtain⟨j,hj⟩:=List.exists_mem_of_ne_nil _ h1;have hc:=afp (mem_ready.1 hj).1;cases n with
   |zero=>omega
   |succ n=>
    refine⟨fun h=>absurd h h1,fun i Oz=>wpOp_mono (fun a' w' h'=>⟨h'.1,?_⟩) (h2 i Oz)⟩;exact anR hend hm hstep n _ a' w' (by have:=afp (mem_ready.1 Oz).1;omega) h'.2
end
section
variable {P:Program}{ops:Array Oper}{Q:Exit→Act→World→Prop}{md:Region.Mode}{S S2:World→Prop}
theorem uX{i:Nat}{o:Oper}{fuel:Nat}{listed:Array Bool}{a:Act}{w:World}(hr:Region.ready md ops listed=[i])(ho:ops[i]?=some o)
  (h:∀ K':Act→World→Prop,Shut (∀ a w,S w→wpAnyH P md ops Q S fuel (listed.setIfInBounds i true) a w→K' a w)→if Region.wanted o (yielded ops a.tmps)=true then Oper.wp P o a w K' Q else K' (a.put o.dst undef) w):
  wpAnyH P md ops Q S (fuel+1) listed a w:=
 ⟨fun h0=>(by rw[hr] at h0;cases h0),fun j hj=>by
  rw[hr,FC] at hj;subst hj;exact wpOp_step ho (fun K' hK=>h K' (fun a w hS hW=>hK a w ⟨hS,hW⟩))⟩
theorem tkH(i:Nat)(oi:Oper){v:Value}{fuel:Nat}{listed:Array Bool}{a:Act}{w:World}(hS:S w)(h:wpAnyH P md ops Q S fuel (listed.setIfInBounds i true) (a.put oi.dst v) w)
  (hi:ops[i]?=some oi:=by rfl)(hs:Region.noSelect ops=true:=by kernel_rfl)(hf:Region.free md ops listed i=true:=by kernel_rfl)(hr:(Region.ready md ops listed).contains i=true:=by kernel_rfl)
  (hQ:∀ c a w,Q (.panic c) (a.put oi.dst v) w→Q (.panic c) a w:=by exact fun _ _ _ h=>h)(hw:Region.wanted oi (yielded ops a.tmps)=true:=by rfl)
  (hy:∀ w,S w→(execOp a.eval oi).run P w=.ok (.value v) w:=by intro V hV;(try dsimp only at hV);go_simp;all_goals with_reducible rfl):wpAnyH P md ops Q S (fuel+1) listed a w:=
 wpAnyH_take hi hs hf hr hQ (Or.inl ⟨hw,hy⟩) hS h
end
end
namespace BD
open Go.RowKit
def FY:List Int:=[1116352408,1899447441,3049323471,3921009573,961987163,1508970993,2453635748,2870763221,3624381080,310598401,607225278,1426881987,1925078388,2162078206,2614888103,3248222580,3835390401,4022224774,264347078,604807628,770255983,1249150122,1555081692,1996064986,2554220882,2821834349,2952996808,3210313671,3336571891,3584528711,113926993,338241895,666307205,773529912,1294757372,1396182291,1695183700,1986661051,2177026350,2456956037,2730485921,2820302411,3259730800,3345764771,3516065817,3600352804,4094571909,275423344,430227734,506948616,659060556,883997877,958139571,1322822218,1537002063,1747873779,1955562222,2024104815,2227730452,2361852424,2428436474,2756734187,3204031479,3329325298]
@[irreducible] def Gg (h:List Int) (rest:List UInt8) (n:Nat):Array Value:=((h.map fun x=>Value.int .u32 x)++[Value.string (bs rest),Value.int .u64 (n:Int)]).toArray
theorem atJ{h:List Int}{rest:List UInt8}{n:Nat}(hl:h.length=8)(i:Nat)(hi:i < 8):(Gg h rest n)[i]?=some (.int .u32 (h.getD i 0)):=by
 unfold Gg;rw[List.getElem?_toArray,List.getElem?_append_left (by rw[Ca];omega),O3,Ei (by omega),Ir,Ei (by omega)];rfl
theorem Um{h:List Int}{rest:List UInt8}{n:Nat}(hl:h.length=8):(Gg h rest n)[8]?=some (.string (bs rest))∧(Gg h rest n)[9]?=some (.int .u64 (n:Int)):=by
 unfold Gg;constructor<;>(rw[List.getElem?_toArray,List.getElem?_append_right (by rw[Ca];omega),Ca,hl];rfl)
theorem atL{h:List Int}{rest:List UInt8}{n:Nat}(hl:h.length=8)(i:Nat)(hi:i < 8)(x:Int):(Gg h rest n).setIfInBounds i (.int .u32 x)=Gg (h.set i x) rest n:=by
 unfold Gg;rw[List.setIfInBounds_toArray,List.set_append_left _ _ (by rw[Ca];omega),List.map_set]
theorem aag{h:List Int}{rest:List UInt8}{n:Nat}(hl:h.length=8)(r:List UInt8):(Gg h rest n).setIfInBounds 8 (.string (bs r))=Gg h r n:=by
 unfold Gg;rw[List.setIfInBounds_toArray,List.set_append_right _ _ (by rw[Ca];omega),Ca,hl];rfl
theorem atM{h:List Int}{rest:List UInt8}{n:Nat}(hl:h.length=8)(m:Nat):(Gg h rest n).setIfInBounds 9 (.int .u64 (m:Int))=Gg h rest m:=by
 unfold Gg;rw[List.setIfInBounds_toArray,List.set_append_right _ _ (by rw[Ca];omega),Ca,hl];rfl
end BD
section
open Go.RowKit
open BD
theorem ak3:(#[.int .u32 1116352408,.int .u32 1899447441,.int .u32 3049323471,.int .u32 3921009573,.int .u32 961987163,.int .u32 1508970993,.int .u32 2453635748,.int .u32 2870763221,.int .u32 3624381080,.int .u32 310598401,.int .u32 607225278,.int .u32 1426881987,.int .u32 1925078388,.int .u32 2162078206,.int .u32 2614888103,.int .u32 3248222580,.int .u32 3835390401,.int .u32 4022224774,.int .u32 264347078,.int .u32 604807628,.int .u32 770255983,.int .u32 1249150122,.int .u32 1555081692,.int .u32 1996064986,.int .u32 2554220882,.int .u32 2821834349,.int .u32 2952996808,.int .u32 3210313671,.int .u32 3336571891,.int .u32 3584528711,.int .u32 113926993,.int .u32 338241895,.int .u32 666307205,.int .u32 773529912,.int .u32 1294757372,.int .u32 1396182291,.int .u32 1695183700,.int .u32 1986661051,.int .u32 2177026350,.int .u32 2456956037,.int .u32 2730485921,.int .u32 2820302411,.int .u32 3259730800,.int .u32 3345764771,.int .u32 3516065817,.int .u32 3600352804,.int .u32 4094571909,.int .u32 275423344,.int .u32 430227734,.int .u32 506948616,.int .u32 659060556,.int .u32 883997877,.int .u32 958139571,.int .u32 1322822218,.int .u32 1537002063,.int .u32 1747873779,.int .u32 1955562222,.int .u32 2024104815,.int .u32 2227730452,.int .u32 2361852424,.int .u32 2428436474,.int .u32 2756734187,.int .u32 3204031479,.int .u32 3329325298]:Array Value)=Bn FY:=by
 unfold Bn FY;rfl
theorem azA(w:World):
  Calls prog 258 #[] w fun e w'=>e=.returned (.agg (Bn FY))∧Bw w w':=by
 go_in
 have dK:=fB FY;have hold:(#[.int .u32 0,.int .u32 0,.int .u32 0,.int .u32 0,.int .u32 0,.int .u32 0,.int .u32 0,.int .u32 0,.int .u32 0,.int .u32 0,.int .u32 0,.int .u32 0,.int .u32 0,.int .u32 0,.int .u32 0,.int .u32 0,.int .u32 0,.int .u32 0,.int .u32 0,.int .u32 0,.int .u32 0,.int .u32 0,.int .u32 0,.int .u32 0,.int .u32 0,.int .u32 0,.int .u32 0,.int .u32 0,.int .u32 0,.int .u32 0,.int .u32 0,.int .u32 0,.int .u32 0,.int .u32 0,.int .u32 0,.int .u32 0,.int .u32 0,.int .u32 0,.int .u32 0,.int .u32 0,.int .u32 0,.int .u32 0,.int .u32 0,.int .u32 0,.int .u32 0,.int .u32 0,.int .u32 0,.int .u32 0,.int .u32 0,.int .u32 0,.int .u32 0,.int .u32 0,.int .u32 0,.int .u32 0,.int .u32 0,.int .u32 0,.int .u32 0,.int .u32 0,.int .u32 0,.int .u32 0,.int .u32 0,.int .u32 0,.int .u32 0,.int .u32 0]:Array Value).size=(Bn FY).size:=by rw[TH];rfl
 have HS:=Hi (lY FY rfl);have HC:=Hi ak3;go_wp2_with (first|(refine wpList_store_row rfl 325 _ _ rfl w.heap.size (Bn FY) rfl (congrArg Value.agg HC.out) 325 _ (AP w _) HS hold dK ?_;rw[World.setRow_alloc_new]));exact EI (v:=.agg (Bn FY)) (results_cell_row rfl _ _ w.heap.size 325 _ (0,0) _ rfl (AP w _) underlying325 rfl (lY FY rfl)) rfl ⟨rfl,(Ah _ _).alloc (Ae _) _⟩
