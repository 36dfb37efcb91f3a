/- WalLaw2 -/
import Derived.Test.YtmbbhdebddbhoaaGreatR6
set_option linter.all false
namespace Go.Proofs.YtmbbhdebddbhoaaGreat
namespace Wal
open Crc (le val EW)
theorem XQ(n v:Nat)(h:v < 256 ^ n):val (le n v)=v:=by rw[Crc.uL,Nat.mod_eq_of_lt h]
theorem axX{t a:List UInt8}(R:List UInt8)(h:DJ t=some a):Ie (a++R)=some (t,a.length):=by
 unfold DJ at h;split at h
 ·rename_i hl
  simp only[BX] at h;subst h;have h1:(le 2 t.length).length=2:=Crc.BK _ _;have h2:((le 2 t.length++t)++R).take 2=le 2 t.length:=by rw[Dp,Iz h1]
  unfold Ie;rw[Aa (by simp[h1]),h2,XQ 2 _ (by show t.length < 65536;omega),Ab (by simp[h1])];have h3:((le 2 t.length++t)++R).take (2+t.length)=le 2 t.length++t:=Iz (by simp[h1]);rw[h3,M0 h1];simp[h1]
 ·cases h
theorem am1:∀ (l:List (List UInt8)) (a R:List UInt8),textsE l=some a→readTs l.length (a++R)=some (l,R)
 |[],a,R,h=>by
  simp only[textsE,BX] at h;subst h;rfl
 |t :: l,a,R,h=>by
  simp only[textsE] at h;cases h1:DJ t with
  |none=>rw[h1] at h;cases h
  |some x=>
   rw[h1] at h;simp only[Cj] at h;cases h2:textsE l with
   |none=>rw[h2] at h;cases h
   |some y=>
    rw[h2] at h;simp only[Ej,BX] at h;subst h;simp only[Br,readTs];rw[Dp,axX _ h1];simp only[Cj];rw[M0 rfl,am1 l y R h2];rfl
theorem am0{l:List (List UInt8)}{a:List UInt8}(h:FZ l=some a):CW a=some l:=by
 unfold FZ at h;split at h
 ·rename_i hl
  cases h1:textsE l with
  |none=>rw[h1] at h;cases h
  |some y=>
   rw[h1] at h;simp only[Ej,BX] at h;subst h;have h2:(le 2 l.length).length=2:=Crc.BK _ _;unfold CW;rw[Aa (by simp[h2]),Iz h2,XQ 2 _ (by show l.length < 65536;omega),M0 h2];have:=am1 l y [] h1;rw[EH] at this;rw[this];rfl
 ·cases h
theorem pG{l:List (List UInt8)}{s:List UInt8}(h:GQ l=some s):∃ a,FZ l=some a∧s=pad (le 4 a.length++a):=by
 unfold GQ at h;cases h1:FZ l with
 |none=>rw[h1] at h;cases h
 |some a=>
  rw[h1] at h;simp only[Ej,BX] at h;exact⟨a,rfl,h.symm⟩
theorem iG{l:List (List UInt8)}{s:List UInt8}(h:GQ l=some s):s.length % 64=0∧64≤s.length:=by
 obtain⟨a,_,rfl⟩:=pG h;have:=Rh (le 4 a.length++a);simp only[Au,Crc.BK] at this;constructor
 ·exact alp _
 ·rw[this];omega
theorem awO{l:List (List UInt8)}{s:List UInt8}(h:GQ l=some s)(hb:s.length < 4294967296)(R:List UInt8):Ko (s++R)=some (l,s.length):=by
 obtain⟨Va,h0⟩:=iG h;obtain⟨a,ha,rfl⟩:=pG h;have Kh:(le 4 a.length).length=4:=Crc.BK _ _;have Fu:=Rh (le 4 a.length++a);rw[Au,Kh] at Fu;obtain⟨z,hz⟩:∃ z,pad (le 4 a.length++a)=le 4 a.length++a++z:=⟨_,rfl⟩;have e4:(pad (le 4 a.length++a)++R).take 4=le 4 a.length:=by rw[hz,Dp,Dp,Iz Kh]
 have hv:val (le 4 a.length)=a.length:=XQ 4 _ (by show a.length < 4294967296;omega);have e5:(pad (le 4 a.length++a)++R).take (4+a.length)=le 4 a.length++a:=by rw[hz,Dp,Iz (by rw[Au,Kh])]
 unfold Ko;rw[e4,hv,e5,Aa (by rw[Au];omega),Ab (by rw[Au];omega),M0 Kh,am0 ha];simp only[Cj];rw[Iz rfl,Ab rfl]
def groupsE:List (List (List UInt8))→Option (List UInt8)
 |[]=>some []
 |l :: L=>(GQ l).bind fun a=>(groupsE L).map (a++ ·)
theorem asQ{L:List (List (List UInt8))}{S:List UInt8}(h:groupsE L=some S){l:List (List UInt8)}{s:List UInt8}(hl:GQ l=some s):groupsE (L++[l])=some (S++s):=by
 induction L generalizing S with
 |nil=>
  simp only[groupsE,BX] at h;subst h;simp[groupsE,hl]
 |cons t L ih=>
  simp only[groupsE] at h;cases h1:GQ t with
  |none=>rw[h1] at h;cases h
  |some a=>
   rw[h1] at h;simp only[Cj] at h;cases h2:groupsE L with
   |none=>rw[h2] at h;cases h
   |some b=>
    rw[h2] at h;simp only[Ej,BX] at h;subst h;simp only[GI,groupsE,h1,ih h2,Cj,Ej,Dp]
theorem awQ{S:List UInt8}{l:List (List UInt8)}{k:Nat}(h:Ko S=some (l,k)):GQ l=some (S.take k):=by
 unfold Ko at h;split at h
 ·cases h
 ·split at h
  ·rename_i h0 hv
   cases h1:CW ((S.take (4+val (S.take 4))).drop 4) with
   |none=>rw[h1] at h;cases h
   |some q=>
    rw[h1] at h;simp only[Cj] at h;split at h
    ·rename_i h3
     simp only[BX,M5] at h;obtain⟨rfl,rfl⟩:=h;have hr:=kU h1;have hl:((S.take (4+val (S.take 4))).drop 4).length=val (S.take 4):=(by rw[Ce,AL];omega);unfold GQ;rw[hr];simp only[Ej];rw[hl];have e:le 4 (val (S.take 4))=S.take 4:=by
      have:=Crc.kD (S.take 4);rwa[AL,H8 (by omega)] at this
     rw[e];have h5:S.take 4++(S.take (4+val (S.take 4))).drop 4=S.take (4+val (S.take 4)):=by
      generalize val (S.take 4)=v at*;have h6:S.take 4=(S.take (4+v)).take 4:=(by rw[List.take_take,H8 (by omega)]);rw[h6,M4]
     rw[h5,←h3]
    ·cases h
  ·cases h
theorem alX:∀ (f:Nat) (S:List UInt8) (L:List (List (List UInt8))),Ip f S=some L→groupsE L=some S
 |0,S,L,h=>by
  simp only[Ip] at h;split at h
  ·rename_i e
   simp only[BX] at h;subst h;subst e;rfl
  ·cases h
 |f+1,S,L,h=>by
  simp only[Ip] at h;split at h
  ·rename_i e
   simp only[BX] at h;subst h;subst e;rfl
  ·cases h1:Ko S with
   |none=>rw[h1] at h;cases h
   |some p=>
    rw[h1] at h;simp only[Cj] at h;cases h2:Ip f (S.drop p.2) with
    |none=>rw[h2] at h;cases h
    |some q=>
     rw[h2] at h;simp only[Ej,BX] at h;subst h;have g1:=awQ (l:=p.1) (k:=p.2) h1;have g2:=alX f _ _ h2;simp only[groupsE,g1,g2,Cj,Ej,M4]
theorem alW:∀ (L:List (List (List UInt8))) (S:List UInt8) (f:Nat),groupsE L=some S→S.length≤64*f→S.length < 4294967296→Ip f S=some L
 |[],S,f,h,_,_=>by
  simp only[groupsE,BX] at h;subst h;exact alV f
 |l :: L,S,f,h,hf,hb=>by
  simp only[groupsE] at h;cases h1:GQ l with
  |none=>rw[h1] at h;cases h
  |some a=>
   rw[h1] at h;simp only[Cj] at h;cases h2:groupsE L with
   |none=>rw[h2] at h;cases h
   |some b=>
    rw[h2] at h;simp only[Ej,BX] at h;subst h;obtain⟨g1,g2⟩:=iG h1;rw[Au] at hf hb;obtain⟨f,rfl⟩:∃ f',f=f'+1:=⟨f -1,by omega⟩;have hne:¬ (a++b=[]):=fun e=>by
     have:=congrArg List.length e;rw[Au,Ig] at this;omega
    simp only[Ip,Aa hne,awO h1 (by omega) b,Cj];rw[M0 rfl,alW L b f h2 (by omega) (by omega)];rfl
theorem Zv(gen used:Nat):∃ z,mark gen used=[76,79,71,49]++(le 8 gen++(le 4 used++z)):=by
 unfold mark pad Crc.EW;generalize List.replicate _ (0:UInt8)=z;generalize le 4 (Crc.sum _)=y;exact⟨y++z,by simp only[Dp]⟩
theorem awf(gen used:Nat):((mark gen used).take 12).drop 4=le 8 gen:=by
 obtain⟨z,e⟩:=Zv gen used;have h8:(le 8 gen).length=8:=Crc.BK _ _;rw[e];have e1:([76,79,71,49]++(le 8 gen++(le 4 used++z))).take 12=[76,79,71,49]++le 8 gen:=by
  rw[←Dp];exact Iz (by rw[Au,h8];rfl)
 rw[e1];exact M0 rfl
theorem awh(gen used:Nat):((mark gen used).take 16).drop 12=le 4 used:=by
 obtain⟨z,e⟩:=Zv gen used;have h8:(le 8 gen).length=8:=Crc.BK _ _;have h4:(le 4 used).length=4:=Crc.BK _ _;rw[e];have e1:([76,79,71,49]++(le 8 gen++(le 4 used++z))).take 16=([76,79,71,49]++le 8 gen)++le 4 used:=by
  rw[←Dp,←Dp];exact Iz (by rw[Au,Au,h8,h4];rfl)
 rw[e1];exact M0 (by rw[Au,h8];rfl)
theorem si(gen used:Nat):mark gen used≠pad [0]:=fun h=>by
 obtain⟨z,e⟩:=Zv gen used;rw[e] at h;have:=congrArg (fun l:List UInt8=>l.head?) h
 revert this
 simp[pad]
theorem alg{gen used n:Nat}{L:List (List (List UInt8))}{S R:List UInt8}(hg:gen < 18446744073709551616)(hu:used≤n -1)(hb:used < 60000000)(hL:groupsE L=some S)(hS:S.length=64*used):
  IV (mark gen used++(S++R)) n=some (gen,used,L):=by
 have EC:=Nu gen used;have v1:val (le 8 gen)=gen:=XQ 8 _ hg;have v2:val (le 4 used)=used:=XQ 4 _ (by show used < 4294967296;omega);unfold IV;rw[Iz EC,M0 EC,Aa (si _ _),awf,awh,v1,v2,Ab ⟨rfl,hu⟩,Iz hS,alW L S used hL (by omega) (by omega)];rfl
theorem kQ{s:List UInt8}{n gen used:Nat}{L:List (List (List UInt8))}(h:IV s n=some (gen,used,L))(hs:64*n≤s.length)(hn:1≤n):
  used≤n -1∧gen < 18446744073709551616∧groupsE L=some ((s.drop 64).take (64*used))∧((s.take 64=pad [0]∧gen=0∧used=0)∨s.take 64=mark gen used):=by
 unfold IV at h;split at h
 ·rename_i h0
  simp only[BX,M5] at h;obtain⟨rfl,rfl,rfl⟩:=h;exact⟨by omega,by decide,rfl,.inl ⟨h0,rfl,rfl⟩⟩
 ·split at h
  ·rename_i hm
   obtain⟨h1,h2⟩:=hm;cases h3:Ip (val (((s.take 64).take 16).drop 12)) ((s.drop 64).take (64*val (((s.take 64).take 16).drop 12))) with
   |none=>rw[h3] at h;cases h
   |some q=>
    rw[h3] at h;simp only[Ej,BX,M5] at h;obtain⟨rfl,rfl,rfl⟩:=h;have hv:=Crc.Ji (((s.take 64).take 12).drop 4);have hl:(((s.take 64).take 12).drop 4).length=8:=(by simp only[Ce,AL];omega);rw[hl] at hv;exact⟨h2,hv,alX _ _ _ h3,.inr h1⟩
  ·cases h
theorem awZ{s:List UInt8}{n gen used:Nat}{L:List (List (List UInt8))}(h:IV s n=some (gen,used,L))(hs:64*n≤s.length)(hn:1≤n)(EP:n≤16384){l:List (List UInt8)}{a R:List UInt8}(hl:GQ l=some a)(hk:used+a.length / 64≤n -1):
  IV (mark gen (used+a.length / 64)++((s.drop 64).take (64*used)++(a++R))) n=some (gen,used+a.length / 64,L++[l]):=by
 obtain⟨h1,h2,h3,_⟩:=kQ h hs hn;obtain⟨g1,g2⟩:=iG hl;have:=alg (gen:=gen) (used:=used+a.length / 64) (n:=n) (L:=L++[l]) (S:=(s.drop 64).take (64*used)++a) (R:=R) h2 hk (by omega) (asQ h3 hl) (by rw[Au,AL,Ce];omega);rwa[Dp] at this
theorem ax0{s t:List UInt8}{n gen used:Nat}{L:List (List (List UInt8))}(h:IV s n=some (gen,used,L))(hs:64*n≤s.length)(hn:1≤n)(e:s.take (64+64*used)=t.take (64+64*used)):IV t n=some (gen,used,L):=by
 obtain⟨h1,h2,h3,_⟩:=kQ h hs hn;have e1:t.take 64=s.take 64:=by
  have:=congrArg (List.take 64) e;rw[List.take_take,List.take_take,H8 (by omega)] at this;exact this.symm
 have e2:(t.drop 64).take (64*used)=(s.drop 64).take (64*used):=by
  have:=congrArg (List.drop 64) e;rw[List.drop_take,List.drop_take,Nat.add_sub_cancel_left] at this;exact this.symm
 rw[←h];unfold IV at h ⊢;rw[e1];split
 ·rfl
 ·rename_i h0
  rw[Aa h0] at h;split
  ·rename_i hm
   rw[Ab hm] at h;cases h4:Ip (val (((s.take 64).take 16).drop 12)) ((s.drop 64).take (64*val (((s.take 64).take 16).drop 12))) with
   |none=>rw[h4] at h;cases h
   |some q=>
    rw[h4] at h;simp only[Ej,BX,M5] at h;obtain⟨_,hu,_⟩:=h;rw[hu] at h4 ⊢;rw[e2,h4]
  ·rfl
end Wal
section
open Wal
def doS:List (Dsk→Dsk×Int)→Dsk→Dsk×Int
 |[],D=>(D,0)
 |f :: l,D=>if(f D).2=0 then doS l (f D).1 else f D
theorem aY(f:Dsk→Dsk×Int)(l:List (Dsk→Dsk×Int))(D:Dsk):doS (f :: l) D=if(f D).2=0 then doS l (f D).1 else f D:=rfl
def Bn.acts(L:Bn)(s:List UInt8):List (Dsk→Dsk×Int):=
 [fun D=>D.write ((L.from_+1+L.used:Nat):Int) s,Dsk.flush,fun D=>D.write (L.from_:Int) (Wal.mark L.gen (L.used+s.length / 64)),Dsk.flush]
def Bn.L9(L:Bn):List (Dsk→Dsk×Int):=
 [fun D=>D.write (L.from_:Int) (Wal.mark ((L.gen+1) % 18446744073709551616) 0),Dsk.flush]
def Bn.fell(L:Bn)(k:Int):Bn:={ L with fault:=k }
def Bn.grown(L:Bn)(l:List (List UInt8))(k:Nat):Bn:={ L with used:=L.used+k,groups:=L.groups++[l] }
def Bn.TL(L:Bn):Bn:={ L with gen:=(L.gen+1) % 18446744073709551616,used:=0,groups:=[] }
def wappend(D:Dsk)(L:Bn)(l:List (List UInt8)):Dsk×Bn×Int:=
 if L.fault≠0 then(D,L,L.fault) else match GQ l with
 |none=>(D,L,5)
 |some s=>if L.n -1 -L.used < s.length / 64 then(D,L,4) else
  if(doS (L.acts s) D).2=0 then((doS (L.acts s) D).1,L.grown l (s.length / 64),0) else((doS (L.acts s) D).1,L.fell (doS (L.acts s) D).2,(doS (L.acts s) D).2)
def Dm(D:Dsk)(L:Bn):Dsk×Bn×Int:=
 if L.fault≠0 then(D,L,L.fault) else
  if(doS L.L9 D).2=0 then((doS L.L9 D).1,L.TL,0) else((doS L.L9 D).1,L.fell (doS L.L9 D).2,(doS L.L9 D).2)
theorem afX(c:Nat):∀ (l:List (Dsk→Dsk×Int)) (D:Dsk),(∀ f∈l,∀ D,(f D).1.loose.length≤D.loose.length+c)→(doS l D).1.loose.length≤D.loose.length+c*l.length
 |[],D,_=>by simp[doS]
 |f :: l,D,h=>by
  rw[aY];have h1:=h f Dg D;rw[Br,Nat.mul_add];split
  ·have:=afX c l (f D).1 (fun g hg=>h g (DT _ hg));omega
  ·have:c≤c*l.length+c*1:=(by omega);omega
def puts(a:Nat)(s:List UInt8):Nat→List (Nat×List UInt8)
 |0=>[]
 |n+1=>(a,s.take 64) :: puts (a+1) (s.drop 64) n
theorem aAB(D:Dsk)(hd:D.down=false)(a:Nat)(s:List UInt8)(n:Nat):
  (Dsk.writes D a s n).1.base=D.base∧(Dsk.writes D a s n).1.n=D.n∧
  (((Dsk.writes D a s n).2=0∧(Dsk.writes D a s n).1.down=false∧(Dsk.writes D a s n).1.loose=D.loose++puts a s n)∨
   ((Dsk.writes D a s n).2=40∧(Dsk.writes D a s n).1.down=true∧∃ P,(Dsk.writes D a s n).1.loose=D.loose++P∧∀ p∈P,a≤p.1∧p.1 < a+n)):=by
 induction n generalizing D a s with
 |zero=>exact⟨rfl,rfl,.inl ⟨rfl,hd,by simp[Dsk.writes,puts]⟩⟩
 |succ n ih=>
  simp only[Dsk.writes];split
  ·exact⟨rfl,rfl,.inr ⟨rfl,rfl,[],by simp,by simp⟩⟩
  ·obtain⟨h1,h2,h3⟩:=ih { D with loose:=D.loose++[(a,s.take 64)],left:=max (D.left -1) (-1) } hd (a+1) (s.drop 64);refine⟨h1,h2,?_⟩;rcases h3 with⟨g1,g2,g3⟩|⟨g1,g2,P,g3,g4⟩
   ·exact .inl ⟨g1,g2,by rw[g3];simp[puts]⟩
   ·refine .inr ⟨g1,g2,(a,s.take 64) :: P,by rw[g3];simp,fun p hp=>?_⟩;rcases Bt.1 hp with rfl|hp
    ·exact⟨Ac _,by show a < a+(n+1);omega⟩
    ·have:=g4 p hp;omega
theorem abS(f:Nat→List UInt8)(l:List (Nat×List UInt8))(k:Nat)(h:∀ p∈l,p.1≠k):Dsk.lay f l k=f k:=by
 induction l generalizing f with
 |nil=>rfl
 |cons p l ih=>
  show Dsk.lay _ l k=_
  rw[ih _ (fun q hq=>h q (DT _ hq))];rw[Aa (fun e=>h p Dg e.symm)]
theorem alR{a:Nat}{s:List UInt8}{n:Nat}:∀ p∈puts a s n,a≤p.1∧p.1 < a+n:=by
 induction n generalizing a s with
 |zero=>intro p hp;simp[puts] at hp
 |succ n ih=>
  intro p hp;simp only[puts] at hp;rcases Bt.1 hp with rfl|hp
  ·exact⟨Ac _,by show a < a+(n+1);omega⟩
  ·have:=ih p hp;omega
theorem ad7(f:Nat→List UInt8)(a:Nat)(s:List UInt8)(n:Nat)(hs:s.length=64*n):Dsk.text (Dsk.lay f (puts a s n)) a n=s:=by
 induction n generalizing f a s with
 |zero=>exact(List.eq_nil_of_length_eq_zero (by omega)).symm
 |succ n ih=>
  show Dsk.lay _ (puts (a+1) (s.drop 64) n) a++Dsk.text (Dsk.lay _ (puts (a+1) (s.drop 64) n)) (a+1) n=s
  rw[abS _ _ _ (fun p hp=>by have:=alR p hp;omega),ih _ _ _ (by rw[Ce];omega),Ab rfl,M4]
end
end Go.Proofs.YtmbbhdebddbhoaaGreat
