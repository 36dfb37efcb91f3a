/- WalLaw2 -/
import Derived.Test.YtmbbhdebddbhoaaGreatQ6
set_option linter.all false
namespace Go.Proofs.YtmbbhdebddbhoaaGreat
namespace Wal
open Crc (le val Du)
theorem QD(n v:Nat)(h:v < 256 ^ n):val (le n v)=v:=by rw[Crc.YV,Nat.mod_eq_of_lt h]
theorem agL{t a:List UInt8}(R:List UInt8)(h:CO t=some a):Fu (a++R)=some (t,a.length):=by
 unfold CO at h;split at h
 ·rename_i hl
  simp only[Bt] at h;subst h;have h1:(le 2 t.length).length=2:=Crc.Be _ _;have h2:((le 2 t.length++t)++R).take 2=le 2 t.length:=by rw[Cw,Gf h1]
  unfold Fu;rw[Aa (by simp[h1]),h2,QD 2 _ (by show t.length < 65536;omega),Ac (by simp[h1])];have h3:((le 2 t.length++t)++R).take (2+t.length)=le 2 t.length++t:=Gf (by simp[h1]);rw[h3,Jb h1];simp[h1]
 ·cases h
theorem uY:∀ (l:List (List UInt8)) (a R:List UInt8),textsE l=some a→readTs l.length (a++R)=some (l,R)
 |[],a,R,h=>by
  simp only[textsE,Bt] at h;subst h;rfl
 |t :: l,a,R,h=>by
  simp only[textsE] at h;cases h1:CO t with
  |none=>rw[h1] at h;cases h
  |some x=>
   rw[h1] at h;simp only[BI] at h;cases h2:textsE l with
   |none=>rw[h2] at h;cases h
   |some y=>
    rw[h2] at h;simp only[Dm,Bt] at h;subst h;simp only[AX,readTs];rw[Cw,agL _ h1];simp only[BI];rw[Jb rfl,uY l y R h2];rfl
theorem uZ{l:List (List UInt8)}{a:List UInt8}(h:Er l=some a):C9 a=some l:=by
 unfold Er at h;split at h
 ·rename_i hl
  cases h1:textsE l with
  |none=>rw[h1] at h;cases h
  |some y=>
   rw[h1] at h;simp only[Dm,Bt] at h;subst h;have h2:(le 2 l.length).length=2:=Crc.Be _ _;unfold C9;rw[Aa (by simp[h2]),Gf h2,QD 2 _ (by show l.length < 65536;omega),Jb h2];have:=uY l y [] h1;rw[E8] at this;rw[this];rfl
 ·cases h
theorem Zr{l:List (List UInt8)}{s:List UInt8}(h:EU l=some s):∃ a,Er l=some a∧s=pad (le 4 a.length++a):=by
 unfold EU at h;cases h1:Er l with
 |none=>rw[h1] at h;cases h
 |some a=>
  rw[h1] at h;simp only[Dm,Bt] at h;exact⟨a,rfl,h.symm⟩
theorem WG{l:List (List UInt8)}{s:List UInt8}(h:EU l=some s):s.length % 64=0∧64≤s.length:=by
 obtain⟨a,_,rfl⟩:=Zr h;have:=Md (le 4 a.length++a);simp only[Aj,Crc.Be] at this;constructor
 ·exact sU _
 ·rw[this];omega
theorem agM{l:List (List UInt8)}{s:List UInt8}(h:EU l=some s)(hb:s.length < 4294967296)(R:List UInt8):GQ (s++R)=some (l,s.length):=by
 obtain⟨h64,h0⟩:=WG h;obtain⟨a,ha,rfl⟩:=Zr h;have hl4:(le 4 a.length).length=4:=Crc.Be _ _;have hpl:=Md (le 4 a.length++a);rw[Aj,hl4] at hpl;obtain⟨z,hz⟩:∃ z,pad (le 4 a.length++a)=le 4 a.length++a++z:=⟨_,rfl⟩;have e4:(pad (le 4 a.length++a)++R).take 4=le 4 a.length:=by rw[hz,Cw,Cw,Gf hl4]
 have hv:val (le 4 a.length)=a.length:=QD 4 _ (by show a.length < 4294967296;omega);have e5:(pad (le 4 a.length++a)++R).take (4+a.length)=le 4 a.length++a:=by rw[hz,Cw,Gf (by rw[Aj,hl4])]
 unfold GQ;rw[e4,hv,e5,Aa (by rw[Aj];omega),Ac (by rw[Aj];omega),Jb hl4,uZ ha];simp only[BI];rw[Gf rfl,Ac rfl]
def groupsE:List (List (List UInt8))→Option (List UInt8)
 |[]=>some []
 |l :: L=>(EU l).bind fun a=>(groupsE L).map (a++ ·)
theorem agN{L:List (List (List UInt8))}{S:List UInt8}(h:groupsE L=some S){l:List (List UInt8)}{s:List UInt8}(hl:EU l=some s):groupsE (L++[l])=some (S++s):=by
 induction L generalizing S with
 |nil=>
  simp only[groupsE,Bt] at h;subst h;simp[groupsE,hl]
 |cons t L ih=>
  simp only[groupsE] at h;cases h1:EU t with
  |none=>rw[h1] at h;cases h
  |some a=>
   rw[h1] at h;simp only[BI] at h;cases h2:groupsE L with
   |none=>rw[h2] at h;cases h
   |some b=>
    rw[h2] at h;simp only[Dm,Bt] at h;subst h;simp only[FL,groupsE,h1,ih h2,BI,Dm,Cw]
theorem agO{S:List UInt8}{l:List (List UInt8)}{k:Nat}(h:GQ S=some (l,k)):EU l=some (S.take k):=by
 unfold GQ at h;split at h
 ·cases h
 ·split at h
  ·rename_i h0 hv
   cases h1:C9 ((S.take (4+val (S.take 4))).drop 4) with
   |none=>rw[h1] at h;cases h
   |some q=>
    rw[h1] at h;simp only[BI] at h;split at h
    ·rename_i h3
     simp only[Bt,Jc] at h;obtain⟨rfl,rfl⟩:=h;have hr:=Wj h1;have hl:((S.take (4+val (S.take 4))).drop 4).length=val (S.take 4):=(by rw[BA,Aw];omega);unfold EU;rw[hr];simp only[Dm];rw[hl];have e:le 4 (val (S.take 4))=S.take 4:=by
      have:=Crc.VY (S.take 4);rwa[Aw,FM (by omega)] at this
     rw[e];have h5:S.take 4++(S.take (4+val (S.take 4))).drop 4=S.take (4+val (S.take 4)):=by
      generalize val (S.take 4)=v at*;have h6:S.take 4=(S.take (4+v)).take 4:=(by rw[List.take_take,FM (by omega)]);rw[h6,Ja]
     rw[h5,←h3]
    ·cases h
  ·cases h
theorem ve:∀ (f:Nat) (S:List UInt8) (L:List (List (List UInt8))),FO f S=some L→groupsE L=some S
 |0,S,L,h=>by
  simp only[FO] at h;split at h
  ·rename_i e
   simp only[Bt] at h;subst h;subst e;rfl
  ·cases h
 |f+1,S,L,h=>by
  simp only[FO] at h;split at h
  ·rename_i e
   simp only[Bt] at h;subst h;subst e;rfl
  ·cases h1:GQ S with
   |none=>rw[h1] at h;cases h
   |some p=>
    rw[h1] at h;simp only[BI] at h;cases h2:FO f (S.drop p.2) with
    |none=>rw[h2] at h;cases h
    |some q=>
     rw[h2] at h;simp only[Dm,Bt] at h;subst h;have g1:=agO (l:=p.1) (k:=p.2) h1;have g2:=ve f _ _ h2;simp only[groupsE,g1,g2,BI,Dm,Ja]
theorem vg:∀ (L:List (List (List UInt8))) (S:List UInt8) (f:Nat),groupsE L=some S→S.length≤64*f→S.length < 4294967296→FO f S=some L
 |[],S,f,h,_,_=>by
  simp only[groupsE,Bt] at h;subst h;exact sW f
 |l :: L,S,f,h,hf,hb=>by
  simp only[groupsE] at h;cases h1:EU l with
  |none=>rw[h1] at h;cases h
  |some a=>
   rw[h1] at h;simp only[BI] at h;cases h2:groupsE L with
   |none=>rw[h2] at h;cases h
   |some b=>
    rw[h2] at h;simp only[Dm,Bt] at h;subst h;obtain⟨g1,g2⟩:=WG h1;rw[Aj] at hf hb;obtain⟨f,rfl⟩:∃ f',f=f'+1:=⟨f -1,by omega⟩;have hne:¬ (a++b=[]):=fun e=>by
     have:=congrArg List.length e;rw[Aj,FN] at this;omega
    simp only[FO,Aa hne,agM h1 (by omega) b,BI];rw[Jb rfl,vg L b f h2 (by omega) (by omega)];rfl
theorem Sb(gen used:Nat):∃ z,mark gen used=[76,79,71,49]++(le 8 gen++(le 4 used++z)):=by
 unfold mark pad Crc.Du;generalize List.replicate _ (0:UInt8)=z;generalize le 4 (Crc.sum _)=y;exact⟨y++z,by simp only[Cw]⟩
theorem agP(gen used:Nat):((mark gen used).take 12).drop 4=le 8 gen:=by
 obtain⟨z,e⟩:=Sb gen used;have h8:(le 8 gen).length=8:=Crc.Be _ _;rw[e];have e1:([76,79,71,49]++(le 8 gen++(le 4 used++z))).take 12=[76,79,71,49]++le 8 gen:=by
  rw[←Cw];exact Gf (by rw[Aj,h8];rfl)
 rw[e1];exact Jb rfl
theorem agQ(gen used:Nat):((mark gen used).take 16).drop 12=le 4 used:=by
 obtain⟨z,e⟩:=Sb gen used;have h8:(le 8 gen).length=8:=Crc.Be _ _;have h4:(le 4 used).length=4:=Crc.Be _ _;rw[e];have e1:([76,79,71,49]++(le 8 gen++(le 4 used++z))).take 16=([76,79,71,49]++le 8 gen)++le 4 used:=by
  rw[←Cw,←Cw];exact Gf (by rw[Aj,Aj,h8,h4];rfl)
 rw[e1];exact Jb (by rw[Aj,h8];rfl)
theorem Zt(gen used:Nat):mark gen used≠pad [0]:=fun h=>by
 obtain⟨z,e⟩:=Sb gen used;rw[e] at h;have:=congrArg (fun l:List UInt8=>l.head?) h
 revert this
 simp[pad]
theorem vk{gen used n:Nat}{L:List (List (List UInt8))}{S R:List UInt8}(hg:gen < 18446744073709551616)(hu:used≤n -1)(hb:used < 60000000)(hL:groupsE L=some S)(hS:S.length=64*used):
  FV (mark gen used++(S++R)) n=some (gen,used,L):=by
 have DU:=Je gen used;have v1:val (le 8 gen)=gen:=QD 8 _ hg;have v2:val (le 4 used)=used:=QD 4 _ (by show used < 4294967296;omega);unfold FV;rw[Gf DU,Jb DU,Aa (Zt _ _),agP,agQ,v1,v2,Ac ⟨rfl,hu⟩,Gf hS,vg L S used hL (by omega) (by omega)];rfl
theorem WH{s:List UInt8}{n gen used:Nat}{L:List (List (List UInt8))}(h:FV s n=some (gen,used,L))(hs:64*n≤s.length)(hn:1≤n):
  used≤n -1∧gen < 18446744073709551616∧groupsE L=some ((s.drop 64).take (64*used))∧((s.take 64=pad [0]∧gen=0∧used=0)∨s.take 64=mark gen used):=by
 unfold FV at h;split at h
 ·rename_i h0
  simp only[Bt,Jc] at h;obtain⟨rfl,rfl,rfl⟩:=h;exact⟨by omega,by decide,rfl,.inl ⟨h0,rfl,rfl⟩⟩
 ·split at h
  ·rename_i hm
   obtain⟨h1,h2⟩:=hm;cases h3:FO (val (((s.take 64).take 16).drop 12)) ((s.drop 64).take (64*val (((s.take 64).take 16).drop 12))) with
   |none=>rw[h3] at h;cases h
   |some q=>
    rw[h3] at h;simp only[Dm,Bt,Jc] at h;obtain⟨rfl,rfl,rfl⟩:=h;have hv:=Crc.Gg (((s.take 64).take 12).drop 4);have hl:(((s.take 64).take 12).drop 4).length=8:=(by simp only[BA,Aw];omega);rw[hl] at hv;exact⟨h2,hv,ve _ _ _ h3,.inr h1⟩
  ·cases h
theorem agR{s:List UInt8}{n gen used:Nat}{L:List (List (List UInt8))}(h:FV s n=some (gen,used,L))(hs:64*n≤s.length)(hn:1≤n)(hn2:n≤16384){l:List (List UInt8)}{a R:List UInt8}(hl:EU l=some a)(hk:used+a.length / 64≤n -1):
  FV (mark gen (used+a.length / 64)++((s.drop 64).take (64*used)++(a++R))) n=some (gen,used+a.length / 64,L++[l]):=by
 obtain⟨h1,h2,h3,_⟩:=WH h hs hn;obtain⟨g1,g2⟩:=WG hl;have:=vk (gen:=gen) (used:=used+a.length / 64) (n:=n) (L:=L++[l]) (S:=(s.drop 64).take (64*used)++a) (R:=R) h2 hk (by omega) (agN h3 hl) (by rw[Aj,Aw,BA];omega);rwa[Cw] at this
theorem agS{s t:List UInt8}{n gen used:Nat}{L:List (List (List UInt8))}(h:FV s n=some (gen,used,L))(hs:64*n≤s.length)(hn:1≤n)(e:s.take (64+64*used)=t.take (64+64*used)):FV t n=some (gen,used,L):=by
 obtain⟨h1,h2,h3,_⟩:=WH h hs hn;have e1:t.take 64=s.take 64:=by
  have:=congrArg (List.take 64) e;rw[List.take_take,List.take_take,FM (by omega)] at this;exact this.symm
 have e2:(t.drop 64).take (64*used)=(s.drop 64).take (64*used):=by
  have:=congrArg (List.drop 64) e;rw[List.drop_take,List.drop_take,Nat.add_sub_cancel_left] at this;exact this.symm
 rw[←h];unfold FV at h ⊢;rw[e1];split
 ·rfl
 ·rename_i h0
  rw[Aa h0] at h;split
  ·rename_i hm
   rw[Ac hm] at h;cases h4:FO (val (((s.take 64).take 16).drop 12)) ((s.drop 64).take (64*val (((s.take 64).take 16).drop 12))) with
   |none=>rw[h4] at h;cases h
   |some q=>
    rw[h4] at h;simp only[Dm,Bt,Jc] at h;obtain⟨_,hu,_⟩:=h;rw[hu] at h4 ⊢;rw[e2,h4]
  ·rfl
end Wal
section
open Wal
def doS:List (Dsk→Dsk×Int)→Dsk→Dsk×Int
 |[],D=>(D,0)
 |f :: l,D=>if(f D).2=0 then doS l (f D).1 else f D
theorem Uv(f:Dsk→Dsk×Int)(l:List (Dsk→Dsk×Int))(D:Dsk):doS (f :: l) D=if(f D).2=0 then doS l (f D).1 else f D:=rfl
def AO.acts(L:AO)(s:List UInt8):List (Dsk→Dsk×Int):=
 [fun D=>D.write ((L.from_+1+L.used:Nat):Int) s,Dsk.flush,fun D=>D.write (L.from_:Int) (Wal.mark L.gen (L.used+s.length / 64)),Dsk.flush]
def AO.Hz(L:AO):List (Dsk→Dsk×Int):=
 [fun D=>D.write (L.from_:Int) (Wal.mark ((L.gen+1) % 18446744073709551616) 0),Dsk.flush]
def AO.fell(L:AO)(k:Int):AO:={ L with fault:=k }
def AO.grown(L:AO)(l:List (List UInt8))(k:Nat):AO:={ L with used:=L.used+k,groups:=L.groups++[l] }
def AO.Ob(L:AO):AO:={ L with gen:=(L.gen+1) % 18446744073709551616,used:=0,groups:=[] }
def wappend(D:Dsk)(L:AO)(l:List (List UInt8)):Dsk×AO×Int:=
 if L.fault≠0 then(D,L,L.fault) else match EU l with
 |none=>(D,L,5)
 |some s=>if L.n -1 -L.used < s.length / 64 then(D,L,4) else
  if(doS (L.acts s) D).2=0 then((doS (L.acts s) D).1,L.grown l (s.length / 64),0) else((doS (L.acts s) D).1,L.fell (doS (L.acts s) D).2,(doS (L.acts s) D).2)
def Cs(D:Dsk)(L:AO):Dsk×AO×Int:=
 if L.fault≠0 then(D,L,L.fault) else
  if(doS L.Hz D).2=0 then((doS L.Hz D).1,L.Ob,0) else((doS L.Hz D).1,L.fell (doS L.Hz D).2,(doS L.Hz D).2)
theorem vw(c:Nat):∀ (l:List (Dsk→Dsk×Int)) (D:Dsk),(∀ f∈l,∀ D,(f D).1.loose.length≤D.loose.length+c)→(doS l D).1.loose.length≤D.loose.length+c*l.length
 |[],D,_=>by simp[doS]
 |f :: l,D,h=>by
  rw[Uv];have h1:=h f Cc D;rw[AX,Nat.mul_add];split
  ·have:=vw c l (f D).1 (fun g hg=>h g (Dh _ hg));omega
  ·have:c≤c*l.length+c*1:=(by omega);omega
def puts(a:Nat)(s:List UInt8):Nat→List (Nat×List UInt8)
 |0=>[]
 |n+1=>(a,s.take 64) :: puts (a+1) (s.drop 64) n
theorem agT(D:Dsk)(hd:D.down=false)(a:Nat)(s:List UInt8)(n:Nat):
  (Dsk.writes D a s n).1.base=D.base∧(Dsk.writes D a s n).1.n=D.n∧
  (((Dsk.writes D a s n).2=0∧(Dsk.writes D a s n).1.down=false∧(Dsk.writes D a s n).1.loose=D.loose++puts a s n)∨
   ((Dsk.writes D a s n).2=40∧(Dsk.writes D a s n).1.down=true∧∃ P,(Dsk.writes D a s n).1.loose=D.loose++P∧∀ p∈P,a≤p.1∧p.1 < a+n)):=by
 induction n generalizing D a s with
 |zero=>exact⟨rfl,rfl,.inl ⟨rfl,hd,by simp[Dsk.writes,puts]⟩⟩
 |succ n ih=>
  simp only[Dsk.writes];split
  ·exact⟨rfl,rfl,.inr ⟨rfl,rfl,[],by simp,by simp⟩⟩
  ·obtain⟨h1,h2,h3⟩:=ih { D with loose:=D.loose++[(a,s.take 64)],left:=max (D.left -1) (-1) } hd (a+1) (s.drop 64);refine⟨h1,h2,?_⟩;rcases h3 with⟨g1,g2,g3⟩|⟨g1,g2,P,g3,g4⟩
   ·exact .inl ⟨g1,g2,by rw[g3];simp[puts]⟩
   ·refine .inr ⟨g1,g2,(a,s.take 64) :: P,by rw[g3];simp,fun p hp=>?_⟩;rcases AZ.1 hp with rfl|hp
    ·exact⟨Ab _,by show a < a+(n+1);omega⟩
    ·have:=g4 p hp;omega
theorem ic(f:Nat→List UInt8)(l:List (Nat×List UInt8))(k:Nat)(h:∀ p∈l,p.1≠k):Dsk.lay f l k=f k:=by
 induction l generalizing f with
 |nil=>rfl
 |cons p l ih=>
  show Dsk.lay _ l k=_
  rw[ih _ (fun q hq=>h q (Dh _ hq))];rw[Aa (fun e=>h p Cc e.symm)]
theorem vB{a:Nat}{s:List UInt8}{n:Nat}:∀ p∈puts a s n,a≤p.1∧p.1 < a+n:=by
 induction n generalizing a s with
 |zero=>intro p hp;simp[puts] at hp
 |succ n ih=>
  intro p hp;simp only[puts] at hp;rcases AZ.1 hp with rfl|hp
  ·exact⟨Ab _,by show a < a+(n+1);omega⟩
  ·have:=ih p hp;omega
theorem ig(f:Nat→List UInt8)(a:Nat)(s:List UInt8)(n:Nat)(hs:s.length=64*n):Dsk.text (Dsk.lay f (puts a s n)) a n=s:=by
 induction n generalizing f a s with
 |zero=>exact(List.eq_nil_of_length_eq_zero (by omega)).symm
 |succ n ih=>
  show Dsk.lay _ (puts (a+1) (s.drop 64) n) a++Dsk.text (Dsk.lay _ (puts (a+1) (s.drop 64) n)) (a+1) n=s
  rw[ic _ _ _ (fun p hp=>by have:=vB p hp;omega),ih _ _ _ (by rw[BA];omega),Ac rfl,Ja]
end
end Go.Proofs.YtmbbhdebddbhoaaGreat
