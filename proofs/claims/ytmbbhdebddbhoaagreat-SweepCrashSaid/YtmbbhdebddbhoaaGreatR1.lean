/- WalPlain Heap Blk Reads Build DiskRep -/
import Derived.Test.YtmbbhdebddbhoaaGreatR0
import Derived.Maps.OwnSet
import Derived.SliceStrings
import Derived.ProofKit
import Derived.SizedLaws
import Derived.Deep.MidRow
set_option linter.all false
namespace Go.Proofs.YtmbbhdebddbhoaaGreat
open Tryz
namespace Wal
open Crc (le val EW)
def pad(s:List UInt8):List UInt8:=s++List.replicate ((s.length+63) / 64*64 -s.length) 0
theorem Rh(s:List UInt8):(pad s).length=(s.length+63) / 64*64:=by simp[pad];omega
theorem alp(s:List UInt8):(pad s).length % 64=0:=by rw[Rh];omega
def DJ(s:List UInt8):Option (List UInt8):=if s.length≤65535 then some (le 2 s.length++s) else none
def textsE:List (List UInt8)→Option (List UInt8)
 |[]=>some []
 |s :: l=>(DJ s).bind fun a=>(textsE l).map (a++ ·)
def FZ(l:List (List UInt8)):Option (List UInt8):=if l.length≤65535 then(textsE l).map (le 2 l.length++ ·) else none
def GQ(l:List (List UInt8)):Option (List UInt8):=(FZ l).map fun s=>pad (le 4 s.length++s)
theorem anh(a b:List (List UInt8)):textsE (a++b)=(textsE a).bind fun x=>(textsE b).map (x++ ·):=by
 induction a with
 |nil=>cases h:textsE b<;>simp[textsE,h]
 |cons s a ih=>
  simp only[GI,textsE,ih];cases DJ s with
  |none=>rfl
  |some x=>
   cases textsE a with
   |none=>rfl
   |some y=>
    cases textsE b with
    |none=>rfl
    |some z=>simp
def Ie(s:List UInt8):Option (List UInt8×Nat):=
 if s.length < 2 then none else if 2+val (s.take 2)≤s.length then some ((s.take (2+val (s.take 2))).drop 2,2+val (s.take 2)) else none
def readTs:Nat→List UInt8→Option (List (List UInt8)×List UInt8)
 |0,s=>some ([],s)
 |k+1,s=>(Ie s).bind fun p=>(readTs k (s.drop p.2)).map fun q=>(p.1 :: q.1,q.2)
def CW(s:List UInt8):Option (List (List UInt8)):=
 if s.length < 2 then none else(readTs (val (s.take 2)) (s.drop 2)).bind fun q=>if q.2=[] then some q.1 else none
theorem ZG{s t:List UInt8}{n:Nat}(h:Ie s=some (t,n)):DJ t=some (s.take n)∧n≤s.length∧2≤n:=by
 unfold Ie at h;split at h
 ·cases h
 ·split at h
  ·rename_i h1 h2
   simp only[BX,M5] at h;obtain⟨rfl,rfl⟩:=h;have hv:val (s.take 2) < 256 ^ 2:=by
    have:=Crc.Ji (s.take 2);rwa[AL,H8 (by omega)] at this
   have hl:((s.take (2+val (s.take 2))).drop 2).length=val (s.take 2):=(by rw[Ce,AL];omega);refine⟨?_,h2,by omega⟩;unfold DJ;rw[hl,Ab (by omega)];have e:le 2 (val (s.take 2))=s.take 2:=by
    have:=Crc.kD (s.take 2);rwa[AL,H8 (by omega)] at this
   rw[e]
   congr 1
   generalize val (s.take 2)=v at*;have h3:s.take 2=(s.take (2+v)).take 2:=(by rw[List.take_take,H8 (by omega)]);rw[h3,M4]
  ·cases h
theorem acB{k:Nat}{s r:List UInt8}{l:List (List UInt8)}(h:readTs k s=some (l,r)):l.length=k∧∃ a,textsE l=some a∧a++r=s:=by
 induction k generalizing s l r with
 |zero=>
  simp only[readTs,BX,M5] at h;obtain⟨rfl,rfl⟩:=h;exact⟨rfl,[],rfl,rfl⟩
 |succ k ih=>
  simp only[readTs] at h;cases h1:Ie s with
  |none=>rw[h1] at h;cases h
  |some p=>
   rw[h1] at h;simp only[Cj] at h;cases h2:readTs k (s.drop p.2) with
   |none=>rw[h2] at h;cases h
   |some q=>
    rw[h2] at h;simp only[Ej,BX,M5] at h;obtain⟨rfl,rfl⟩:=h;obtain⟨e1,_,_⟩:=ZG (t:=p.1) (n:=p.2) h1;obtain⟨e2,a,e3,e4⟩:=ih (l:=q.1) (r:=q.2) h2;refine⟨by simp[e2],s.take p.2++a,by simp[textsE,e1,e3],?_⟩;rw[Dp,e4,M4]
theorem kU{s:List UInt8}{l:List (List UInt8)}(h:CW s=some l):FZ l=some s:=by
 unfold CW at h;split at h
 ·cases h
 ·rename_i h0
  cases h1:readTs (val (s.take 2)) (s.drop 2) with
  |none=>rw[h1] at h;cases h
  |some q=>
   rw[h1] at h;simp only[Cj] at h;split at h
   ·rename_i hq
    simp only[BX] at h;subst h;obtain⟨e1,a,e2,e3⟩:=acB (l:=q.1) (r:=q.2) h1;have hv:val (s.take 2) < 256 ^ 2:=by
     have:=Crc.Ji (s.take 2);rwa[AL,H8 (by omega)] at this
    unfold FZ;rw[e1,Ab (by omega),e2];simp only[Ej];have e:le 2 (val (s.take 2))=s.take 2:=by
     have:=Crc.kD (s.take 2);rwa[AL,H8 (by omega)] at this
    rw[e,←EH a,←hq,e3,M4]
   ·cases h
def Ko(s:List UInt8):Option (List (List UInt8)×Nat):=
 if s.length < 64 then none else if val (s.take 4)≤s.length -4 then
  (CW ((s.take (4+val (s.take 4))).drop 4)).bind fun l=>
   if pad (s.take (4+val (s.take 4)))=s.take (pad (s.take (4+val (s.take 4)))).length then some (l,(pad (s.take (4+val (s.take 4)))).length) else none
 else none
def mark(gen used:Nat):List UInt8:=pad (EW ([76,79,71,49]++le 8 gen++le 4 used))
theorem Nu(gen used:Nat):(mark gen used).length=64:=by
 unfold mark;rw[Rh,Crc.Rk];simp[Crc.BK]
def Ip:Nat→List UInt8→Option (List (List (List UInt8)))
 |0,s=>if s=[] then some [] else none
 |k+1,s=>if s=[] then some [] else(Ko s).bind fun p=>(Ip k (s.drop p.2)).map (p.1 :: ·)
theorem awP{s:List UInt8}{l:List (List UInt8)}{k:Nat}(h:Ko s=some (l,k)):64≤k∧k % 64=0∧k≤s.length:=by
 unfold Ko at h;split at h
 ·cases h
 ·split at h
  ·cases h1:CW ((s.take (4+val (s.take 4))).drop 4) with
   |none=>rw[h1] at h;cases h
   |some q=>
    rw[h1] at h;simp only[Cj] at h;split at h
    ·rename_i h0 h2 h3
     simp only[BX,M5] at h;obtain⟨_,rfl⟩:=h;have hl:=congrArg List.length h3;rw[AL] at hl;have hp:=Rh (s.take (4+val (s.take 4)));rw[AL] at hp;refine⟨by rw[hp];omega,alp _,by omega⟩
    ·cases h
  ·cases h
theorem axR{f:Nat}{s S:List UInt8}{u:Nat}{l:List (List (List UInt8))}{t:List (List UInt8)}{k:Nat}(hS:S≠[])(h:Ip u s=(Ip (f+1) S).map (l++ ·))(hn:Ko S=some (t,k)):
  Ip u s=(Ip f (S.drop k)).map ((l++[t])++ ·):=by
 rw[h];simp only[Ip,Aa hS,hn,Cj,Option.map_map]
 congr 1
 funext q
 simp
theorem axQ{f:Nat}{s S:List UInt8}{u:Nat}{l:List (List (List UInt8))}(hS:S≠[])(h:Ip u s=(Ip (f+1) S).map (l++ ·))(hn:Ko S=none):Ip u s=none:=by
 rw[h];simp[Ip,hS,hn]
theorem alV(f:Nat):Ip f []=some []:=by cases f<;>rfl
def IV(s:List UInt8)(n:Nat):Option (Nat×Nat×List (List (List UInt8))):=
 if s.take 64=pad [0] then some (0,0,[]) else
  if s.take 64=mark (val (((s.take 64).take 12).drop 4)) (val (((s.take 64).take 16).drop 12))∧val (((s.take 64).take 16).drop 12)≤n -1 then
   (Ip (val (((s.take 64).take 16).drop 12)) ((s.drop 64).take (64*val (((s.take 64).take 16).drop 12)))).map fun l=>(val (((s.take 64).take 12).drop 4),val (((s.take 64).take 16).drop 12),l)
  else none
end Wal
section
open Go.RowKit Go.Maps
structure A7(F:Nat→Prop)(w w':World):Prop where
 os:w'.os=w.os
 tape:w'.tape=w.tape
 output:w'.output=w.output
 size:w.heap.size≤w'.heap.size
 block:∀ k,k < w.heap.size→¬ F k→w'.heap[k]?=w.heap[k]?
theorem A7.refl(F:Nat→Prop)(w:World):A7 F w w:=⟨rfl,rfl,rfl,Ac _,fun _ _ _=>rfl⟩
theorem A7.of_below{F:Nat→Prop}{w w':World}(h:Bw w w'):A7 F w w':=⟨h.os,h.tape,h.output,h.size,fun k hk _=>h.block k hk⟩
theorem ub{w w':World}(h:Bw w w'):A7 (fun _=>False) w w':=A7.of_below h
theorem A7.trans{F G:Nat→Prop}{a b c:World}(h:A7 F a b)(k:A7 G b c)(hG:∀ i,G i→F i∨a.heap.size≤i):A7 F a c:=
 ⟨k.os.trans h.os,k.tape.trans h.tape,k.output.trans h.output,Ap h.size k.size,fun i hi hF=>(k.block i (DK hi h.size) (fun g=>by rcases hG i g with f|f;exact hF f;omega)).trans (h.block i hi hF)⟩
theorem A7.mono{F G:Nat→Prop}{a b:World}(h:A7 F a b)(hG:∀ i,F i→G i):A7 G a b:=⟨h.os,h.tape,h.output,h.size,fun i hi hn=>h.block i hi (fun f=>hn (hG i f))⟩
theorem A7.of_grownBy{F:Nat→Prop}{w w':World}{row:Option Nat}(hg:w.grownBy w' row)(hr:∀ k,row=some k→F k):A7 F w w':=
 ⟨hg.os,hg.tape,hg.output,hg.size,fun k hk hF=>hg.block k hk (fun e=>hF (hr k e.symm))⟩
theorem A7.alloc{F:Nat→Prop}{a w:World}(h:A7 F a w)(o:Obj):A7 F a (w.alloc o):=
 h.trans (G:=fun _=>False) (A7.of_below ((Af _ w).alloc (Ac _) o)) (fun _ f=>f.elim)
theorem A7.drew{F:Nat→Prop}{a w:World}(h:A7 F a w):A7 F a w.drew:=⟨h.os,h.tape,h.output,h.size,h.block⟩
theorem A7.setCell{F:Nat→Prop}{a w:World}(h:A7 F a w){p:Addr}(hp:F p.block∨a.heap.size≤p.block)(v:Value):A7 F a (w.setCell p v):=
 h.trans (G:=fun k=>k=p.block) ⟨rfl,rfl,rfl,by simp[World.setCell],fun k _ hk=>Below.heap_setCell _ _ _ _ hk⟩ (fun i e=>by rw[e];exact hp)
theorem Ca{B:Nat}{F:Nat→Prop}{a w w':World}(h:Below B a w)(k:A7 F w w')(hF:∀ i,F i→B≤i)(hB:B≤w.heap.size):Below B a w':=
 h.trans ⟨k.os,k.tape,k.output,k.size,fun i hi=>k.block i (by omega) (fun f=>by have:=hF i f;omega)⟩
theorem A7.cell{F:Nat→Prop}{w w':World}(h:A7 F w w'){p:Addr}(hp:p.block < w.heap.size)(hF:¬ F p.block):w'.cell? p=w.cell? p:=World.cell?_of_block (h.block p.block hp hF)
def Ib(kv:List (Int×Value))(i:Int):Option Value:=(kv.find? (fun p=>p.1 == i)).map (·.2)
def Qm(i:Int)(kv:List (Int×Value)):List (Int×Value):=kv.filter (fun p=>!(p.1 == i))
def Uk(i:Int)(v:Value)(kv:List (Int×Value)):List (Int×Value):=(i,v) :: Qm i kv
theorem avM{i j:Int}(h:j≠i)(kv:List (Int×Value)):Ib (Qm i kv) j=Ib kv j:=by
 unfold Ib Qm;rw[find_filter_keep];intro p hp;simp at hp ⊢;omega
theorem akv(i:Int)(v:Value)(kv:List (Int×Value)):Ib (Uk i v kv) i=some v:=by simp[Ib,Uk]
theorem aku{i j:Int}(h:j≠i)(v:Value)(kv:List (Int×Value)):Ib (Uk i v kv) j=Ib kv j:=by
 have h2:¬ i=j:=fun e=>h e.symm
 rw[←avM h kv];simp[Ib,Uk,h2]
theorem avK{i:Int}{kv:List (Int×Value)}(hn:(kv.map (·.1)).Nodup):(Qm i kv).length+(if(Ib kv i).isSome then 1 else 0)=kv.length:=by
 induction kv with
 |nil=>simp[Qm,Ib]
 |cons p kv ih=>
  simp only[BL,JF] at hn;have ih':=ih hn.2;by_cases h:p.1=i
  ·have h0:Ib kv i=none:=by
    unfold Ib;rw[Option.map_eq_none_iff,List.find?_eq_none];intro q hq;simp;intro e;exact hn.1 (by rw[h,←e];exact Gm hq)
   rw[h0] at ih';have e1:Qm i (p :: kv)=Qm i kv:=(by simp[Qm,h]);have e2:Ib (p :: kv) i=some p.2:=(by simp[Ib,h]);rw[e1,e2];simpa using ih'
  ·have e1:Qm i (p :: kv)=p :: Qm i kv:=(by simp[Qm,h]);have e2:Ib (p :: kv) i=Ib kv i:=(by simp[Ib,h]);rw[e1,e2];simp only[Br];omega
theorem avL{i:Int}{kv:List (Int×Value)}(hn:(kv.map (·.1)).Nodup):((Qm i kv).map (·.1)).Nodup:=by
 unfold Qm;exact hn.sublist (List.Sublist.map _ List.filter_sublist)
theorem avO{i:Int}{v:Value}{kv:List (Int×Value)}(hn:(kv.map (·.1)).Nodup):((Uk i v kv).map (·.1)).Nodup:=by
 simp only[Uk,BL,JF];refine⟨?_,avL hn⟩;intro h;obtain⟨p,hp,e⟩:=Bz.1 h;have:=(Et.1 hp).2;simp[e] at this
theorem avN{kv:List (Int×Value)}{i:Int}{v:Value}(h:Ib kv i=some v):(i,v)∈kv:=by
 unfold Ib at h;obtain⟨p,hp,rfl⟩:=Tg.1 h;have h1:=List.find?_some hp;simp at h1;subst h1;exact List.mem_of_find?_eq_some hp
def QY(v:Value):Option (DataW Value×List MemPlace):=some (.held v,[])
def Oy(P:Program)(K:TypeId)(w:World)(m:Nat)(kv:List (Int×Value)):Prop:=
 (kv.map (·.1)).Nodup∧∃ D:DataW Value,w.ownsMap P K QY m kv.length D∧Tidy D∧size D=kv.length∧∀ i z,D.atKey (.int .i64 i) z=(match Ib kv i with|some v=>.held v|none=>z)
section
variable {P:Program}{K T E:TypeId}{w:World}{m:Nat}{kv:List (Int×Value)}
theorem Oy.lt(h:Oy P K w m kv):m < w.heap.size:=h.2.choose_spec.1.lt
theorem Oy.made(w:World):Oy P K (w.alloc (.map #[] 0)) w.heap.size []:=
 ⟨by simp,.map [],World.ownsMap_made w P K QY,tidy_empty,rfl,fun i z=>rfl⟩
theorem Oy.kept{w':World}(h:Oy P K w m kv)(e:w'.heap[m]?=w.heap[m]?):Oy P K w' m kv:=by
 obtain⟨hn,D,⟨es,clock,hb,F,hs,hD⟩,rest⟩:=h;exact⟨hn,D,⟨es,clock,e.trans hb,F,hs,hD⟩,rest⟩
theorem j3{D:DataW Value}{kl:Lit}{o:Option Value}(h:∀ z,D.atKey kl z=(match o with|some v=>.held v|none=>z)):has D kl=o.isSome:=by
 cases o with
 |none=>exact has_false_of_atKey (fun z=>h z)
 |some v=>exact has_true_of_atKey (fun z=>h z)
theorem Oy.lookup(h:Oy P K w m kv)(hk:P.underlying K=some (.int .i64))(ht:P.underlying T=some (.map K E)){z:Value}(hz:(zeroValue E).run P w=.ok z w)(i:Int)(hw:(Lit.int .i64 i).wf=true):
  (Instr.lookup T (.map (some m)) (.int .i64 i) false).run P w=.ok ((Ib kv i).getD z) w:=by
 obtain⟨_,D,hown,_,_,hat⟩:=h;obtain⟨v,ps,hrun,hv⟩:=hown.lookup (int_keyed hk) ht hz (zd:=.held z) (zp:=[]) rfl (keyOf_int_mk hk hw);have e:=hat i (.held z);simp only[QY,BX,M5] at hv;rw[e] at hv;rw[hrun];cases hg:Ib kv i with
 |none=>rw[hg] at hv;simp at hv ⊢;exact hv.1
 |some u=>rw[hg] at hv;simp at hv ⊢;exact hv.1
theorem Oy.update(h:Oy P K w m kv)(hk:P.underlying K=some (.int .i64))(ht:P.underlying T=some (.map K E))(i:Int)(hw:(Lit.int .i64 i).wf=true)(v:Value)(Im:kv.length < maxLen):
  ∃ w',(Instr.mapUpdate T (.map (some m)) (.int .i64 i) v).run P w=.ok () w'∧Oy P K w' m (Uk i v kv)∧w.grownBy w' (some m):=by
 obtain⟨hn,D,hown,Uc,hsz,hat⟩:=h;obtain⟨w',hrun,BB,hg⟩:=hown.update (int_keyed hk) ht Im (key:=.int .i64 i) (val:=v) (keyOf_int_mk hk hw) (d:=.held v) (ps:=[]) rfl;have Jc:size (D.put (.int .i64 i) (.held v))=(Uk i v kv).length:=by
  rw[size_put Uc,j3 (hat i),hsz];have:=avK (i:=i) hn;simp only[Uk,Br];cases Qa:(Ib kv i).isSome<;>simp[Qa] at this ⊢ <;>omega
 refine⟨w',hrun,⟨avO hn,_,?_,Uc.put (show WideAt.IsKeyLit (.int .i64 i) from trivial) _,Jc,fun j z=>?_⟩,hg⟩
 ·obtain⟨es,clock,hb,F,_,hD⟩:=BB;refine⟨es,clock,hb,F,?_,hD⟩;rw[←Jc,hD,size_eq,length_sorted];simp
 ·by_cases e:j=i
  ·subst e;rw[atKey_put_same Uc.isMap (show WideAt.IsKeyLit (.int .i64 j) from trivial),akv]
  ·rw[atKey_put_other (fun e'=>e (by cases e';rfl)),aku e];exact hat j z
end
end
section
open Go.RowKit Go.Maps
theorem Ai{w:World}{k:Nat}{o:Obj}(h:w.heap[k]?=some o):k < w.heap.size:=(CR.1 h).1
def AA(w:World)(k:Nat)(t:TypeId):Prop:=∃ cs fr,w.heap[k]?=some (.cells cs t fr)
theorem AA.lt{w:World}{k:Nat}{t:TypeId}(h:AA w k t):k < w.heap.size:=by
 obtain⟨cs,fr,h⟩:=h;exact Ai h
theorem AA.upd{F:Nat→Prop}{w w':World}{k:Nat}{t:TypeId}(h:AA w k t)(hu:A7 F w w')(hF:¬ F k):AA w' k t:=by
 have hl:=h.lt;obtain⟨cs,fr,h⟩:=h;exact⟨cs,fr,(hu.block k hl hF).trans h⟩
theorem AA.ne{w:World}{k k':Nat}{t t':TypeId}(h:AA w k t)(h':AA w k' t')(ht:t≠t'):k≠k':=by
 rintro rfl;obtain⟨cs,fr,h⟩:=h;obtain⟨cs',fr',h'⟩:=h';rw[h] at h';injection h' with h'
 injection h' with _ h' _
 exact ht h'
theorem ZB{w:World}{base e s:Nat}{v:Value}{n:Nat}{xs:List Value}(h:w.ownsRow base e s v n xs){g:Nat}(hg:v.ownBlock=some g):g < w.heap.size:=by
 rcases h.2 with⟨rfl,_⟩|⟨g',cap,cur,rfl,_,O5,_⟩
 ·simp[Value.ownBlock] at hg
 ·simp[Value.ownBlock] at hg;subst hg;exact(CR.1 O5).1
theorem BQ{w:World}{base e s:Nat}{v:Value}{n:Nat}{xs:List Value}(h:w.ownsRow base e s v n xs){g:Nat}(hg:v.ownBlock=some g):AA w g e:=by
 rcases h.2 with⟨rfl,_⟩|⟨g',cap,cur,rfl,_,O5,_⟩
 ·simp[Value.ownBlock] at hg
 ·simp[Value.ownBlock] at hg;subst hg;exact⟨_,_,O5⟩
def D6(fp fp':Nat→Prop)(w:World):Prop:=∀ k,fp' k→fp k∨w.heap.size≤k
theorem Bh{F:Nat→Prop}{w w':World}{base e s:Nat}{v:Value}{n:Nat}{xs:List Value}(h:w.ownsRow base e s v n xs)(hu:A7 F w w')(hF:∀ g,v.ownBlock=some g→¬ F g):w'.ownsRow base e s v n xs:=by
 obtain⟨h1,h2⟩:=h;refine⟨h1,?_⟩;rcases h2 with h2|⟨g,cap,cur,rfl,hg,O5,rest⟩
 ·exact .inl h2
 ·exact .inr ⟨g,cap,cur,rfl,hg,by rw[hu.block g (CR.1 O5).1 (hF g rfl)];exact O5,rest⟩
theorem add_plain(g i:Nat):(⟨g,0,none⟩:Addr).add i=⟨g,i,none⟩:=by unfold Addr.add;split<;>simp_all
theorem WC(g o j:Nat):(⟨g,o,none⟩:Addr).add j=⟨g,o+j,none⟩:=by unfold Addr.add;split<;>simp_all
theorem add_zero'(q:Addr):q.add 0=q:=by unfold Addr.add;simp
theorem add_block(q:Addr)(i:Nat):(q.add i).block=q.block:=by unfold Addr.add;split<;>rfl
end
section
open Go.RowKit Go.WideShapes Go.ChangeShapes
theorem Hr(P:Program)(T E:TypeId)(hu:P.underlying T=some (.slice E))(s:Nat)(hs:(P.info? E).map (·.size)=some s)(p:Addr)(n cap k:Nat)(hk:k < n)(W:World):
  (Instr.indexAt T (.slice (some p) n cap) (.int .i64 (k:Int))).run P W=.ok (.pointer (some (p.add (k*s)))) W:=by
 cases hq:P.info? E with
 |none=>simp[hq] at hs
 |some i=>
  have h1:i.size=s:=by simpa[hq] using hs
  simp[Instr.indexAt,Gp hu,asIntOf,sizeOf,typeInfo,hq,h1,hk]
def BytesAt(w:World)(b:Nat)(l:List UInt8):Prop:=
 ∃ C e fr,w.heap[b]?=some (.cells C e fr)∧(∀ i,(h:i < l.length)→C[i]?=some (.int .u8 (l[i].toNat:Int)))∧(l.length≤fr.1∨fr=(0,0))
theorem BytesAt.cell{w:World}{b:Nat}{l:List UInt8}(h:BytesAt w b l)(i:Nat)(hi:i < l.length):w.cell? ⟨b,i,none⟩=some (.int .u8 (l[i].toNat:Int)):=by
 obtain⟨C,e,fr,hb,hc,_⟩:=h;rw[BA w b i C e fr hb];exact hc i hi
theorem BytesAt.free{w:World}{b:Nat}{l:List UInt8}(h:BytesAt w b l)(i:Nat)(hi:i < l.length):w.frozen? ⟨b,i,none⟩=false:=by
 obtain⟨C,e,⟨f1,f2⟩,hb,_,hf⟩:=h;simp only[M5] at hf;simp[World.frozen?,hb];omega
theorem BytesAt.set{w:World}{b:Nat}{l:List UInt8}(h:BytesAt w b l)(i:Nat)(x:UInt8):BytesAt (w.setCell ⟨b,i,none⟩ (.int .u8 (x.toNat:Int))) b (l.set i x):=by
 obtain⟨C,e,fr,hb,hc,hf⟩:=h;refine⟨C.setIfInBounds i (.int .u8 (x.toNat:Int)),e,fr,?_,fun j hj=>?_,by simpa using hf⟩
 ·rw[setCell_eq_setRow w b i C e fr _ hb];exact setRow_heap w b C _ e fr hb
 ·simp only[List.length_set] at hj;rw[Array.getElem?_setIfInBounds];have Dv:j < C.size:=by
   have:=hc j hj;exact(CR.1 this).1
  by_cases e1:i=j
  ·subst e1;simp[Dv]
  ·rw[Aa e1,hc j hj,List.getElem_set_ne e1]
theorem BytesAt.lt{w:World}{b:Nat}{l:List UInt8}(h:BytesAt w b l):b < w.heap.size:=by
 obtain⟨C,e,fr,hb,_⟩:=h;exact(CR.1 hb).1
theorem BytesAt.below{w w':World}{b:Nat}{l:List UInt8}(h:BytesAt w b l)(hb:Bw w w'):BytesAt w' b l:=by
 have hlt:=h.lt;obtain⟨C,e,fr,h1,h2⟩:=h;exact⟨C,e,fr,by rw[hb.block b hlt];exact h1,h2⟩
theorem aqk(w:World)(l:List UInt8)(e:TypeId):BytesAt (w.drew.alloc (.cells (bytesRow (bs l) (grownCap w l.length 0 e)) e ((bytesRow (bs l) (grownCap w l.length 0 e)).size,(bytesRow (bs l) (grownCap w l.length 0 e)).size+1))) w.heap.size l:=by
 refine⟨_,_,_,heap_alloc_last w.drew _,fun i hi=>?_,?_⟩
 ·exact bytesRow_at (bs l) _ i (by simpa using hi)
 ·left;simp[bytesRow]
@[irreducible] def BV (k:List UInt8):List Value:=(CX k).toList
theorem ML(k:List UInt8):(BV k).length=k.length:=by unfold BV;simp
theorem eF(k:List UInt8):(BV k).toArray=CX k:=by unfold BV;simp
theorem adg(k:List UInt8):(CX k).toList=BV k:=by unfold BV;rfl
theorem lK(k:List UInt8)(i:Nat)(h:i < k.length):(BV k)[i]?=some (.int .u8 (k[i].toNat:Int)):=by
 unfold BV;rw[Dn,eH k i h]
theorem lL(k:List UInt8):∀ u∈BV k,u.oneCell'=true:=by
 unfold BV;intro u hu;exact(Array.all_eq_true_iff_forall_mem.1 (adh k)) u (by simpa using hu)
theorem lJ(x:UInt8)(k:List UInt8):BV (x :: k)=.int .u8 (x.toNat:Int) :: BV k:=by unfold BV CX;simp
theorem eG:BV []=[]:=by unfold BV CX;simp
theorem ZP(a b:List UInt8):BV (a++b)=BV a++BV b:=by unfold BV CX;simp
theorem BytesAt.seg{b:Nat}(x:List UInt8):∀ {w:World} {q:List UInt8} (o:Nat),BytesAt w b q→o+x.length≤q.length→BytesAt (w.setCells b o (BV x)) b (q.take o++x++q.drop (o+x.length)):=by
 induction x with
 |nil=>
  intro w q o h _;rw[eG];simpa[World.setCells] using h
 |cons a x ih=>
  intro w q o h hl;simp only[Br] at hl;have h1:=ih (o+1) (h.set o a) (by rw[List.length_set];omega);rw[lJ];simp only[World.setCells];have e:(q.set o a).take (o+1)++x++(q.set o a).drop (o+1+x.length)=q.take o++a :: x++q.drop (o+(a :: x).length):=by
   have e1:(q.set o a).take (o+1)=q.take o++[a]:=by
    rw[Cw (by rw[List.length_set];omega),List.getElem_set_self,List.take_set_of_le (Ac _)]
   have e2:(q.set o a).drop (o+1+x.length)=q.drop (o+(a :: x).length):=by
    rw[List.drop_set_of_lt (by omega),Br,show o+1+x.length=o+(x.length+1) by omega]
   rw[e1,e2];simp
  rw[←e];exact h1
theorem BytesAt.range{w:World}{b:Nat}{q:List UInt8}(h:BytesAt w b q)(o n:Nat)(hl:o+n≤q.length):w.rangeAt b o (BV ((q.drop o).take n)):=by
 intro j v hv;have hj:=(Uw.1 hv).1;rw[ML] at hj;rw[lK _ j hj] at hv;have KN:j < n:=by rw[AL] at hj;omega
 rw[h.cell (o+j) (by omega),←hv];simp[List.getElem_take,List.getElem_drop]
theorem BytesAt.there{w:World}{b:Nat}{q:List UInt8}(h:BytesAt w b q)(o n:Nat)(hl:o+n≤q.length):w.there b o n:=fun j hj=>⟨by rw[h.cell (o+j) (by omega)];rfl,h.free (o+j) (by omega)⟩
theorem afo(w:World)(c:Array Value)(T:TypeId)(q:List UInt8)(hc:∀ i,(h:i < q.length)→c[i]?=some (.int .u8 (q[i].toNat:Int))):BytesAt (w.alloc (.cells c T)) w.heap.size q:=
 ⟨c,T,(0,0),heap_alloc_last w _,hc,.inr rfl⟩
theorem BytesAt.store{w:World}{b:Nat}{q:List UInt8}(h:BytesAt w b q)(P:Program)(o:Nat)(x:List UInt8)(hl:o+x.length≤q.length):
  (storeCells ⟨b,o,none⟩ (CX x).toList).run P w=.ok () (w.setCells b o (BV x)):=by
 have ht:=h.there o x.length hl;have:=run_storeCells_cells (P:=P) b o (BV x) 0 w (fun j hj=>by rw[ML] at hj;simpa using(ht j hj).1) (fun j hj=>by rw[ML] at hj;simpa using(ht j hj).2) (lL x);rw[adg];simpa using this
theorem adn(b:Nat):∀ (vs:List Value) (o:Nat) (w:World),(w.setCells b o vs).heap.size=w.heap.size∧(w.setCells b o vs).os=w.os∧(w.setCells b o vs).tape=w.tape∧(w.setCells b o vs).output=w.output∧∀ k,k≠b→(w.setCells b o vs).heap[k]?=w.heap[k]?
 |[],_,_=>⟨rfl,rfl,rfl,rfl,fun _ _=>rfl⟩
 |v :: r,o,w=>by
  obtain⟨h1,h2,h3,h4,h5⟩:=adn b r (o+1) (w.setCell ⟨b,o,none⟩ v);exact⟨h1.trans (by simp[World.setCell]),h2,h3,h4,fun k hk=>(h5 k hk).trans (Below.heap_setCell _ _ _ _ hk)⟩
theorem below_setCells{B:Nat}{a w:World}(h:Below B a w){b:Nat}(hb:B≤b)(o:Nat)(vs:List Value):Below B a (w.setCells b o vs):=by
 obtain⟨h1,h2,h3,h4,h5⟩:=adn b vs o w;exact h.trans ⟨h2,h3,h4,by omega,fun k hk=>h5 k (by omega)⟩
theorem aqI(P:Program)(src dst e:TypeId)(hs:P.underlying src=some .string)(hd:P.underlying dst=some (.slice e))(he:P.underlying e=some (.int .u8))(w:World)(x:List UInt8):
  ∃ (w1:World) (cap:Nat),(convert src dst (.string (bs x))).run P w=.ok (.slice (some ⟨w.heap.size,0,none⟩) x.length cap) w1∧BytesAt w1 w.heap.size x∧Bw w w1∧w1.heap.size=w.heap.size+1:=by
 have h:=run_bytes_of_string (P:=P) w src dst e (bs x) hs hd he;exact⟨_,_,h,aqk w x e,(Af _ _).drew.alloc (Ac _) _,by simp⟩
theorem run_arrayAt(P:Program)(W:World)(T E:TypeId)(N:Nat)(a:Option Addr)(n c:Nat)(hu:P.underlying T=some (.array N E))(hn:N≤n):(Instr.arrayAt T (.slice a n c)).run P W=.ok (.pointer a) W:=by
 simp[Instr.arrayAt,Gp hu,show ¬ n < N by omega]
end
section
theorem agJ(off:Nat):∀ (l:List Value) (k:Nat) (cs:Array Value) (i:Nat),off+k+l.length≤cs.size→
  ((l.zipIdx k).foldl (fun cs (p:Value×Nat)=>cs.setIfInBounds (off+p.2) p.1) cs)[i]?=if off+k≤i∧i < off+k+l.length then l[i -(off+k)]? else cs[i]?
 |[],k,cs,i,_=>by simp;intro h1 h2;omega
 |v :: l,k,cs,i,h=>by
  simp only[Br] at h;rw[List.zipIdx_cons,List.foldl_cons,agJ off l (k+1) _ i (by simp;omega)];simp only[Br];by_cases h1:off+(k+1)≤i∧i < off+(k+1)+l.length
  ·rw[Ab h1,Ab (by omega),show i -(off+k)=(i -(off+(k+1)))+1 by omega,List.getElem?_cons_succ]
  ·rw[Aa h1,Array.getElem?_setIfInBounds];by_cases h2:off+k=i
   ·rw[Ab h2,Ab (by omega),Ab (by omega),show i -(off+k)=0 by omega];rfl
   ·rw[Aa h2,Aa (by omega)]
theorem agK(off n:Nat)(v cs:Array Value)(hv:v.size=n)(hl:off+n=cs.size):
  Array.foldl (fun cs (x:Value×Nat)=>cs.setIfInBounds (off+x.snd) x.fst) cs v.zipIdx 0 n=(cs.toList.take off++v.toList).toArray:=by
 have e0:Array.foldl (fun cs (x:Value×Nat)=>cs.setIfInBounds (off+x.snd) x.fst) cs v.zipIdx 0 n=(v.toList.zipIdx 0).foldl (fun cs (p:Value×Nat)=>cs.setIfInBounds (off+p.2) p.1) cs:=by
  have hz:v.zipIdx.size=n:=by simp[hv]
  rw[←Array.toList_zipIdx,Array.foldl_toList,hz]
 rw[e0];apply Array.ext_getElem?;intro j;rw[agJ off v.toList 0 cs j (by simp;omega)];have eR:∀ X:List Value,X.toArray[j]?=X[j]? :=fun X=>List.getElem?_toArray
 have eC:cs[j]?=cs.toList[j]? :=Array.getElem?_toList.symm;rw[eC,eR (cs.toList.take off++v.toList)];simp only[Nat.add_zero,Array.length_toList];by_cases a1:j < off
 ·rw[Aa (by omega),List.getElem?_append_left (by simp;omega),List.getElem?_take,Ab a1]
 ·rw[List.getElem?_append_right (by simp;omega)];simp only[AL,Array.length_toList,H8 (show off≤cs.size by omega)];by_cases a2:j < off+v.size
  ·rw[Ab (by omega)]
  ·rw[Aa (by omega),List.getElem?_eq_none (by simp;omega),List.getElem?_eq_none (by simp;omega)]
theorem asg(n:Nat)(v cs:Array Value)(hv:v.size=n)(hl:cs.size=n):
  Array.foldl (fun cs (x:Value×Nat)=>cs.setIfInBounds x.snd x.fst) cs v.zipIdx 0 n=v:=by
 have h:=agK 0 n v cs hv (by omega);simp only[GJ] at h;rw[h];simp
end
section
open Go.RowKit Go.Maps
theorem amB:(prog.info? 193).map (fun i=>(i.zero,i.size))=some (some (.agg (CX MK)),64):=by kernel_rfl
theorem ayH(w:World):(zeroValue 193).run prog w=.ok (.agg (CX MK)) w:=(zero_of_info amB).1 w
theorem acT:(prog.info? 193).map (·.size)=some 64:=(zero_of_info amB).2
@[irreducible] def Nt (l:List (Nat×List UInt8)):List Value:=l.flatMap fun p=>Value.int .i64 (p.1:Int) :: BV p.2
theorem aw7(l:List (Nat×List UInt8))(p:Nat×List UInt8):Nt (l++[p])=Nt l++(Value.int .i64 (p.1:Int) :: BV p.2):=by
 unfold Nt;simp
theorem akL:Nt []=[]:=by unfold Nt;rfl
theorem aw6(l:List (Nat×List UInt8))(h:∀ p∈l,p.2.length=64)(k:Nat)(hk:k < l.length)(j:Nat)(hj:j < 65):
  (Nt l)[k*65+j]?=(Value.int .i64 (l[k].1:Int) :: BV l[k].2)[j]? :=by
 induction l generalizing k with
 |nil=>simp at hk
 |cons p l ih=>
  have e:Nt (p :: l)=(Value.int .i64 (p.1:Int) :: BV p.2)++Nt l:=by unfold Nt;rfl
  have hlen:(Value.int .i64 (p.1:Int) :: BV p.2).length=65:=by rw[Br,ML,h p Dg]
  rw[e];cases k with
  |zero=>
   rw[Nat.zero_mul,GJ,List.getElem?_append_left (by omega)];rfl
  |succ k=>
   rw[List.getElem?_append_right (by omega),hlen,show(k+1)*65+j -65=k*65+j by omega];exact ih (fun q hq=>h q (DT _ hq)) k (by simpa using hk)
@[irreducible] def putRow (p:Nat×List UInt8):Array Value:=(Value.int .i64 (p.1:Int) :: BV p.2).toArray
theorem XH(p:Nat×List UInt8):(putRow p).toList=Value.int .i64 (p.1:Int) :: BV p.2:=by unfold putRow;rfl
theorem acu(p:Nat×List UInt8)(h:p.2.length=64):(putRow p).size=65:=by
 rw[←Array.length_toList,XH,Br,ML,h]
theorem alM(p:Nat×List UInt8):(putRow p)[0]?=some (.int .i64 (p.1:Int)):=by
 rw[←Dn,XH];rfl
theorem tC(p:Nat×List UInt8):(putRow p).all (·.oneCell')=true:=by
 rw[Array.all_eq_true_iff_forall_mem];intro u hu;have:u∈(putRow p).toList:=by simpa using hu
 rw[XH] at this;rcases Bt.1 this with rfl|h
 ·rfl
 ·exact lL _ u h
theorem acy:(prog.info? 195).map (fun i=>(i.zero,i.size))=some (some (.agg Tryz.zeroCells195),65):=by kernel_rfl
theorem tL(p:Nat×List UInt8)(h:p.2.length=64):(prog.info? 195).map (·.size)=some (putRow p).size:=by rw[acu p h];exact(zero_of_info acy).2
theorem acA(p:Nat×List UInt8)(h:p.2.length=64):Tryz.zeroCells195.size=(putRow p).size:=by rw[acu p h];kernel_rfl
theorem axB(w:World)(p:Nat×List UInt8)(T:TypeId):(w.alloc (.cells (putRow p) T)).rangeAt w.heap.size 1 (BV p.2):=by
 intro j v hv;rw[DF,←Dn,XH,Nat.add_comm 1 j];exact hv
theorem l9(x:List UInt8)(h:x.length=64):(prog.info? 193).map (·.size)=some (BV x).length:=by rw[ML,h];exact acT
@[irreducible] def Ph (i:Int) (x:List UInt8):Array Value:=(Value.int .i64 i :: BV x).toArray
theorem axy(a k:Nat)(x:List UInt8):Ph ((a:Int)+(k:Int)) x=putRow (a+k,x):=by unfold Ph putRow;rfl
theorem acs(i:Int)(x:List UInt8)(h:x.length=64):(Ph i x).size=65:=by
 unfold Ph;rw[JG,Br,ML,h]
theorem kS:Tryz.zeroCells195.size=65:=by kernel_rfl
theorem axD(i:Int)(x:List UInt8)(h:x.length=64):
  Array.foldl (fun cs (x:Value×Nat)=>cs.setIfInBounds (1+x.snd) x.fst) (Tryz.zeroCells195.setIfInBounds 0 (Value.int .i64 i)) (CX x).zipIdx 0 64=Ph i x:=by
 have hz:(Tryz.zeroCells195.setIfInBounds 0 (Value.int .i64 i)).size=65:=by rw[Array.size_setIfInBounds,kS]
 rw[agK 1 64 (CX x) _ (by simp[h]) (by rw[hz])];have h0:(Tryz.zeroCells195.setIfInBounds 0 (Value.int .i64 i)).toList.take 1=[.int .i64 i]:=by
  apply List.ext_getElem?;intro j;rw[List.getElem?_take];by_cases hj:j < 1
  ·obtain rfl:j=0:=(by omega);rw[Ab hj,Dn,Array.getElem?_setIfInBounds,Ab rfl,Ab (by rw[kS];decide)];rfl
  ·rw[Aa hj,List.getElem?_eq_none (by simp;omega)]
 rw[h0,adg];unfold Ph;rfl
theorem axE(Z:Array Value)(i:Int)(x:List UInt8)(h:x.length=64)(hZ:Z.size=65):
  Array.foldl (fun cs (x:Value×Nat)=>cs.setIfInBounds x.snd x.fst) Z (Ph i x).zipIdx 0 65=Ph i x:=asg 65 _ _ (acs i x h) hZ
theorem abY{w:World}{base g n cap:Nat}{l:List (Nat×List UInt8)}(h:w.ownsRow base 195 65 (.slice (some ⟨g,0,none⟩) n cap) l.length (Nt l))(hl:∀ p∈l,p.2.length=64)(k:Nat)(hk:k < l.length):
  w.rangeAt g (k*65) (Value.int .i64 (l[k].1:Int) :: BV l[k].2):=by
 intro j v hv;have hj:j < 65:=by
  have:=(Uw.1 hv).1;rw[Br,ML,hl _ (Ci hk)] at this;omega
 rw[←aw6 l hl k hk j hj] at hv;have:=h.cells (g:=g) rfl _ _ hv;have e:(⟨g,0,none⟩:Addr).add (k*65+j)=⟨g,k*65+j,none⟩:=by unfold Addr.add;split<;>simp_all
 rw[e] at this;exact this
theorem tK(p:Nat×List UInt8)(h:p.2.length=64):(prog.info? 195).map (·.size)=some (Value.int .i64 (p.1:Int) :: BV p.2).length:=by rw[Br,ML,h];exact(zero_of_info acy).2
theorem tJ(p:Nat×List UInt8):(Value.int .i64 (p.1:Int) :: BV p.2).toArray=putRow p:=by unfold putRow;rfl
theorem acx:(prog.info? 195).map (·.size)=some 65:=(zero_of_info acy).2
def N7(w:World)(m N:Nat)(f:Nat→List UInt8):Prop:=
 ∃ kv,Oy prog 3 w m kv∧(∀ p∈kv,∃ i:Nat,i < N∧p.1=(i:Int)∧p.2=.agg (CX (f i)))∧∀ i:Nat,i < N→Ib kv i=none→f i=MK
theorem N7.lt{w:World}{m N:Nat}{f:Nat→List UInt8}(h:N7 w m N f):m < w.heap.size:=h.choose_spec.1.lt
theorem N7.kept{w w':World}{m N:Nat}{f:Nat→List UInt8}(h:N7 w m N f)(e:w'.heap[m]?=w.heap[m]?):N7 w' m N f:=by
 obtain⟨kv,h1,h2⟩:=h;exact⟨kv,h1.kept e,h2⟩
theorem N7.made(w:World)(N:Nat):N7 (w.alloc (.map #[] 0)) w.heap.size N (fun _=>MK):=⟨[],Oy.made w,fun p hp=>by simp at hp,fun _ _ _=>rfl⟩
theorem anW(i:Nat)(h:i≤16384):(Lit.int .i64 (i:Int)).wf=true:=WalkArith.wf_i64 (by omega)
theorem N7.get{w:World}{m N:Nat}{f:Nat→List UInt8}(h:N7 w m N f)(i:Nat)(hi:i < N)(hN:N≤16384):
  (Instr.lookup 114 (.map (some m)) (.int .i64 (i:Int)) false).run prog w=.ok (.agg (CX (f i))) w:=by
 obtain⟨kv,h1,h2,h3⟩:=h;rw[h1.lookup underlying3 underlying114 (ayH w) i (anW i (by omega))];cases hg:Ib kv i with
 |none=>rw[h3 i hi hg];rfl
 |some v=>
  obtain⟨j,_,e1,e2⟩:=h2 _ (avN hg);simp at e1 e2;have e3:i=j:=by omega
  subst e3;rw[e2];rfl
theorem awT(N:Nat):∀ (l:List Int),l.Nodup→(∀ x∈l,∃ i:Nat,i < N∧x=(i:Int))→l.length≤N:=by
 induction N with
 |zero=>
  intro l _ h;cases l with
  |nil=>simp
  |cons x l=>obtain⟨i,hi,_⟩:=h x Dg;omega
 |succ N ih=>
  intro l hn h;by_cases hm:(N:Int)∈l
  ·have h1:=ih (l.erase (N:Int)) (hn.erase _) (fun x hx=>by
    obtain⟨hne,hx⟩:=(List.Nodup.mem_erase_iff hn).1 hx;obtain⟨i,hi,e⟩:=h x hx;exact⟨i,by have:i≠N:=fun e'=>hne (by rw[e,e']);omega,e⟩)
   rw[List.length_erase_of_mem hm] at h1;omega
  ·have:=ih l hn (fun x hx=>by
    obtain⟨i,hi,e⟩:=h x hx;exact⟨i,by have:i≠N:=fun e'=>hm (by rw[←e',←e];exact hx);omega,e⟩)
   omega
theorem N7.put{w:World}{m N:Nat}{f:Nat→List UInt8}(h:N7 w m N f)(i:Nat)(hi:i < N)(hN:N≤16384)(x:List UInt8):
  ∃ w',(Instr.mapUpdate 114 (.map (some m)) (.int .i64 (i:Int)) (.agg (CX x))).run prog w=.ok () w'∧N7 w' m N (fun k=>if k=i then x else f k)∧w.grownBy w' (some m):=by
 obtain⟨kv,h1,h2,h3⟩:=h;have hlen:kv.length≤N:=by
  have:=awT N (kv.map (·.1)) h1.1 (fun y hy=>by
   obtain⟨p,hp,rfl⟩:=Bz.1 hy;obtain⟨j,hj,e,_⟩:=h2 p hp;exact⟨j,hj,e⟩)
  simpa using this
 obtain⟨w',hrun,hm,hg⟩:=h1.update underlying3 underlying114 i (anW i (by omega)) (.agg (CX x)) (by unfold maxLen;omega);refine⟨w',hrun,⟨Uk i (.agg (CX x)) kv,hm,fun p hp=>?_,fun j hj hg=>?_⟩,hg⟩
 ·rcases Bt.1 hp with rfl|hp
  ·exact⟨i,hi,rfl,by simp⟩
  ·obtain⟨ER,Jb⟩:=Et.1 hp;obtain⟨j,hj,e1,e2⟩:=h2 p ER;have hne:¬ j=i:=fun e=>by simp[e1,e] at Jb
   exact⟨j,hj,e1,by simp only[Aa hne];exact e2⟩
 ·by_cases e:j=i
  ·subst e;rw[akv] at hg;simp at hg
  ·simp only[Aa e];rw[aku (by omega)] at hg;exact h3 j hj hg
structure Em(w:World)(b m:Nat)(lv:Value)(D:Dsk):Prop where
 struct:w.heap[b]?=some (.cells #[.int .i64 (D.n:Int),.map (some m),lv,.int .i64 D.left,.bool D.down] 117)
 base:N7 w m D.n D.base
 loose:w.ownsRow 0 195 65 lv D.loose.length (Nt D.loose)
 mb:m≠b
 lb:lv.ownBlock≠some b
 lm:lv.ownBlock≠some m
 fine:D.BM
def PT(b m:Nat)(lv:Value)(k:Nat):Prop:=k=b∨k=m∨lv.ownBlock=some k
def Bl(w:World)(b:Nat)(D:Dsk)(fp:Nat→Prop):Prop:=∃ m lv,Em w b m lv D∧fp=PT b m lv
theorem Em.upd{F:Nat→Prop}{w w':World}{b m:Nat}{lv:Value}{D:Dsk}(h:Em w b m lv D)(hu:A7 F w w')(hF:∀ k,PT b m lv k→¬ F k):Em w' b m lv D:=
 ⟨by rw[hu.block b (CR.1 h.struct).1 (hF b (.inl rfl))];exact h.struct,h.base.kept (hu.block m h.base.lt (hF m (.inr (.inl rfl)))),Bh h.loose hu (fun g hg=>hF g (.inr (.inr hg))),h.mb,h.lb,h.lm,h.fine⟩
theorem Bl.upd{F:Nat→Prop}{w w':World}{b:Nat}{D:Dsk}{fp:Nat→Prop}(h:Bl w b D fp)(hu:A7 F w w')(hF:∀ k,fp k→¬ F k):Bl w' b D fp:=by
 obtain⟨m,lv,h1,rfl⟩:=h;exact⟨m,lv,h1.upd hu hF,rfl⟩
theorem Bl.below{w w':World}{b:Nat}{D:Dsk}{fp:Nat→Prop}(h:Bl w b D fp)(hu:Bw w w'):Bl w' b D fp:=h.upd (ub hu) (fun _ _ f=>f)
theorem Bl.lt{w:World}{b:Nat}{D:Dsk}{fp:Nat→Prop}(h:Bl w b D fp):∀ k,fp k→k < w.heap.size:=by
 obtain⟨m,lv,h1,rfl⟩:=h;rintro k (rfl|rfl|hk)
 ·exact(CR.1 h1.struct).1
 ·exact h1.base.lt
 ·exact ZB h1.loose hk
theorem Bl.fine{w:World}{b:Nat}{D:Dsk}{fp:Nat→Prop}(h:Bl w b D fp):D.BM:=by obtain⟨m,lv,h1,_⟩:=h;exact h1.fine
end
end Go.Proofs.YtmbbhdebddbhoaaGreat
