/- WalPlain Heap Blk Reads Build DiskRep -/
import Derived.Test.YtmbbhdebddbhoaaGreatQ0
import Derived.Maps.OwnSet
import Derived.SliceStrings
import Derived.ProofKit
import Derived.SizedLaws
import Derived.Deep.MidRow
set_option linter.all false
namespace Go.Proofs.YtmbbhdebddbhoaaGreat
open Tryz
namespace Wal
open Crc (le val Du)
def pad(s:List UInt8):List UInt8:=s++List.replicate ((s.length+63) / 64*64 -s.length) 0
theorem Md(s:List UInt8):(pad s).length=(s.length+63) / 64*64:=by simp[pad];omega
theorem sU(s:List UInt8):(pad s).length % 64=0:=by rw[Md];omega
def CO(s:List UInt8):Option (List UInt8):=if s.length≤65535 then some (le 2 s.length++s) else none
def textsE:List (List UInt8)→Option (List UInt8)
 |[]=>some []
 |s :: l=>(CO s).bind fun a=>(textsE l).map (a++ ·)
def Er(l:List (List UInt8)):Option (List UInt8):=if l.length≤65535 then(textsE l).map (le 2 l.length++ ·) else none
def EU(l:List (List UInt8)):Option (List UInt8):=(Er l).map fun s=>pad (le 4 s.length++s)
theorem sV(a b:List (List UInt8)):textsE (a++b)=(textsE a).bind fun x=>(textsE b).map (x++ ·):=by
 induction a with
 |nil=>cases h:textsE b<;>simp[textsE,h]
 |cons s a ih=>
  simp only[FL,textsE,ih];cases CO s with
  |none=>rfl
  |some x=>
   cases textsE a with
   |none=>rfl
   |some y=>
    cases textsE b with
    |none=>rfl
    |some z=>simp
def Fu(s:List UInt8):Option (List UInt8×Nat):=
 if s.length < 2 then none else if 2+val (s.take 2)≤s.length then some ((s.take (2+val (s.take 2))).drop 2,2+val (s.take 2)) else none
def readTs:Nat→List UInt8→Option (List (List UInt8)×List UInt8)
 |0,s=>some ([],s)
 |k+1,s=>(Fu s).bind fun p=>(readTs k (s.drop p.2)).map fun q=>(p.1 :: q.1,q.2)
def C9(s:List UInt8):Option (List (List UInt8)):=
 if s.length < 2 then none else(readTs (val (s.take 2)) (s.drop 2)).bind fun q=>if q.2=[] then some q.1 else none
theorem RN{s t:List UInt8}{n:Nat}(h:Fu s=some (t,n)):CO t=some (s.take n)∧n≤s.length∧2≤n:=by
 unfold Fu at h;split at h
 ·cases h
 ·split at h
  ·rename_i h1 h2
   simp only[Bt,Jc] at h;obtain⟨rfl,rfl⟩:=h;have hv:val (s.take 2) < 256 ^ 2:=by
    have:=Crc.Gg (s.take 2);rwa[Aw,FM (by omega)] at this
   have hl:((s.take (2+val (s.take 2))).drop 2).length=val (s.take 2):=(by rw[BA,Aw];omega);refine⟨?_,h2,by omega⟩;unfold CO;rw[hl,Ac (by omega)];have e:le 2 (val (s.take 2))=s.take 2:=by
    have:=Crc.VY (s.take 2);rwa[Aw,FM (by omega)] at this
   rw[e]
   congr 1
   generalize val (s.take 2)=v at*;have h3:s.take 2=(s.take (2+v)).take 2:=(by rw[List.take_take,FM (by omega)]);rw[h3,Ja]
  ·cases h
theorem fQ{k:Nat}{s r:List UInt8}{l:List (List UInt8)}(h:readTs k s=some (l,r)):l.length=k∧∃ a,textsE l=some a∧a++r=s:=by
 induction k generalizing s l r with
 |zero=>
  simp only[readTs,Bt,Jc] at h;obtain⟨rfl,rfl⟩:=h;exact⟨rfl,[],rfl,rfl⟩
 |succ k ih=>
  simp only[readTs] at h;cases h1:Fu s with
  |none=>rw[h1] at h;cases h
  |some p=>
   rw[h1] at h;simp only[BI] at h;cases h2:readTs k (s.drop p.2) with
   |none=>rw[h2] at h;cases h
   |some q=>
    rw[h2] at h;simp only[Dm,Bt,Jc] at h;obtain⟨rfl,rfl⟩:=h;obtain⟨e1,_,_⟩:=RN (t:=p.1) (n:=p.2) h1;obtain⟨e2,a,e3,e4⟩:=ih (l:=q.1) (r:=q.2) h2;refine⟨by simp[e2],s.take p.2++a,by simp[textsE,e1,e3],?_⟩;rw[Cw,e4,Ja]
theorem Wj{s:List UInt8}{l:List (List UInt8)}(h:C9 s=some l):Er l=some s:=by
 unfold C9 at h;split at h
 ·cases h
 ·rename_i h0
  cases h1:readTs (val (s.take 2)) (s.drop 2) with
  |none=>rw[h1] at h;cases h
  |some q=>
   rw[h1] at h;simp only[BI] at h;split at h
   ·rename_i hq
    simp only[Bt] at h;subst h;obtain⟨e1,a,e2,e3⟩:=fQ (l:=q.1) (r:=q.2) h1;have hv:val (s.take 2) < 256 ^ 2:=by
     have:=Crc.Gg (s.take 2);rwa[Aw,FM (by omega)] at this
    unfold Er;rw[e1,Ac (by omega),e2];simp only[Dm];have e:le 2 (val (s.take 2))=s.take 2:=by
     have:=Crc.VY (s.take 2);rwa[Aw,FM (by omega)] at this
    rw[e,←E8 a,←hq,e3,Ja]
   ·cases h
def GQ(s:List UInt8):Option (List (List UInt8)×Nat):=
 if s.length < 64 then none else if val (s.take 4)≤s.length -4 then
  (C9 ((s.take (4+val (s.take 4))).drop 4)).bind fun l=>
   if pad (s.take (4+val (s.take 4)))=s.take (pad (s.take (4+val (s.take 4)))).length then some (l,(pad (s.take (4+val (s.take 4)))).length) else none
 else none
def mark(gen used:Nat):List UInt8:=pad (Du ([76,79,71,49]++le 8 gen++le 4 used))
theorem Je(gen used:Nat):(mark gen used).length=64:=by
 unfold mark;rw[Md,Crc.Mc];simp[Crc.Be]
def FO:Nat→List UInt8→Option (List (List (List UInt8)))
 |0,s=>if s=[] then some [] else none
 |k+1,s=>if s=[] then some [] else(GQ s).bind fun p=>(FO k (s.drop p.2)).map (p.1 :: ·)
theorem afA{s:List UInt8}{l:List (List UInt8)}{k:Nat}(h:GQ s=some (l,k)):64≤k∧k % 64=0∧k≤s.length:=by
 unfold GQ at h;split at h
 ·cases h
 ·split at h
  ·cases h1:C9 ((s.take (4+val (s.take 4))).drop 4) with
   |none=>rw[h1] at h;cases h
   |some q=>
    rw[h1] at h;simp only[BI] at h;split at h
    ·rename_i h0 h2 h3
     simp only[Bt,Jc] at h;obtain⟨_,rfl⟩:=h;have hl:=congrArg List.length h3;rw[Aw] at hl;have hp:=Md (s.take (4+val (s.take 4)));rw[Aw] at hp;refine⟨by rw[hp];omega,sU _,by omega⟩
    ·cases h
  ·cases h
theorem afB{f:Nat}{s S:List UInt8}{u:Nat}{l:List (List (List UInt8))}{t:List (List UInt8)}{k:Nat}(hS:S≠[])(h:FO u s=(FO (f+1) S).map (l++ ·))(hn:GQ S=some (t,k)):
  FO u s=(FO f (S.drop k)).map ((l++[t])++ ·):=by
 rw[h];simp only[FO,Aa hS,hn,BI,Option.map_map]
 congr 1
 funext q
 simp
theorem afC{f:Nat}{s S:List UInt8}{u:Nat}{l:List (List (List UInt8))}(hS:S≠[])(h:FO u s=(FO (f+1) S).map (l++ ·))(hn:GQ S=none):FO u s=none:=by
 rw[h];simp[FO,hS,hn]
theorem sW(f:Nat):FO f []=some []:=by cases f<;>rfl
def FV(s:List UInt8)(n:Nat):Option (Nat×Nat×List (List (List UInt8))):=
 if s.take 64=pad [0] then some (0,0,[]) else
  if s.take 64=mark (val (((s.take 64).take 12).drop 4)) (val (((s.take 64).take 16).drop 12))∧val (((s.take 64).take 16).drop 12)≤n -1 then
   (FO (val (((s.take 64).take 16).drop 12)) ((s.drop 64).take (64*val (((s.take 64).take 16).drop 12)))).map fun l=>(val (((s.take 64).take 12).drop 4),val (((s.take 64).take 16).drop 12),l)
  else none
end Wal
section
open Go.RowKit Go.Maps
structure A7(F:Nat→Prop)(w w':World):Prop where
 os:w'.os=w.os
 tape:w'.tape=w.tape
 output:w'.output=w.output
 size:w.heap.size≤w'.heap.size
 block:∀ k,k < w.heap.size→¬ F k→w'.heap[k]?=w.heap[k]?
theorem A7.refl(F:Nat→Prop)(w:World):A7 F w w:=⟨rfl,rfl,rfl,Ab _,fun _ _ _=>rfl⟩
theorem A7.of_below{F:Nat→Prop}{w w':World}(h:Bw w w'):A7 F w w':=⟨h.os,h.tape,h.output,h.size,fun k hk _=>h.block k hk⟩
theorem ub{w w':World}(h:Bw w w'):A7 (fun _=>False) w w':=A7.of_below h
theorem A7.trans{F G:Nat→Prop}{a b c:World}(h:A7 F a b)(k:A7 G b c)(hG:∀ i,G i→F i∨a.heap.size≤i):A7 F a c:=
 ⟨k.os.trans h.os,k.tape.trans h.tape,k.output.trans h.output,Ah h.size k.size,fun i hi hF=>(k.block i (Di hi h.size) (fun g=>by rcases hG i g with f|f;exact hF f;omega)).trans (h.block i hi hF)⟩
theorem A7.mono{F G:Nat→Prop}{a b:World}(h:A7 F a b)(hG:∀ i,F i→G i):A7 G a b:=⟨h.os,h.tape,h.output,h.size,fun i hi hn=>h.block i hi (fun f=>hn (hG i f))⟩
theorem A7.of_grownBy{F:Nat→Prop}{w w':World}{row:Option Nat}(hg:w.grownBy w' row)(hr:∀ k,row=some k→F k):A7 F w w':=
 ⟨hg.os,hg.tape,hg.output,hg.size,fun k hk hF=>hg.block k hk (fun e=>hF (hr k e.symm))⟩
theorem A7.alloc{F:Nat→Prop}{a w:World}(h:A7 F a w)(o:Obj):A7 F a (w.alloc o):=
 h.trans (G:=fun _=>False) (A7.of_below ((Ad _ w).alloc (Ab _) o)) (fun _ f=>f.elim)
theorem A7.drew{F:Nat→Prop}{a w:World}(h:A7 F a w):A7 F a w.drew:=⟨h.os,h.tape,h.output,h.size,h.block⟩
theorem A7.setCell{F:Nat→Prop}{a w:World}(h:A7 F a w){p:Addr}(hp:F p.block∨a.heap.size≤p.block)(v:Value):A7 F a (w.setCell p v):=
 h.trans (G:=fun k=>k=p.block) ⟨rfl,rfl,rfl,by simp[World.setCell],fun k _ hk=>Below.heap_setCell _ _ _ _ hk⟩ (fun i e=>by rw[e];exact hp)
theorem Bu{B:Nat}{F:Nat→Prop}{a w w':World}(h:Below B a w)(k:A7 F w w')(hF:∀ i,F i→B≤i)(hB:B≤w.heap.size):Below B a w':=
 h.trans ⟨k.os,k.tape,k.output,k.size,fun i hi=>k.block i (by omega) (fun f=>by have:=hF i f;omega)⟩
theorem A7.cell{F:Nat→Prop}{w w':World}(h:A7 F w w'){p:Addr}(hp:p.block < w.heap.size)(hF:¬ F p.block):w'.cell? p=w.cell? p:=World.cell?_of_block (h.block p.block hp hF)
def Fv(kv:List (Int×Value))(i:Int):Option Value:=(kv.find? (fun p=>p.1 == i)).map (·.2)
def Lg(i:Int)(kv:List (Int×Value)):List (Int×Value):=kv.filter (fun p=>!(p.1 == i))
def O4(i:Int)(v:Value)(kv:List (Int×Value)):List (Int×Value):=(i,v) :: Lg i kv
theorem afD{i j:Int}(h:j≠i)(kv:List (Int×Value)):Fv (Lg i kv) j=Fv kv j:=by
 unfold Fv Lg;rw[find_filter_keep];intro p hp;simp at hp ⊢;omega
theorem sZ(i:Int)(v:Value)(kv:List (Int×Value)):Fv (O4 i v kv) i=some v:=by simp[Fv,O4]
theorem tq{i j:Int}(h:j≠i)(v:Value)(kv:List (Int×Value)):Fv (O4 i v kv) j=Fv kv j:=by
 have h2:¬ i=j:=fun e=>h e.symm
 rw[←afD h kv];simp[Fv,O4,h2]
theorem afE{i:Int}{kv:List (Int×Value)}(hn:(kv.map (·.1)).Nodup):(Lg i kv).length+(if(Fv kv i).isSome then 1 else 0)=kv.length:=by
 induction kv with
 |nil=>simp[Lg,Fv]
 |cons p kv ih=>
  simp only[Bg,Hu] at hn;have ih':=ih hn.2;by_cases h:p.1=i
  ·have h0:Fv kv i=none:=by
    unfold Fv;rw[Option.map_eq_none_iff,List.find?_eq_none];intro q hq;simp;intro e;exact hn.1 (by rw[h,←e];exact ES hq)
   rw[h0] at ih';have e1:Lg i (p :: kv)=Lg i kv:=(by simp[Lg,h]);have e2:Fv (p :: kv) i=some p.2:=(by simp[Fv,h]);rw[e1,e2];simpa using ih'
  ·have e1:Lg i (p :: kv)=p :: Lg i kv:=(by simp[Lg,h]);have e2:Fv (p :: kv) i=Fv kv i:=(by simp[Fv,h]);rw[e1,e2];simp only[AX];omega
theorem afF{i:Int}{kv:List (Int×Value)}(hn:(kv.map (·.1)).Nodup):((Lg i kv).map (·.1)).Nodup:=by
 unfold Lg;exact hn.sublist (List.Sublist.map _ List.filter_sublist)
theorem afG{i:Int}{v:Value}{kv:List (Int×Value)}(hn:(kv.map (·.1)).Nodup):((O4 i v kv).map (·.1)).Nodup:=by
 simp only[O4,Bg,Hu];refine⟨?_,afF hn⟩;intro h;obtain⟨p,hp,e⟩:=AV.1 h;have:=(CU.1 hp).2;simp[e] at this
theorem afH{kv:List (Int×Value)}{i:Int}{v:Value}(h:Fv kv i=some v):(i,v)∈kv:=by
 unfold Fv at h;obtain⟨p,hp,rfl⟩:=Pb.1 h;have h1:=List.find?_some hp;simp at h1;subst h1;exact List.mem_of_find?_eq_some hp
def Me(v:Value):Option (DataW Value×List MemPlace):=some (.held v,[])
def Ko(P:Program)(K:TypeId)(w:World)(m:Nat)(kv:List (Int×Value)):Prop:=
 (kv.map (·.1)).Nodup∧∃ D:DataW Value,w.ownsMap P K Me m kv.length D∧Tidy D∧size D=kv.length∧∀ i z,D.atKey (.int .i64 i) z=(match Fv kv i with|some v=>.held v|none=>z)
section
variable {P:Program}{K T E:TypeId}{w:World}{m:Nat}{kv:List (Int×Value)}
theorem Ko.lt(h:Ko P K w m kv):m < w.heap.size:=h.2.choose_spec.1.lt
theorem Ko.made(w:World):Ko P K (w.alloc (.map #[] 0)) w.heap.size []:=
 ⟨by simp,.map [],World.ownsMap_made w P K Me,tidy_empty,rfl,fun i z=>rfl⟩
theorem Ko.kept{w':World}(h:Ko P K w m kv)(e:w'.heap[m]?=w.heap[m]?):Ko P K w' m kv:=by
 obtain⟨hn,D,⟨es,clock,hb,F,hs,hD⟩,rest⟩:=h;exact⟨hn,D,⟨es,clock,e.trans hb,F,hs,hD⟩,rest⟩
theorem Wl{D:DataW Value}{kl:Lit}{o:Option Value}(h:∀ z,D.atKey kl z=(match o with|some v=>.held v|none=>z)):has D kl=o.isSome:=by
 cases o with
 |none=>exact has_false_of_atKey (fun z=>h z)
 |some v=>exact has_true_of_atKey (fun z=>h z)
theorem Ko.lookup(h:Ko P K w m kv)(hk:P.underlying K=some (.int .i64))(ht:P.underlying T=some (.map K E)){z:Value}(hz:(zeroValue E).run P w=.ok z w)(i:Int)(hw:(Lit.int .i64 i).wf=true):
  (Instr.lookup T (.map (some m)) (.int .i64 i) false).run P w=.ok ((Fv kv i).getD z) w:=by
 obtain⟨_,D,hown,_,_,hat⟩:=h;obtain⟨v,ps,hrun,hv⟩:=hown.lookup (int_keyed hk) ht hz (zd:=.held z) (zp:=[]) rfl (keyOf_int_mk hk hw);have e:=hat i (.held z);simp only[Me,Bt,Jc] at hv;rw[e] at hv;rw[hrun];cases hg:Fv kv i with
 |none=>rw[hg] at hv;simp at hv ⊢;exact hv.1
 |some u=>rw[hg] at hv;simp at hv ⊢;exact hv.1
theorem Ko.update(h:Ko P K w m kv)(hk:P.underlying K=some (.int .i64))(ht:P.underlying T=some (.map K E))(i:Int)(hw:(Lit.int .i64 i).wf=true)(v:Value)(au4:kv.length < maxLen):
  ∃ w',(Instr.mapUpdate T (.map (some m)) (.int .i64 i) v).run P w=.ok () w'∧Ko P K w' m (O4 i v kv)∧w.grownBy w' (some m):=by
 obtain⟨hn,D,hown,ht1,hsz,hat⟩:=h;obtain⟨w',hrun,asJ,hg⟩:=hown.update (int_keyed hk) ht au4 (key:=.int .i64 i) (val:=v) (keyOf_int_mk hk hw) (d:=.held v) (ps:=[]) rfl;have aug:size (D.put (.int .i64 i) (.held v))=(O4 i v kv).length:=by
  rw[size_put ht1,Wl (hat i),hsz];have:=afE (i:=i) hn;simp only[O4,AX];cases hgi:(Fv kv i).isSome<;>simp[hgi] at this ⊢ <;>omega
 refine⟨w',hrun,⟨afG hn,_,?_,ht1.put (show WideAt.IsKeyLit (.int .i64 i) from trivial) _,aug,fun j z=>?_⟩,hg⟩
 ·obtain⟨es,clock,hb,F,_,hD⟩:=asJ;refine⟨es,clock,hb,F,?_,hD⟩;rw[←aug,hD,size_eq,length_sorted];simp
 ·by_cases e:j=i
  ·subst e;rw[atKey_put_same ht1.isMap (show WideAt.IsKeyLit (.int .i64 j) from trivial),sZ]
  ·rw[atKey_put_other (fun e'=>e (by cases e';rfl)),tq e];exact hat j z
end
end
section
open Go.RowKit Go.Maps
theorem Ae{w:World}{k:Nat}{o:Obj}(h:w.heap[k]?=some o):k < w.heap.size:=(BZ.1 h).1
def Ap(w:World)(k:Nat)(t:TypeId):Prop:=∃ cs fr,w.heap[k]?=some (.cells cs t fr)
theorem Ap.lt{w:World}{k:Nat}{t:TypeId}(h:Ap w k t):k < w.heap.size:=by
 obtain⟨cs,fr,h⟩:=h;exact Ae h
theorem Ap.upd{F:Nat→Prop}{w w':World}{k:Nat}{t:TypeId}(h:Ap w k t)(hu:A7 F w w')(hF:¬ F k):Ap w' k t:=by
 have hl:=h.lt;obtain⟨cs,fr,h⟩:=h;exact⟨cs,fr,(hu.block k hl hF).trans h⟩
theorem Ap.ne{w:World}{k k':Nat}{t t':TypeId}(h:Ap w k t)(h':Ap w k' t')(ht:t≠t'):k≠k':=by
 rintro rfl;obtain⟨cs,fr,h⟩:=h;obtain⟨cs',fr',h'⟩:=h';rw[h] at h';injection h' with h'
 injection h' with _ h' _
 exact ht h'
theorem RO{w:World}{base e s:Nat}{v:Value}{n:Nat}{xs:List Value}(h:w.ownsRow base e s v n xs){g:Nat}(hg:v.ownBlock=some g):g < w.heap.size:=by
 rcases h.2 with⟨rfl,_⟩|⟨g',cap,cur,rfl,_,hgg,_⟩
 ·simp[Value.ownBlock] at hg
 ·simp[Value.ownBlock] at hg;subst hg;exact(BZ.1 hgg).1
theorem Bi{w:World}{base e s:Nat}{v:Value}{n:Nat}{xs:List Value}(h:w.ownsRow base e s v n xs){g:Nat}(hg:v.ownBlock=some g):Ap w g e:=by
 rcases h.2 with⟨rfl,_⟩|⟨g',cap,cur,rfl,_,hgg,_⟩
 ·simp[Value.ownBlock] at hg
 ·simp[Value.ownBlock] at hg;subst hg;exact⟨_,_,hgg⟩
def Cg(fp fp':Nat→Prop)(w:World):Prop:=∀ k,fp' k→fp k∨w.heap.size≤k
theorem AL{F:Nat→Prop}{w w':World}{base e s:Nat}{v:Value}{n:Nat}{xs:List Value}(h:w.ownsRow base e s v n xs)(hu:A7 F w w')(hF:∀ g,v.ownBlock=some g→¬ F g):w'.ownsRow base e s v n xs:=by
 obtain⟨h1,h2⟩:=h;refine⟨h1,?_⟩;rcases h2 with h2|⟨g,cap,cur,rfl,hg,hgg,rest⟩
 ·exact .inl h2
 ·exact .inr ⟨g,cap,cur,rfl,hg,by rw[hu.block g (BZ.1 hgg).1 (hF g rfl)];exact hgg,rest⟩
theorem add_plain(g i:Nat):(⟨g,0,none⟩:Addr).add i=⟨g,i,none⟩:=by unfold Addr.add;split<;>simp_all
theorem Qr(g o j:Nat):(⟨g,o,none⟩:Addr).add j=⟨g,o+j,none⟩:=by unfold Addr.add;split<;>simp_all
theorem add_zero'(q:Addr):q.add 0=q:=by unfold Addr.add;simp
theorem add_block(q:Addr)(i:Nat):(q.add i).block=q.block:=by unfold Addr.add;split<;>rfl
end
section
open Go.RowKit Go.WideShapes Go.ChangeShapes
theorem Fw(P:Program)(T E:TypeId)(hu:P.underlying T=some (.slice E))(s:Nat)(hs:(P.info? E).map (·.size)=some s)(p:Addr)(n cap k:Nat)(hk:k < n)(W:World):
  (Instr.indexAt T (.slice (some p) n cap) (.int .i64 (k:Int))).run P W=.ok (.pointer (some (p.add (k*s)))) W:=by
 cases hq:P.info? E with
 |none=>simp[hq] at hs
 |some i=>
  have h1:i.size=s:=by simpa[hq] using hs
  simp[Instr.indexAt,ER hu,asIntOf,sizeOf,typeInfo,hq,h1,hk]
def BytesAt(w:World)(b:Nat)(l:List UInt8):Prop:=
 ∃ C e fr,w.heap[b]?=some (.cells C e fr)∧(∀ i,(h:i < l.length)→C[i]?=some (.int .u8 (l[i].toNat:Int)))∧(l.length≤fr.1∨fr=(0,0))
theorem BytesAt.cell{w:World}{b:Nat}{l:List UInt8}(h:BytesAt w b l)(i:Nat)(hi:i < l.length):w.cell? ⟨b,i,none⟩=some (.int .u8 (l[i].toNat:Int)):=by
 obtain⟨C,e,fr,hb,hc,_⟩:=h;rw[AY w b i C e fr hb];exact hc i hi
theorem BytesAt.free{w:World}{b:Nat}{l:List UInt8}(h:BytesAt w b l)(i:Nat)(hi:i < l.length):w.frozen? ⟨b,i,none⟩=false:=by
 obtain⟨C,e,⟨f1,f2⟩,hb,_,hf⟩:=h;simp only[Jc] at hf;simp[World.frozen?,hb];omega
theorem BytesAt.set{w:World}{b:Nat}{l:List UInt8}(h:BytesAt w b l)(i:Nat)(x:UInt8):BytesAt (w.setCell ⟨b,i,none⟩ (.int .u8 (x.toNat:Int))) b (l.set i x):=by
 obtain⟨C,e,fr,hb,hc,hf⟩:=h;refine⟨C.setIfInBounds i (.int .u8 (x.toNat:Int)),e,fr,?_,fun j hj=>?_,by simpa using hf⟩
 ·rw[setCell_eq_setRow w b i C e fr _ hb];exact setRow_heap w b C _ e fr hb
 ·simp only[List.length_set] at hj;rw[Array.getElem?_setIfInBounds];have hcs:j < C.size:=by
   have:=hc j hj;exact(BZ.1 this).1
  by_cases e1:i=j
  ·subst e1;simp[hcs]
  ·rw[Aa e1,hc j hj,List.getElem_set_ne e1]
theorem BytesAt.lt{w:World}{b:Nat}{l:List UInt8}(h:BytesAt w b l):b < w.heap.size:=by
 obtain⟨C,e,fr,hb,_⟩:=h;exact(BZ.1 hb).1
theorem BytesAt.below{w w':World}{b:Nat}{l:List UInt8}(h:BytesAt w b l)(hb:Bw w w'):BytesAt w' b l:=by
 have hlt:=h.lt;obtain⟨C,e,fr,h1,h2⟩:=h;exact⟨C,e,fr,by rw[hb.block b hlt];exact h1,h2⟩
theorem afI(w:World)(l:List UInt8)(e:TypeId):BytesAt (w.drew.alloc (.cells (bytesRow (bs l) (grownCap w l.length 0 e)) e ((bytesRow (bs l) (grownCap w l.length 0 e)).size,(bytesRow (bs l) (grownCap w l.length 0 e)).size+1))) w.heap.size l:=by
 refine⟨_,_,_,heap_alloc_last w.drew _,fun i hi=>?_,?_⟩
 ·exact bytesRow_at (bs l) _ i (by simpa using hi)
 ·left;simp[bytesRow]
@[irreducible] def Bn (k:List UInt8):List Value:=(Cf k).toList
theorem IP(k:List UInt8):(Bn k).length=k.length:=by unfold Bn;simp
theorem Ug(k:List UInt8):(Bn k).toArray=Cf k:=by unfold Bn;simp
theorem fT(k:List UInt8):(Cf k).toList=Bn k:=by unfold Bn;rfl
theorem Wm(k:List UInt8)(i:Nat)(h:i < k.length):(Bn k)[i]?=some (.int .u8 (k[i].toNat:Int)):=by
 unfold Bn;rw[CB,Ue k i h]
theorem Wn(k:List UInt8):∀ u∈Bn k,u.oneCell'=true:=by
 unfold Bn;intro u hu;exact(Array.all_eq_true_iff_forall_mem.1 (fI k)) u (by simpa using hu)
theorem Wo(x:UInt8)(k:List UInt8):Bn (x :: k)=.int .u8 (x.toNat:Int) :: Bn k:=by unfold Bn Cf;simp
theorem Uh:Bn []=[]:=by unfold Bn Cf;simp
theorem RP(a b:List UInt8):Bn (a++b)=Bn a++Bn b:=by unfold Bn Cf;simp
theorem BytesAt.tu{b:Nat}(x:List UInt8):∀ {w:World} {q:List UInt8} (o:Nat),BytesAt w b q→o+x.length≤q.length→BytesAt (w.setCells b o (Bn x)) b (q.take o++x++q.drop (o+x.length)):=by
 induction x with
 |nil=>
  intro w q o h _;rw[Uh];simpa[World.setCells] using h
 |cons a x ih=>
  intro w q o h hl;simp only[AX] at hl;have h1:=ih (o+1) (h.set o a) (by rw[List.length_set];omega);rw[Wo];simp only[World.setCells];have e:(q.set o a).take (o+1)++x++(q.set o a).drop (o+1+x.length)=q.take o++a :: x++q.drop (o+(a :: x).length):=by
   have e1:(q.set o a).take (o+1)=q.take o++[a]:=by
    rw[BS (by rw[List.length_set];omega),List.getElem_set_self,List.take_set_of_le (Ab _)]
   have e2:(q.set o a).drop (o+1+x.length)=q.drop (o+(a :: x).length):=by
    rw[List.drop_set_of_lt (by omega),AX,show o+1+x.length=o+(x.length+1) by omega]
   rw[e1,e2];simp
  rw[←e];exact h1
theorem BytesAt.range{w:World}{b:Nat}{q:List UInt8}(h:BytesAt w b q)(o n:Nat)(hl:o+n≤q.length):w.rangeAt b o (Bn ((q.drop o).take n)):=by
 intro j v hv;have hj:=(Ql.1 hv).1;rw[IP] at hj;rw[Wm _ j hj] at hv;have hj2:j < n:=by rw[Aw] at hj;omega
 rw[h.cell (o+j) (by omega),←hv];simp[List.getElem_take,List.getElem_drop]
theorem BytesAt.there{w:World}{b:Nat}{q:List UInt8}(h:BytesAt w b q)(o n:Nat)(hl:o+n≤q.length):w.there b o n:=fun j hj=>⟨by rw[h.cell (o+j) (by omega)];rfl,h.free (o+j) (by omega)⟩
theorem tC(w:World)(c:Array Value)(T:TypeId)(q:List UInt8)(hc:∀ i,(h:i < q.length)→c[i]?=some (.int .u8 (q[i].toNat:Int))):BytesAt (w.alloc (.cells c T)) w.heap.size q:=
 ⟨c,T,(0,0),heap_alloc_last w _,hc,.inr rfl⟩
theorem BytesAt.store{w:World}{b:Nat}{q:List UInt8}(h:BytesAt w b q)(P:Program)(o:Nat)(x:List UInt8)(hl:o+x.length≤q.length):
  (storeCells ⟨b,o,none⟩ (Cf x).toList).run P w=.ok () (w.setCells b o (Bn x)):=by
 have ht:=h.there o x.length hl;have:=run_storeCells_cells (P:=P) b o (Bn x) 0 w (fun j hj=>by rw[IP] at hj;simpa using(ht j hj).1) (fun j hj=>by rw[IP] at hj;simpa using(ht j hj).2) (Wn x);rw[fT];simpa using this
theorem fU(b:Nat):∀ (vs:List Value) (o:Nat) (w:World),(w.setCells b o vs).heap.size=w.heap.size∧(w.setCells b o vs).os=w.os∧(w.setCells b o vs).tape=w.tape∧(w.setCells b o vs).output=w.output∧∀ k,k≠b→(w.setCells b o vs).heap[k]?=w.heap[k]?
 |[],_,_=>⟨rfl,rfl,rfl,rfl,fun _ _=>rfl⟩
 |v :: r,o,w=>by
  obtain⟨h1,h2,h3,h4,h5⟩:=fU b r (o+1) (w.setCell ⟨b,o,none⟩ v);exact⟨h1.trans (by simp[World.setCell]),h2,h3,h4,fun k hk=>(h5 k hk).trans (Below.heap_setCell _ _ _ _ hk)⟩
theorem below_setCells{B:Nat}{a w:World}(h:Below B a w){b:Nat}(hb:B≤b)(o:Nat)(vs:List Value):Below B a (w.setCells b o vs):=by
 obtain⟨h1,h2,h3,h4,h5⟩:=fU b vs o w;exact h.trans ⟨h2,h3,h4,by omega,fun k hk=>h5 k (by omega)⟩
theorem afJ(P:Program)(src dst e:TypeId)(hs:P.underlying src=some .string)(hd:P.underlying dst=some (.slice e))(he:P.underlying e=some (.int .u8))(w:World)(x:List UInt8):
  ∃ (w1:World) (cap:Nat),(convert src dst (.string (bs x))).run P w=.ok (.slice (some ⟨w.heap.size,0,none⟩) x.length cap) w1∧BytesAt w1 w.heap.size x∧Bw w w1∧w1.heap.size=w.heap.size+1:=by
 have h:=run_bytes_of_string (P:=P) w src dst e (bs x) hs hd he;exact⟨_,_,h,afI w x e,(Ad _ _).drew.alloc (Ab _) _,by simp⟩
theorem run_arrayAt(P:Program)(W:World)(T E:TypeId)(N:Nat)(a:Option Addr)(n c:Nat)(hu:P.underlying T=some (.array N E))(hn:N≤n):(Instr.arrayAt T (.slice a n c)).run P W=.ok (.pointer a) W:=by
 simp[Instr.arrayAt,ER hu,show ¬ n < N by omega]
end
section
theorem tF(off:Nat):∀ (l:List Value) (k:Nat) (cs:Array Value) (i:Nat),off+k+l.length≤cs.size→
  ((l.zipIdx k).foldl (fun cs (p:Value×Nat)=>cs.setIfInBounds (off+p.2) p.1) cs)[i]?=if off+k≤i∧i < off+k+l.length then l[i -(off+k)]? else cs[i]?
 |[],k,cs,i,_=>by simp;intro h1 h2;omega
 |v :: l,k,cs,i,h=>by
  simp only[AX] at h;rw[List.zipIdx_cons,List.foldl_cons,tF off l (k+1) _ i (by simp;omega)];simp only[AX];by_cases h1:off+(k+1)≤i∧i < off+(k+1)+l.length
  ·rw[Ac h1,Ac (by omega),show i -(off+k)=(i -(off+(k+1)))+1 by omega,List.getElem?_cons_succ]
  ·rw[Aa h1,Array.getElem?_setIfInBounds];by_cases h2:off+k=i
   ·rw[Ac h2,Ac (by omega),Ac (by omega),show i -(off+k)=0 by omega];rfl
   ·rw[Aa h2,Aa (by omega)]
theorem tH(off n:Nat)(v cs:Array Value)(hv:v.size=n)(hl:off+n=cs.size):
  Array.foldl (fun cs (x:Value×Nat)=>cs.setIfInBounds (off+x.snd) x.fst) cs v.zipIdx 0 n=(cs.toList.take off++v.toList).toArray:=by
 have e0:Array.foldl (fun cs (x:Value×Nat)=>cs.setIfInBounds (off+x.snd) x.fst) cs v.zipIdx 0 n=(v.toList.zipIdx 0).foldl (fun cs (p:Value×Nat)=>cs.setIfInBounds (off+p.2) p.1) cs:=by
  have hz:v.zipIdx.size=n:=by simp[hv]
  rw[←Array.toList_zipIdx,Array.foldl_toList,hz]
 rw[e0];apply Array.ext_getElem?;intro j;rw[tF off v.toList 0 cs j (by simp;omega)];have eR:∀ X:List Value,X.toArray[j]?=X[j]? :=fun X=>List.getElem?_toArray
 have eC:cs[j]?=cs.toList[j]? :=Array.getElem?_toList.symm;rw[eC,eR (cs.toList.take off++v.toList)];simp only[Nat.add_zero,Array.length_toList];by_cases a1:j < off
 ·rw[Aa (by omega),List.getElem?_append_left (by simp;omega),List.getElem?_take,Ac a1]
 ·rw[List.getElem?_append_right (by simp;omega)];simp only[Aw,Array.length_toList,FM (show off≤cs.size by omega)];by_cases a2:j < off+v.size
  ·rw[Ac (by omega)]
  ·rw[Aa (by omega),List.getElem?_eq_none (by simp;omega),List.getElem?_eq_none (by simp;omega)]
theorem afK(n:Nat)(v cs:Array Value)(hv:v.size=n)(hl:cs.size=n):
  Array.foldl (fun cs (x:Value×Nat)=>cs.setIfInBounds x.snd x.fst) cs v.zipIdx 0 n=v:=by
 have h:=tH 0 n v cs hv (by omega);simp only[Fs] at h;rw[h];simp
end
section
open Go.RowKit Go.Maps
theorem tJ:(prog.info? 193).map (fun i=>(i.zero,i.size))=some (some (.agg (Cf IM)),64):=by kernel_rfl
theorem afL(w:World):(zeroValue 193).run prog w=.ok (.agg (Cf IM)) w:=(zero_of_info tJ).1 w
theorem fV:(prog.info? 193).map (·.size)=some 64:=(zero_of_info tJ).2
@[irreducible] def Jf (l:List (Nat×List UInt8)):List Value:=l.flatMap fun p=>Value.int .i64 (p.1:Int) :: Bn p.2
theorem afM(l:List (Nat×List UInt8))(p:Nat×List UInt8):Jf (l++[p])=Jf l++(Value.int .i64 (p.1:Int) :: Bn p.2):=by
 unfold Jf;simp
theorem tK:Jf []=[]:=by unfold Jf;rfl
theorem afN(l:List (Nat×List UInt8))(h:∀ p∈l,p.2.length=64)(k:Nat)(hk:k < l.length)(j:Nat)(hj:j < 65):
  (Jf l)[k*65+j]?=(Value.int .i64 (l[k].1:Int) :: Bn l[k].2)[j]? :=by
 induction l generalizing k with
 |nil=>simp at hk
 |cons p l ih=>
  have e:Jf (p :: l)=(Value.int .i64 (p.1:Int) :: Bn p.2)++Jf l:=by unfold Jf;rfl
  have hlen:(Value.int .i64 (p.1:Int) :: Bn p.2).length=65:=by rw[AX,IP,h p Cc]
  rw[e];cases k with
  |zero=>
   rw[Nat.zero_mul,Fs,List.getElem?_append_left (by omega)];rfl
  |succ k=>
   rw[List.getElem?_append_right (by omega),hlen,show(k+1)*65+j -65=k*65+j by omega];exact ih (fun q hq=>h q (Dh _ hq)) k (by simpa using hk)
@[irreducible] def putRow (p:Nat×List UInt8):Array Value:=(Value.int .i64 (p.1:Int) :: Bn p.2).toArray
theorem RQ(p:Nat×List UInt8):(putRow p).toList=Value.int .i64 (p.1:Int) :: Bn p.2:=by unfold putRow;rfl
theorem fZ(p:Nat×List UInt8)(h:p.2.length=64):(putRow p).size=65:=by
 rw[←Array.length_toList,RQ,AX,IP,h]
theorem tL(p:Nat×List UInt8):(putRow p)[0]?=some (.int .i64 (p.1:Int)):=by
 rw[←CB,RQ];rfl
theorem YZ(p:Nat×List UInt8):(putRow p).all (·.oneCell')=true:=by
 rw[Array.all_eq_true_iff_forall_mem];intro u hu;have:u∈(putRow p).toList:=by simpa using hu
 rw[RQ] at this;rcases AZ.1 this with rfl|h
 ·rfl
 ·exact Wn _ u h
theorem gm:(prog.info? 195).map (fun i=>(i.zero,i.size))=some (some (.agg Tryz.zeroCells195),65):=by kernel_rfl
theorem Z0(p:Nat×List UInt8)(h:p.2.length=64):(prog.info? 195).map (·.size)=some (putRow p).size:=by rw[fZ p h];exact(zero_of_info gm).2
theorem gp(p:Nat×List UInt8)(h:p.2.length=64):Tryz.zeroCells195.size=(putRow p).size:=by rw[fZ p h];kernel_rfl
theorem afO(w:World)(p:Nat×List UInt8)(T:TypeId):(w.alloc (.cells (putRow p) T)).rangeAt w.heap.size 1 (Bn p.2):=by
 intro j v hv;rw[CV,←CB,RQ,Nat.add_comm 1 j];exact hv
theorem Wp(x:List UInt8)(h:x.length=64):(prog.info? 193).map (·.size)=some (Bn x).length:=by rw[IP,h];exact fV
@[irreducible] def Kq (i:Int) (x:List UInt8):Array Value:=(Value.int .i64 i :: Bn x).toArray
theorem afP(a k:Nat)(x:List UInt8):Kq ((a:Int)+(k:Int)) x=putRow (a+k,x):=by unfold Kq putRow;rfl
theorem gu(i:Int)(x:List UInt8)(h:x.length=64):(Kq i x).size=65:=by
 unfold Kq;rw[Ih,AX,IP,h]
theorem Z4:Tryz.zeroCells195.size=65:=by kernel_rfl
theorem afQ(i:Int)(x:List UInt8)(h:x.length=64):
  Array.foldl (fun cs (x:Value×Nat)=>cs.setIfInBounds (1+x.snd) x.fst) (Tryz.zeroCells195.setIfInBounds 0 (Value.int .i64 i)) (Cf x).zipIdx 0 64=Kq i x:=by
 have hz:(Tryz.zeroCells195.setIfInBounds 0 (Value.int .i64 i)).size=65:=by rw[Array.size_setIfInBounds,Z4]
 rw[tH 1 64 (Cf x) _ (by simp[h]) (by rw[hz])];have h0:(Tryz.zeroCells195.setIfInBounds 0 (Value.int .i64 i)).toList.take 1=[.int .i64 i]:=by
  apply List.ext_getElem?;intro j;rw[List.getElem?_take];by_cases hj:j < 1
  ·obtain rfl:j=0:=(by omega);rw[Ac hj,CB,Array.getElem?_setIfInBounds,Ac rfl,Ac (by rw[Z4];decide)];rfl
  ·rw[Aa hj,List.getElem?_eq_none (by simp;omega)]
 rw[h0,fT];unfold Kq;rfl
theorem afR(Z:Array Value)(i:Int)(x:List UInt8)(h:x.length=64)(hZ:Z.size=65):
  Array.foldl (fun cs (x:Value×Nat)=>cs.setIfInBounds x.snd x.fst) Z (Kq i x).zipIdx 0 65=Kq i x:=afK 65 _ _ (gu i x h) hZ
theorem tN{w:World}{base g n cap:Nat}{l:List (Nat×List UInt8)}(h:w.ownsRow base 195 65 (.slice (some ⟨g,0,none⟩) n cap) l.length (Jf l))(hl:∀ p∈l,p.2.length=64)(k:Nat)(hk:k < l.length):
  w.rangeAt g (k*65) (Value.int .i64 (l[k].1:Int) :: Bn l[k].2):=by
 intro j v hv;have hj:j < 65:=by
  have:=(Ql.1 hv).1;rw[AX,IP,hl _ (BF hk)] at this;omega
 rw[←afN l hl k hk j hj] at hv;have:=h.cells (g:=g) rfl _ _ hv;have e:(⟨g,0,none⟩:Addr).add (k*65+j)=⟨g,k*65+j,none⟩:=by unfold Addr.add;split<;>simp_all
 rw[e] at this;exact this
theorem Z5(p:Nat×List UInt8)(h:p.2.length=64):(prog.info? 195).map (·.size)=some (Value.int .i64 (p.1:Int) :: Bn p.2).length:=by rw[AX,IP,h];exact(zero_of_info gm).2
theorem Z6(p:Nat×List UInt8):(Value.int .i64 (p.1:Int) :: Bn p.2).toArray=putRow p:=by unfold putRow;rfl
theorem tO:(prog.info? 195).map (·.size)=some 65:=(zero_of_info gm).2
def Jg(w:World)(m N:Nat)(f:Nat→List UInt8):Prop:=
 ∃ kv,Ko prog 3 w m kv∧(∀ p∈kv,∃ i:Nat,i < N∧p.1=(i:Int)∧p.2=.agg (Cf (f i)))∧∀ i:Nat,i < N→Fv kv i=none→f i=IM
theorem Jg.lt{w:World}{m N:Nat}{f:Nat→List UInt8}(h:Jg w m N f):m < w.heap.size:=h.choose_spec.1.lt
theorem Jg.kept{w w':World}{m N:Nat}{f:Nat→List UInt8}(h:Jg w m N f)(e:w'.heap[m]?=w.heap[m]?):Jg w' m N f:=by
 obtain⟨kv,h1,h2⟩:=h;exact⟨kv,h1.kept e,h2⟩
theorem Jg.made(w:World)(N:Nat):Jg (w.alloc (.map #[] 0)) w.heap.size N (fun _=>IM):=⟨[],Ko.made w,fun p hp=>by simp at hp,fun _ _ _=>rfl⟩
theorem tQ(i:Nat)(h:i≤16384):(Lit.int .i64 (i:Int)).wf=true:=WalkArith.wf_i64 (by omega)
theorem Jg.get{w:World}{m N:Nat}{f:Nat→List UInt8}(h:Jg w m N f)(i:Nat)(hi:i < N)(hN:N≤16384):
  (Instr.lookup 114 (.map (some m)) (.int .i64 (i:Int)) false).run prog w=.ok (.agg (Cf (f i))) w:=by
 obtain⟨kv,h1,h2,h3⟩:=h;rw[h1.lookup underlying3 underlying114 (afL w) i (tQ i (by omega))];cases hg:Fv kv i with
 |none=>rw[h3 i hi hg];rfl
 |some v=>
  obtain⟨j,_,e1,e2⟩:=h2 _ (afH hg);simp at e1 e2;have e3:i=j:=by omega
  subst e3;rw[e2];rfl
theorem afS(N:Nat):∀ (l:List Int),l.Nodup→(∀ x∈l,∃ i:Nat,i < N∧x=(i:Int))→l.length≤N:=by
 induction N with
 |zero=>
  intro l _ h;cases l with
  |nil=>simp
  |cons x l=>obtain⟨i,hi,_⟩:=h x Cc;omega
 |succ N ih=>
  intro l hn h;by_cases hm:(N:Int)∈l
  ·have h1:=ih (l.erase (N:Int)) (hn.erase _) (fun x hx=>by
    obtain⟨hne,hx⟩:=(List.Nodup.mem_erase_iff hn).1 hx;obtain⟨i,hi,e⟩:=h x hx;exact⟨i,by have:i≠N:=fun e'=>hne (by rw[e,e']);omega,e⟩)
   rw[List.length_erase_of_mem hm] at h1;omega
  ·have:=ih l hn (fun x hx=>by
    obtain⟨i,hi,e⟩:=h x hx;exact⟨i,by have:i≠N:=fun e'=>hm (by rw[←e',←e];exact hx);omega,e⟩)
   omega
theorem Jg.put{w:World}{m N:Nat}{f:Nat→List UInt8}(h:Jg w m N f)(i:Nat)(hi:i < N)(hN:N≤16384)(x:List UInt8):
  ∃ w',(Instr.mapUpdate 114 (.map (some m)) (.int .i64 (i:Int)) (.agg (Cf x))).run prog w=.ok () w'∧Jg w' m N (fun k=>if k=i then x else f k)∧w.grownBy w' (some m):=by
 obtain⟨kv,h1,h2,h3⟩:=h;have hlen:kv.length≤N:=by
  have:=afS N (kv.map (·.1)) h1.1 (fun y hy=>by
   obtain⟨p,hp,rfl⟩:=AV.1 hy;obtain⟨j,hj,e,_⟩:=h2 p hp;exact⟨j,hj,e⟩)
  simpa using this
 obtain⟨w',hrun,hm,hg⟩:=h1.update underlying3 underlying114 i (tQ i (by omega)) (.agg (Cf x)) (by unfold maxLen;omega);refine⟨w',hrun,⟨O4 i (.agg (Cf x)) kv,hm,fun p hp=>?_,fun j hj hg=>?_⟩,hg⟩
 ·rcases AZ.1 hp with rfl|hp
  ·exact⟨i,hi,rfl,by simp⟩
  ·obtain⟨hp1,hp2⟩:=CU.1 hp;obtain⟨j,hj,e1,e2⟩:=h2 p hp1;have hne:¬ j=i:=fun e=>by simp[e1,e] at hp2
   exact⟨j,hj,e1,by simp only[Aa hne];exact e2⟩
 ·by_cases e:j=i
  ·subst e;rw[sZ] at hg;simp at hg
  ·simp only[Aa e];rw[tq (by omega)] at hg;exact h3 j hj hg
structure Dv(w:World)(b m:Nat)(lv:Value)(D:Dsk):Prop where
 struct:w.heap[b]?=some (.cells #[.int .i64 (D.n:Int),.map (some m),lv,.int .i64 D.left,.bool D.down] 117)
 base:Jg w m D.n D.base
 loose:w.ownsRow 0 195 65 lv D.loose.length (Jf D.loose)
 mb:m≠b
 lb:lv.ownBlock≠some b
 lm:lv.ownBlock≠some m
 fine:D.Bf
def Lh(b m:Nat)(lv:Value)(k:Nat):Prop:=k=b∨k=m∨lv.ownBlock=some k
def AU(w:World)(b:Nat)(D:Dsk)(fp:Nat→Prop):Prop:=∃ m lv,Dv w b m lv D∧fp=Lh b m lv
theorem Dv.upd{F:Nat→Prop}{w w':World}{b m:Nat}{lv:Value}{D:Dsk}(h:Dv w b m lv D)(hu:A7 F w w')(hF:∀ k,Lh b m lv k→¬ F k):Dv w' b m lv D:=
 ⟨by rw[hu.block b (BZ.1 h.struct).1 (hF b (.inl rfl))];exact h.struct,h.base.kept (hu.block m h.base.lt (hF m (.inr (.inl rfl)))),AL h.loose hu (fun g hg=>hF g (.inr (.inr hg))),h.mb,h.lb,h.lm,h.fine⟩
theorem AU.upd{F:Nat→Prop}{w w':World}{b:Nat}{D:Dsk}{fp:Nat→Prop}(h:AU w b D fp)(hu:A7 F w w')(hF:∀ k,fp k→¬ F k):AU w' b D fp:=by
 obtain⟨m,lv,h1,rfl⟩:=h;exact⟨m,lv,h1.upd hu hF,rfl⟩
theorem AU.below{w w':World}{b:Nat}{D:Dsk}{fp:Nat→Prop}(h:AU w b D fp)(hu:Bw w w'):AU w' b D fp:=h.upd (ub hu) (fun _ _ f=>f)
theorem AU.lt{w:World}{b:Nat}{D:Dsk}{fp:Nat→Prop}(h:AU w b D fp):∀ k,fp k→k < w.heap.size:=by
 obtain⟨m,lv,h1,rfl⟩:=h;rintro k (rfl|rfl|hk)
 ·exact(BZ.1 h1.struct).1
 ·exact h1.base.lt
 ·exact RO h1.loose hk
theorem AU.fine{w:World}{b:Nat}{D:Dsk}{fp:Nat→Prop}(h:AU w b D fp):D.Bf:=by obtain⟨m,lv,h1,_⟩:=h;exact h1.fine
end
end Go.Proofs.YtmbbhdebddbhoaaGreat
