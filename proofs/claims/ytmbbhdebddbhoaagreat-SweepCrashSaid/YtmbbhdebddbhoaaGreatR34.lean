/- ChgIn SetP DepS -/
import Derived.Test.YtmbbhdebddbhoaaGreatR32
set_option maxHeartbeats 8000000
set_option maxRecDepth 100000
set_option linter.all false
namespace Go.Proofs.YtmbbhdebddbhoaaGreat
open Tryz
section
open Go.RowKit Go.WideShapes Go.ChangeShapes Go.Deep
open Fil
theorem aqw{H:Type}{enc:TypeId×Value→H}{W:World}{base:Nat}{sp:Nat→Bool}{hd:Bool}{n:Nat}{cs:List Value}{y:DataW H×List MemPlace}(q:Addr)
  (hc:W.cells? base q 3=some cs)(h:DataW.trod enc prog W base sp hd n 65 cs=some y)(hz:∀ n∈DataW.weights prog 65 y.1,n≤reachBytes):
  ∃ x:Aj,QD W q x∧x.name.length≤reachBytes∧x.data.length≤reachBytes:=by
 obtain⟨_,hl,hat⟩:=World.cells?_some hc;obtain⟨xs,n',_,rfl,_,FN,hf⟩:=DataW.trod_struct underlying65 h;have o2:prog.cellsOf 9=1:=by kernel_rfl
 have o3:prog.cellsOf 4=1:=by kernel_rfl
 have akf:xs.length=3:=FN;have g0:DataW.trod enc prog W base sp hd n' 9 ((cs.drop 0).take (prog.cellsOf 9))=xs[0]? :=hf 0 _ rfl;have g1:DataW.trod enc prog W base sp hd n' 9 ((cs.drop 1).take (prog.cellsOf 9))=xs[1]? :=hf 1 _ rfl;have g2:DataW.trod enc prog W base sp hd n' 4 ((cs.drop 2).take (prog.cellsOf 4))=xs[2]? :=hf 2 _ rfl;rw[o2,VM hl _ (by omega),Cn (by omega)] at g0 g1;rw[o3,VM hl _ (by omega),Cn (by omega)] at g2;obtain⟨v0,e0,y0,_⟩:=DataW.trod_string underlying9 g0;obtain⟨v1,e1,y1,_⟩:=DataW.trod_string underlying9 g1;obtain⟨v2,e2,_⟩:=DataW.trod_bool underlying4 g2;have cell:∀ j (hj:j < 3) v,[cs[j]'(by omega)]=[v]→W.cell? (q.add j)=some v:=fun j hj v e=>by
  rw[hat j hj,Cn (by omega)];simpa using e
 refine⟨⟨v0.data.toList,v1.data.toList,v2⟩,⟨cell 0 (by omega) _ e0,cell 1 (by omega) _ e1,cell 2 (by omega) _ e2⟩,?_,?_⟩
 ·refine hz _ ?_;simp only[DataW.weights,underlying65];refine DataW.weights_mem_each (j:=0) (t:=9) (d:=.lit (.string v0.data.toList)) rfl ?_ _ (by simp[DataW.weights]);rw[IX,Cn (by omega),y0];rfl
 ·refine hz _ ?_;simp only[DataW.weights,underlying65];refine DataW.weights_mem_each (j:=1) (t:=9) (d:=.lit (.string v1.data.toList)) rfl ?_ _ (by simp[DataW.weights]);rw[IX,Cn (by omega),y1];rfl
end
section
open Go.RowKit Go.Maps
open Fil
end
namespace Kp
open Go.Lib Go.RowKit Fil Man Wal Prs Hex
abbrev Us:=List (T×List T)
def Po(u:T×List T):T×T:=(u.1,(Cq (AX u.2)).1)
def Bi(l:Us):M:=l.map Po
def Md(l:Us):Prop:=∀ u∈l,(Cq (AX u.2)).2=0
instance (l:Us):Decidable (Md l):=inferInstanceAs (Decidable (∀ u∈l,_))
def GX(n:Nat)(A:M)(l:Us):Int×M:=if Md l then Gl A9 n A (Bi l) else(5,A)
theorem acM{l:List T}(h:(Cq l).2=0):CW (Cq l).1=some l:=by
 unfold Cq at h ⊢;cases he:FZ l with
 |none=>rw[he] at h;cases h
 |some s=>exact am0 he
theorem ayd{l:List T}:(Cq l).2=0↔(FZ l).isSome=true:=by
 unfold Cq;cases FZ l<;>simp
theorem azY{u:T×List T}(h:(Cq (AX u.2)).2=0):A9.ok (Po u)=true:=by
 show rowOk _=true
 unfold rowOk Po;rw[acM h]
 show decide (AX (AX u.2)=AX u.2)=true
 rw[tQ (Iq _)];exact Kr rfl
theorem ado{l:Us}(h:Md l):∀ p∈Bi l,A9.ok p=true:=fun p hp=>by
 obtain⟨u,hu,rfl⟩:=Bz.1 hp;exact azY (h u hu)
theorem uJ(l:Us)(k:Nat):Bi (l.take k)=(Bi l).take k:=by unfold Bi;rw[List.map_take]
theorem Ol(l:Us):(Bi l).length=l.length:=by unfold Bi;rw[Cf]
theorem amn{l:Us}{u:T×List T}:Md (l++[u])↔Md l∧(Cq (AX u.2)).2=0:=by
 unfold Md;constructor
 ·intro h;exact⟨fun x hx=>h x (List.mem_append_left _ hx),h u (by simp)⟩
 ·rintro⟨h1,h2⟩ x hx;rcases Fp.1 hx with e|e
  ·exact h1 x e
  ·obtain rfl:x=u:=(by simpa using e);exact h2
theorem anL(l:Us)(u:T×List T):Bi (l++[u])=Bi l++[Po u]:=by unfold Bi;rw[CF];rfl
section
variable {K:Kind}{A:M}
theorem oM(hu:Up A)(CO:∀ k,get A (K.nm k)=none){l:M}(Cb:∀ p∈l,K.ok p=true)(hf:Fits K l)(k:T):fileOf K (made A (Fj K l)) (K.nm k)=if K.nm k∈l.map (fun p=>K.nm p.1) then some (Bv K l (K.nm k)) else none:=by
 unfold fileOf;rw[pz hu];by_cases h:K.nm k∈l.map fun p=>K.nm p.1
 ·rw[Ab h,Ab h];obtain⟨p,hp,e⟩:=Bz.1 h;have e:K.nm p.1=K.nm k:=e;rw[←e];have hc:=hf.all p hp;obtain⟨d,hd⟩:=MN.1 hc;rw[hd]
  show K.Df _ d=_
  exact alY hd (aha hp) (Sb _ _) fun q hq=>⟨(pJ _ _ q hq).1,Cb q (pJ _ _ q hq).2⟩
 ·rw[Aa h,Aa h,CO];rfl
theorem agx(hu:Up A)(CO:∀ k,get A (K.nm k)=none){l:M}(Cb:∀ p∈l,K.ok p=true)(hf:Fits K l)(k:T):(fileOf K (made A (Fj K l)) (K.nm k)).getD []=Bv K l (K.nm k):=by
 rw[oM hu CO Cb hf];split
 ·rfl
 ·rename_i h
  rw[iH h];rfl
theorem zq:Fits K []:=fun j hj=>by simp at hj
theorem alc{K':Kind}(hK:K.BM)(iO:K'.BM)(hd:∀ x,K.ours x=true→K'.ours x=true→False)(hu:Up A)(CO:∀ k,get A (K.nm k)=none){n:Nat}(l:M):∀ k,get (Gl K' n A l).2 (K.nm k)=none:=by
 intro k;unfold Gl;split
 ·show get (F9 n A (ET K' l)) _=none
  unfold F9;split
  ·rw[zH hu,Aa,CO];intro h;obtain⟨p,_,e⟩:=Bz.1 h;exact hd _ (hK.ZA k) (by rw[←e];exact iO.ZA _)
  ·exact CO k
 ·exact CO k
theorem anJ(hu:Up A)(l:M):used (made A (Fj K l))=used (made A (ET K l)):=by rw[tN hu]
end
end Kp
namespace Prs
open Fil Man
def cutR(o:M)(k:T):Nat→Nat
 |0=>0
 |n+1=>if k < (o.getD n ([],[])).1 then cutR o k n else n+1
def Rc(o:M)(x:T×T):M:=o.take (cutR o x.1 o.length)++[x]++o.drop (cutR o x.1 o.length)
def Lb(l:M):M:=l.foldl Rc []
theorem afH(o:M)(k:T):∀ n,cutR o k n≤n
 |0=>Ac _
 |n+1=>by
  unfold cutR;split
  ·exact Nat.le_succ_of_le (afH o k n)
  ·exact Ac _
theorem afG(o:M)(k:T):∀ n,∀ i,cutR o k n≤i→i < n→k < (o.getD i ([],[])).1
 |0,i,_,h=>absurd h (Nat.not_lt_zero _)
 |n+1,i,h1,h2=>by
  unfold cutR at h1;split at h1
  ·rename_i hk
   by_cases e:i=n
   ·rw[e];exact hk
   ·exact afG o k n i h1 (by omega)
  ·omega
theorem yV(o:M)(k:T):∀ n,∀ i,cutR o k n=i+1→(o.getD i ([],[])).1≤k
 |0,i,h=>by unfold cutR at h;omega
 |n+1,i,h=>by
  unfold cutR at h;split at h
  ·exact yV o k n i h
  ·rename_i hk
   obtain rfl:n=i:=(by omega);exact dJ.1 hk
theorem avo(o:M)(x:T×T):(Rc o x).Perm (x :: o):=by
 unfold Rc;have h:=List.perm_middle (a:=x) (l₁:=o.take (cutR o x.1 o.length)) (l₂:=o.drop (cutR o x.1 o.length));rw[M4] at h;rw[Dp];exact h
theorem amW{o:M}(h:Cr o){k:T}{n:Nat}(hn:n≤o.length)(hl:∀ i,n=i+1→(o.getD i ([],[])).1≤k):∀ p∈o.take n,p.1≤k:=by
 intro p hp;obtain⟨j,hj,rfl⟩:=List.mem_iff_getElem.1 hp;rw[AL] at hj;rw[List.getElem_take];obtain⟨i,rfl⟩:∃ i,n=i+1:=⟨n -1,by omega⟩;have h1:=hl i rfl;rw[GY,Cn (show i < o.length by omega),Option.getD_some] at h1;by_cases e:j=i
 ·subst e;exact h1
 ·exact List.le_trans (List.pairwise_iff_getElem.1 h j i (by omega) (by omega) (by omega)) h1
theorem avp{o:M}(h:Cr o)(x:T×T):Cr (Rc o x):=by
 unfold Rc;have hc:=afH o x.1 o.length;refine List.pairwise_append.2 ⟨List.pairwise_append.2 ⟨h.sublist (List.take_sublist _ _),Tf _ _,fun a ha b hb=>?_⟩,h.sublist (List.drop_sublist _ _),fun a ha b hb=>?_⟩
 ·obtain rfl:b=x:=by simpa using hb
  exact amW h hc (fun i hi=>yV o b.1 _ i hi) a ha
 ·obtain⟨j,hj,rfl⟩:=List.mem_iff_getElem.1 hb;rw[Ce] at hj;rw[List.getElem_drop];have hk:=afG o x.1 o.length (cutR o x.1 o.length+j) (by omega) (by omega);rw[GY,Cn (show cutR o x.1 o.length+j < o.length by omega),Option.getD_some] at hk;rcases Fp.1 ha with e|e
  ·exact List.le_trans (amW h hc (fun i hi=>yV o x.1 _ i hi) a e) (kF hk)
  ·obtain rfl:a=x:=(by simpa using e);exact kF hk
theorem amR(l:M):∀ o,Cr o→Cr (l.foldl Rc o)∧(l.foldl Rc o).Perm (o++l):=by
 induction l with
 |nil=>intro o ho;exact⟨ho,by simp⟩
 |cons x l ih=>
  intro o ho;obtain⟨h1,h2⟩:=ih (Rc o x) (avp ho x);refine⟨h1,h2.trans ?_⟩;refine((avo o x).append_right l).trans ?_;exact List.perm_middle.symm
theorem amS(l:M):(Lb l).Perm l:=(amR l [] List.Pairwise.nil).2
theorem az0(l:M):Cr (Lb l):=(amR l [] List.Pairwise.nil).1
theorem ayX(l:M):(Lb l).length=l.length:=(amS l).length_eq
theorem ayZ(l:M)(x:T×T):Lb (l++[x])=Rc (Lb l) x:=by unfold Lb;rw[List.foldl_append];rfl
theorem ayY{l:M}(h:Up l)(k v:T):Lb (l.filter (fun p=>!(p.1 == k))++[(k,v)])=put k v l:=by
 have hd:del k l=l.filter (fun q=>!(q.1 == k)):=rfl;rw[←hd];have hp:=amS (del k l++[(k,v)]);have hdu:=h.del k;refine ZQ (uH (az0 _) ?_) (h.put k v) fun p=>?_
 ·rw[(hp.map (·.1)).nodup_iff,CF,List.nodup_append];refine⟨hdu.nodup,by simp,fun a ha b hb=>?_⟩;simp only[BL,List.map_nil,EX] at hb;subst hb;obtain⟨q,hq,rfl⟩:=Bz.1 ha;exact(XB.1 hq).2
 ·rw[hp.mem_iff,SV h,Fp,XB,EX];exact⟨fun e=>e.elim .inr .inl,fun e=>e.elim .inr .inl⟩
end Prs
namespace Man
open Go.RowKit Go.Maps Go.Sort Go.Shelf Go.Lib
open Wal Fil
theorem iA(w:World)(p:Option Addr)(n c:Nat):(binOp .eql 27 (.slice p n c) (.slice none 0 0)).run prog w=.ok (.bool p.isNone) w:=by
 have h:∀ d,(Op.equalIn (d+1) 27 (.slice p n c) (.slice none 0 0)).run prog w=.ok p.isNone w:=fun d=>by
  cases p<;>simp[Op.equalIn,Gp underlying27]
 simp only[binOp];simp[show Op.equal 27 (.slice p n c) (.slice none 0 0)=Op.equalIn (9999+1) 27 (.slice p n c) (.slice none 0 0) from rfl,h 9999]
theorem zh(w:World):(w.alloc (.cells #[] 9)).ownsRow w.heap.size 9 1 (.slice (some ⟨w.heap.size,0,none⟩) 0 0) 0 []:=
 ⟨by rfl,.inr ⟨w.heap.size,0,#[],rfl,Ac _,AJ w _,Ac _,AB _,rfl,by rfl⟩⟩
theorem azu{w:World}{q:Option Addr}{cap:Nat}{l:List T}(h:Cg w q l)(hq:q=none→cap=0)(hl:l.length≤1000000):
  Calls prog 114 #[.slice q l.length cap] w fun e w'=>∃ v',e=.returned v'∧Bp w' w.heap.size v' l∧(v'=.slice none 0 0→l=[])∧Bw w w':=by
 obtain⟨i0,Ba,AQ,AU,AV⟩:=Du Ta;cases q with
 |none=>
  obtain rfl:cap=0:=hq rfl;have LD:l=[]:=by
   cases l with
   |nil=>rfl
   |cons x l=>obtain⟨p,e,_⟩:=h 0 (by simp);cases e
  subst LD;have hqe:=fun w=>iA w none 0 0
  clear h;go_enter func114,ntmps114;go_wp2_with fail;go_ret;exact⟨_,rfl,by unfold Bp;rw[JE];exact EI _ _ _ _,by first|exact⟨fun _=>rfl,Af _ _⟩|exact Af _ _⟩
 |some p=>
  have HH:=Hi (h.below (Aw w (.cells #[] 9)));have hqe:=fun w=>iA w (some p) l.length cap
  clear h hq;go_enter func114,ntmps114
  go_wp2_with (at_builtin;refine wpList_append_own_at _ rfl _ _ 27 rfl w.heap.size 9 i0 _ 1 16 underlying27 Ba AQ AU AV rfl (by decide) _ 0 [] rfl (zh w) p l.length cap (strCells l) rfl (by rw[strCells_length,Nat.mul_one]) (fun j u hj=>by
   have Ju:j < l.length:=by
    have:=(Uw.1 hj).1;rwa[strCells_length] at this
   rw[XL l j Ju] at hj;obtain⟨p2,hp,hc⟩:=HH j Ju;cases hp;rw[hc,←hj]) (ad1 _) (by unfold maxLen;omega) (by omega) (by rw[Aq];omega) ?_;intro v' w1 hown Az hne hat)
  go_ret;refine⟨v',rfl,by unfold Bp;rw[GJ,Eu] at hown;exact hown,fun e=>?_,(Aw w _).grown Az (by rw[Aq];omega) (fun k e=>?_)⟩
  ·rw[GJ] at hown;rcases hown.2 with⟨e1,e2⟩|⟨g,c2,cur,e1,_⟩
   ·exact Ld.1 e2
   ·rw[e] at e1;injection e1 with e1;cases e1
  ·have e':some w.heap.size=some k:=e;have:=G7 e';omega
theorem ara{w:World}{q0:Option Addr}{c0:Nat}{l:List (List UInt8)}(h:Cg w q0 l)(hq0:q0=none→c0=0)(hl:l.length≤1000000):
  Calls prog 42 #[.slice q0 l.length c0] w fun e w'=>∃ v',e=.returned v'∧Bp w' w.heap.size v' (AX l)∧Bw w w':=by
 have HC:=Hi (azu h hq0 hl);clear h hq0;go_enter func42,ntmps42;go_wp2_with fail;refine HC.mono ?_;rintro e w1⟨v1,rfl,Dj,DI,Ad⟩;rcases Dj.parts with⟨rfl,rfl⟩|⟨g,cap,rfl,hg,jB,QX,Qb⟩
 ·have HB1:=Hi Ad;clear Dj DI Ad;go_wp2_with fail;refine(AnyM.slices_Sort_string_none bq none 0 _).mono ?_;rintro e w2⟨rfl,rfl⟩;go_wp2_with fail;refine(Any.slices_Compact_string_empty su none 0 _).mono ?_;rintro e w3⟨rfl,rfl⟩;go_wp2_with fail;go_ret;exact⟨_,rfl,by unfold Bp;rw[show AX []=[] by simp[AX,Lib.compact,Lib.compactUpTo],JE];exact EI _ _ _ _,HB1⟩
 ·have SE:=Dj;unfold Bp at SE;rw[JE] at SE;obtain⟨g2,cap2,e2,_,_,_,_,_,hH⟩:=holds_of_ownsRow SE (by simp);cases e2;have DN:=Hi SE;have HB1:=Hi Ad;have HH:=Hi hH;clear Dj SE DI Ad hH;go_wp2_with fail;refine(AnyM.slices_Sort_string bq g 0 cap l _ HH Qb (by omega)).mono ?_;rintro e w2⟨rfl,n,os,rfl⟩;have Cz:(l.mergeSort fun x y=>decide (x≤y)).length=l.length:=by simp
  have Dc:=ownsRow_putRow (q:=n) DN Cz (Ac _);have A8:=below_putRow (q:=n) (enc:=encStr) (d:=(l.mergeSort fun x y=>decide (x≤y)).toArray) HB1 hg;have KV:=Bh Dc (ub (below_grow (Af _ _) (Ac _) os)) (fun _ _ f=>f);have Ak:=below_grow A8 A8.size os;clear Dc A8;rw[Gn (by rw[Cz];omega)] at KV;obtain⟨S,TT⟩:∃ S,(l.mergeSort fun x y=>decide (x≤y))=S:=⟨_,rfl⟩;have hR:Hid (AX l=Lib.compact S):=Hi (by unfold AX;rw[TT]);rw[TT] at KV Ak Cz ⊢;generalize Go.Sort.grow (Go.Sort.putRow encStr (Sort.ahead w1 n) g 0 S.toArray) os=w3 at*;obtain⟨g3,nU,e3,_,_,_,_,_,YH⟩:=holds_of_ownsRow KV (by simp);cases e3;have YO:=Any.slices_Compact_string su g 0 cap S w3 YH (by omega) (by omega);rw[←Cz] at KV;rw[show(ac6.f 194)=116 from rfl,Cz] at YO;have vK:=Hi YO;have NL:=Hi KV;have Am:=Hi Ak;have HH3:=Hi YH;clear KV Ak YH YO;go_wp2_with fail;refine vK.mono ?_;rintro e w4⟨rfl,q,rfl⟩;rw[←Cz];have BH:=compact_length_le S;have Z9:=ownsRow_putRow (q:=q) (k:=(Lib.compact S).length) NL (ys:=Lib.compact S++List.replicate (S.length -(Lib.compact S).length) []) (by simp;omega) BH;have Ar:=below_putRow (q:=q) (enc:=encStr) (d:=(Lib.compact S++List.replicate (S.length -(Lib.compact S).length) []).toArray) Am hg;rw[Iz rfl] at Z9;generalize Go.Sort.putRow encStr (Sort.ahead w3 q) g 0 (Lib.compact S++List.replicate (S.length -(Lib.compact S).length) []).toArray=w4 at*;have wV:=Hi Z9;have AZ:=Hi Ar;clear Z9 Ar;go_wp2_with fail;go_ret;refine⟨_,rfl,?_,AZ⟩;unfold Bp;rw[hR.out,JE];exact wV.out
end Man
section
open Go.RowKit Go.Maps Wal
theorem ada:∀ {l:List (List UInt8)} {S:List UInt8},textsE l=some S→S.length≤l.length*65537
 |[],S,h=>by
  simp only[textsE,BX] at h;subst h;exact Ac _
 |x :: l,S,h=>by
  simp only[textsE] at h;cases h1:DJ x with
  |none=>rw[h1] at h;cases h
  |some y=>
   cases h4:textsE l with
   |none=>rw[h1,h4] at h;cases h
   |some z=>
    rw[h1,h4] at h;simp only[Cj,Ej,BX] at h;subst h;have:=ada h4;unfold DJ at h1;split at h1
    ·simp only[BX] at h1;subst h1;have FV:(Crc.le 2 x.length).length=2:=Crc.BK _ _;simp only[Au,Br,FV];omega
    ·cases h1
theorem ax2(l:List (List UInt8))(a:Option Addr)(cap:Nat)(w:World)(hl:Cg w a l)(hlen:l.length≤maxLen)(LC:l.length≤10000):
  Calls prog 79 #[.slice a l.length cap] w fun e w'=>e=.returned (.tuple #[.string (bs (Cq l).1),.int .i64 (Cq l).2])∧Bw w w':=by
 unfold maxLen at hlen;by_cases aal:65535 < l.length
 ·have hR:Hid (Cq l=([],5)):=Hi (by unfold Cq FZ;rw[Aa (by omega)]);rw[hR.out];clear hl;go_enter func79,ntmps79;go_wp2_with fail;all_goals
   go_ret2;exact⟨rfl,Af _ _⟩
 ·have HL:=Hi hl;have Bq:Bw w (w.alloc (.cells #[.pointer none,.slice none 0 0] 234)):=(Af _ w).alloc (Ac _) _;have Bc:=Hi Bq;have D8:=Hi (DL.made w);clear hl Bq;go_enter func79,ntmps79;go_wp2_with fail;refine(gY l.length 2 _ (by decide)).mono ?_;rintro e w1⟨rfl,hb⟩;have EO:=D8.upd (ub hb) (fun _ _ f=>f);have Ps:=Hi EO;have HB1:=Hi (Bc.trans (hb.mono (by rw[Aq];omega)));clear hb EO;go_wp2_with fail;refine(WH Ps (Crc.le 2 l.length) (by simp[Crc.BK])).mono ?_;rintro e w2⟨rfl,fp2,h1,h2,h3⟩;rw[Eu] at h1;have FU:∀ q,fp2 q→w.heap.size≤q:=fun q hq=>by
   rcases h3 q hq with h|h
   ·rcases h with h|h
    ·omega
    ·simp[Value.ownBlock] at h
   ·have:=HB1.size;omega
  have Ag:=Hi (Ca HB1 h2 (fun i hi=>by rcases hi with h|h;omega;simp[Value.ownBlock] at h) HB1.size);have Oo:=Hi h1;have EK:=Hi FU;clear h1 h2 h3 FU;go_wp2_with fail
  go_loopw [19] (fun i wr=>∃ (k:Nat) (S:List UInt8) (fp:Nat→Prop),k≤l.length∧i=.int .i64 k∧textsE (l.take k)=some S∧DL wr w.heap.size (Crc.le 2 l.length++S) fp∧(∀ q,fp q→w.heap.size≤q)∧Bw w wr) (fun i _=>l.length -(intOf i).toNat)
  case atStart=>exact⟨0,[],fp2,by omega,rfl,rfl,by rw[EH];exact Oo.out,EK,Ag⟩
  case round=>
   clear D8 Ps Oo Bc HB1 Ag EK;obtain⟨k,S,fp,hk,rfl,hS,EO,FU,hb⟩:=hrel;have HS:=Hi hS;have D8:=Hi EO;have EK:=Hi FU;have HB:=Hi hb;clear hS EO FU hb;by_cases hlt:k < l.length
   ·obtain⟨q,Hg,hq⟩:=(HL.below HB).index cap k hlt;have FV:=ada HS.out;rw[AL] at FV;have JS:=Hi (adb hlt HS);by_cases NW:65535 < l[k].length
    ·have hR:Hid (Cq l=([],5)):=Hi (by unfold Cq FZ;rw[Ab (by omega),uC hlt NW];rfl);clear FV;generalize l[k]=x at*;go_wp2_with fail;refine(ach x _ NW).mono ?_;rintro e w3⟨rfl,rfl⟩;go_wp2_with fail;go_ret2;rw[hR.out];exact⟨rfl,HB⟩
    ·have FN:l[k].length≤65535:=(by omega);have hle:S.length+l[k].length≤1000000000:=(by have:=NC 65537 (show min k l.length≤10000 by omega);omega);clear FV NW;generalize l[k]=x at*;go_wp2_with fail;refine(aci x _ FN).mono ?_;rintro e w3⟨rfl,Ak⟩;have Tk:=Hi (D8.upd (ub Ak) (fun _ _ f=>f));have Am:=Hi (HB.trans (Ak.mono HB.size));clear Ak hq;go_wp2_with fail;refine(WH Tk (Crc.le 2 x.length++x) (by simp[Crc.BK];omega)).mono ?_;rintro e w4⟨rfl,OI,h1,h2,h3⟩;have vB:=Hi h1
     have vR:=Hi (show ∀ q,OI q→w.heap.size≤q from fun q hq=>by
      rcases h3 q hq with h|h
      ·exact EK q h
      ·exact Ap Am.size h)
     have AZ:=Hi (Ca Am h2 EK Am.size);clear h1 h2 h3;go_wp2_with fail;go_roundw
     case rel=>exact⟨k+1,S++(Crc.le 2 x.length++x),OI,by omega,by go_num,by rw[JS.out];unfold DJ;rw[Ab FN];rfl,by rw[←Dp];exact vB.out,vR,AZ⟩
     case measure=>simp[intOf];omega
   ·obtain rfl:k=l.length:=(by omega);go_wp2_with fail;refine(WG D8).mono ?_;rintro e w3⟨rfl,hu⟩;have Am:=Hi (Ca HB hu EK HB.size)
    have hR:Hid (Cq l=(Crc.le 2 l.length++S,0)):=Hi (by
     have h:=HS.out;rw[CY] at h;unfold Cq FZ;rw[Ab (by omega),h];rfl)
    clear hu;go_wp2_with fail;go_ret2;rw[hR.out];exact⟨rfl,Am⟩
end
namespace Dep
open Go.RowKit Go.Maps
open Wal Fil Man Prs Kp Cm Hex Sha Al Mem
structure Yw(w:World)(q:Addr)(u:T×List T):Prop where
 run:w.cell? q=some (.string (bs u.1))
 keys:∃ kq kc,w.cell? ⟨q.block,q.off+1,none⟩=some (.slice kq u.2.length kc)∧Cg w kq u.2∧(kq=none→kc=0)
def Ls(w:World)(a:Option Addr)(l:Us):Prop:=∀ i,(h:i < l.length)→∃ p:Addr,a=some p∧Yw w (p.add (i*2)) l[i]
theorem anG:(prog.info? 77).map (fun i=>(i.zero,i.size,i.bytes))=some (some (.agg #[.string ByteArray.empty,.slice none 0 0]),2,40):=by kernel_rfl
section
variable {w w':World}{a:Option Addr}{l:Us}
theorem Yw.below{q:Addr}{u:T×List T}(h:Yw w q u)(hb:Bw w w'):Yw w' q u:=by
 obtain⟨kq,kc,h1,h2,h3⟩:=h.keys;have hlt:=BS h.run;exact⟨(hb.cell hlt).trans h.run,kq,kc,(hb.cell (p:=⟨q.block,q.off+1,none⟩) hlt).trans h1,h2.below hb,h3⟩
theorem Ls.below(h:Ls w a l)(hb:Bw w w'):Ls w' a l:=fun i hi=>by
 obtain⟨p,e,hp⟩:=h i hi;exact⟨p,e,hp.below hb⟩
theorem Ls.index(h:Ls w a l)(cap k:Nat)(hk:k < l.length):
  ∃ q:Addr,(∀ W,(Instr.indexAt 23 (.slice a l.length cap) (.int .i64 (k:Int))).run prog W=.ok (.pointer (some q)) W)∧Yw w q l[k]:=by
 obtain⟨p,rfl,hp⟩:=h k hk;exact⟨_,fun W=>Hr prog _ 77 underlying23 2 (by kernel_rfl) p l.length cap k hk W,hp⟩
end
theorem axC{K:Kind}{lt:M}{L:List (T×M)}(h:Ec K lt L){p:T×T}{l:M}(hl:l=Bv K (lt++[p]) (K.nm p.1)):Ec K (lt++[p]) (Dep.putRow L (K.nm p.1) l):=by
 unfold Dep.putRow;refine⟨JF.2 ⟨fun hm=>?_,List.Sublist.nodup (List.Sublist.map (fun x:T×M=>x.1) (List.filter_sublist (p:=fun x:T×M=>!(x.1 == K.nm p.1)) (l:=L))) h.nodup⟩,fun t=>?_,fun x hx=>?_⟩
 ·obtain⟨x,hx,e⟩:=Bz.1 hm;have:=(Et.1 hx).2;simp[e] at this
 ·rw[BL,Bt,CF,Fp,List.map_singleton,EX];constructor
  ·rintro(e|e)
   ·exact .inr e
   ·obtain⟨x,hx,e2⟩:=Bz.1 e;exact .inl ((h.names t).1 (by rw[←e2];exact Gm (Et.1 hx).1))
  ·rintro(e|e)
   ·by_cases ht:t=K.nm p.1
    ·exact .inl ht
    ·obtain⟨x,hx,e2⟩:=Bz.1 ((h.names t).2 e);refine .inr (Bz.2 ⟨x,Et.2 ⟨hx,?_⟩,e2⟩);have e2:x.1=t:=e2;simp[e2,ht]
   ·exact .inl e
 ·rcases Bt.1 hx with rfl|hx
  ·exact hl
  ·obtain⟨h1,h2⟩:=Et.1 hx;have h2:x.1≠K.nm p.1:=(by simpa using h2);rw[Nf,Aa (fun e=>h2 e.symm)];exact h.rows x h1
theorem ayN{V:World}{o pb:Nat}{q:Option Addr}{c:Nat}{l:M}{pr:T×T}(ho:V.heap[o]?=some (.cells #[.slice q l.length c,.slice (some ⟨pb,0,none⟩) 1 1] 22))(hp:V.heap[pb]?=some (.cells #[.string (bs pr.1),.string (bs pr.2)] 75))(hr:AO V q l)(hq:q=none→c=0)(hc:l.length≤c)(hl:l.length≤1000):
  Calls prog 71 #[.slice (some ⟨o,0,none⟩) 2 2] V fun e w'=>∃ q' c',e=.returned (.slice q' (Kn [l,[pr]]).length c')∧Bo w' V.heap.size (.slice q' (Kn [l,[pr]]).length c') (Kn [l,[pr]])∧Bw V w':=by
 have ab8:y9 V (some ⟨o,0,none⟩) [l,[pr]]:=by
  intro i hi;have Ja:i < 2:=hi;refine⟨_,rfl,?_⟩;rw[add_plain]
  match i,Ja with
  |0,_=>exact⟨q,c,cr ho,hr,hq,hc⟩
  |1,_=>
   refine⟨some ⟨pb,0,none⟩,1,cr ho,?_,(fun e=>by cases e),Ac _⟩;intro j hj;obtain rfl:j=0:=(by simpa using hj);refine⟨_,rfl,?_,?_⟩
   ·rw[add_plain,BA _ _ _ _ _ _ hp];rfl
   ·rw[add_plain]
    show V.cell? ⟨pb,0+0*2+1,none⟩=_
    rw[BA _ _ _ _ _ _ hp];rfl
 refine(al3 (cap:=2) ab8 (by simp;omega) (by simp)).mono ?_;rintro e w'⟨v,rfl,h1,h2,h3⟩;obtain⟨q',c',rfl,-,-⟩:=Es h1;exact⟨q',c',rfl,aml h1 h3,h2⟩
def yc(w:World)(m:Nat)(l:Us)(i:Value)(wr:World):Prop:=
 ∃ (k:Nat) (L:List (T×M)) (g:T→Value),k≤l.length∧i=.int .i64 (k:Int)∧FR wr w.heap.size m L g∧Ec A9 (Bi (l.take k)) L∧Bw w wr∧Fits A9 (Bi (l.take k))∧Md (l.take k)
theorem ari{w:World}{p y:Nat}{A:M}{q:Option Addr}{cap:Nat}{l:Us}{Q:Int→World→Prop}(hm:GM w p y)(hg:Man.ND w y A)(CO:∀ k,Fil.get A (A9.nm k)=none)(hk:Ls w q l)(hl:l.length≤1000)(Db:∀ x∈l,x.1.length≤1000000∧x.2.length≤10000)(Fg:∀ j name,Small (Bv A9 (Bi (l.take j)) name))
  (hf:∀ W,Bw w W→Calls prog 140 #[.pointer (some ⟨y,0,none⟩)] W fun e w'=>e=.returned (.int .i64 0)∧W=w')
  (h5:¬ (Md l∧Fits A9 (Bi l))→∀ w',Bw w w'→Q 5 w')
  (hc:Md l∧Fits A9 (Bi l)→∀ W q c,Bw w W→DW W q (ET A9 (Bi l))→Calls prog 32 #[.pointer (some ⟨y,0,none⟩),.slice q (ET A9 (Bi l)).length c] W fun e w'=>∃ c,e=.returned (.int .i64 c)∧Q c w'):
  Calls prog 30 #[.pointer (some ⟨p,0,none⟩),.slice q l.length cap] w fun e w'=>∃ c,e=.returned (.int .i64 c)∧Q c w':=by
 have HF:=Hi hf;have H5:=Hi h5;have HC:=Hi hc;have HM:=Hi hm;have HG:=Hi hg;have HK:=Hi hk;have Eb:=Hi CO;have Ih:=Hi Db;have NR:=Hi Fg;have dh:=hm.lt;clear hf h5 hc hm hg hk CO Db Fg;have KR:=@run_makeMap prog;go_enter func30,ntmps30;go_wp2_with fail;refine(afM (P:=fun W w'=>W=w') HM (HF _ (Af _ _))).mono ?_;rintro e w1⟨rfl,FY⟩;subst FY;go_wp2_with fail;have j6:=Aw w (.map #[] 0);have JO:=Hi (show yc w w.heap.size l (.int .i64 0) (w.alloc (.map #[] 0)) from⟨0,[],fun _=>.slice none 0 0,AB _,rfl,FR.made w w.heap.size _ (Ac _),by rw[GZ];exact Ec.nil,j6,by rw[GZ];exact zq,by rw[GZ];exact fun u hu=>by simp at hu⟩);generalize w.alloc (.map #[] 0)=V at*;clear j6
 go_loopw [24] (fun i wr=>yc w w.heap.size l i wr) (fun i _=>l.length -(intOf i).toNat)
 case atStart=>exact JO.out
 case round=>
  obtain⟨k,L,g,hk,rfl,he,Gh,hb,BO,Np⟩:=hrel;have HE:=Hi he;have Wp:=Hi Gh;have HB:=Hi hb;have Ky:=Hi BO;have Yh:=Hi Np;clear he Gh hb BO Np JO;by_cases hlt:k < l.length
  ·obtain⟨a,Cu,ha⟩:=(HK.below HB).index cap k hlt;have c0:=ha.run;obtain⟨kq,kc,c1,DY,bW⟩:=ha.keys;have KD:=Hi (Ci hlt);obtain⟨Gi,Vo⟩:=Ih _ KD.out;have BN:=Hi (Cw hlt);have JS:=Hi (fun name=>NR (k+1) name);obtain⟨u,hu⟩:=ex (l[k]);rw[hu] at KD BN c0 c1 DY Gi Vo;obtain⟨run,keys⟩:=u;clear ha hu;have BP:=Aw wr (.cells #[.string (bs run),.slice kq keys.length kc] 77);have xC:=Hi (AJ wr (.cells #[.string (bs run),.slice kq keys.length kc] 77));have HDR:=Hi (ara (DY.below BP) bW (by omega));have Ao:=Hi (HB.trans (BP.mono HB.size));have QF:=Hi (HE.below BP);simp only at c0 c1 Gi Vo;clear DY BP;go_wp2_with fail;refine HDR.mono ?_;rintro e w1⟨v1,rfl,Kk,Ad⟩;obtain⟨rq,rc,rfl⟩:=Bg Kk;have auS:=Un keys;have CZ:=Hi (ax2 (AX keys) rq rc w1 (Ea Kk) (by unfold maxLen;omega) (by omega));have HB1:=Hi (Ao.trans (Ad.mono Ao.size));have FB:=Hi (QF.below Ad);have nE:=Hi ((Ad.block _ (Ai xC)).trans xC);obtain⟨ub,hub⟩:=ex (wr.heap.size);rw[hub] at nE;have aCp:w.heap.size≤ub:=(by rw[←hub];exact HB.size);clear Kk Ad Ao QF xC HDR Cu c0 c1;by_cases hz:(Cq (AX keys)).2=0
   case neg=>
    have SN:Cq (AX keys)=([],5):=by
     unfold Cq at hz ⊢;cases dw:FZ (AX keys) with
     |none=>rfl
     |some s=>rw[dw] at hz;exact absurd rfl hz
    have UI:=Hi (H5 (fun h=>hz (h.1 _ KD)));rw[SN] at CZ;clear SN hz;go_wp2_with fail;refine CZ.mono ?_;rintro e w2⟨rfl,A8⟩;have HQ:=Hi (UI w2 (HB1.trans (A8.mono HB1.size)));clear A8;go_wp2_with fail;go_ret;exact⟨5,rfl,HQ⟩
   case pos=>
    obtain⟨s,hs⟩:=ex ((Cq (AX keys)).1);have Xq:Cq (AX keys)=(s,0):=Prod.ext hs hz;rw[Xq] at CZ;have x8:=Hi (show Md (l.take (k+1)) from by rw[BN.out];exact amn.2 ⟨Yh,hz⟩);have Ey:=Hi (show Bi (l.take (k+1))=Bi (l.take k)++[(run,s)] from by rw[BN.out,anL];unfold Po;rw[hs]);have IC:=Hi (fun(W:World)=>og run W (by omega));have Ee:(A9.nm run).length=17:=ig run;clear hz hs Xq;go_wp2_with fail;refine CZ.mono ?_;rintro e w2⟨rfl,A8⟩;have Ag:=Hi (HB1.trans (A8.mono HB1.size));have MR:=Hi (FB.below A8);have nG:=Hi ((A8.block _ (Ai nE)).trans nE);have cu2:w2.cell? ⟨ub,0,none⟩=some (.string (bs run)):=cr nG.out;clear A8 HB1 FB nE CZ;go_wp2_with fail;refine(IC _).mono ?_;rintro e w3⟨rfl,Ak⟩;have ae:=Hi (MR.below Ak);have Am:=Hi (Ag.trans (Ak.mono Ag.size));have aJ:=Hi ((Ak.block _ (Ai nG)).trans nG);clear Ak cu2 Ag MR nG;have Si:L.length≤1000:=by
     have:=tF Wp.out;rw[Ol,AL] at this;omega
    have HSG:=Hi (JS (A9.nm run))
    have Py:=Hi (show Fits A9 (Bi l)→(BG (Bv A9 (Bi (l.take k)++[(run,s)]) (A9.nm run))).isSome=true from fun h=>by
     have h1:=h k (by rw[Ol];exact hlt);rw[←uJ,Ey.out] at h1;have h2:(Bi l)[k]'(by rw[Ol];exact hlt)=(run,s):=by
      have e1:(Bi (l.take (k+1)))[k]?=(Bi l)[k]? :=by
       rw[uJ,List.getElem?_take,Ab (by omega)]
      rw[Ey.out,List.getElem?_append_right (by rw[Ol,AL];omega),Ol,AL,H8 hk,Nat.sub_self] at e1;have e2:=e1.symm;rw[Cn (by rw[Ol];exact hlt)] at e2;exact G7 e2
     rw[h2] at h1;exact h1)
    by_cases Be:A9.nm run∈L.map (·.1)
    case' pos=>
     obtain⟨⟨t,l1⟩,hx,FH⟩:=Bz.1 Be;have FH:t=A9.nm run:=FH;subst FH;have KQ:=ae.sO hx (by rw[Ee];decide);have Ah:=ae.row _ hx;obtain⟨q1,c1,Mm,Ef,Gw⟩:=Es Ah;rw[Mm] at KQ Ah;have bY:l1=Bv A9 (Bi (l.take k)) (A9.nm run):=Wp.rows _ hx;have Ga:=Hi bY;have BP:=Aw w3 (.cells #[.slice q1 l1.length c1] 167);have UQ:=Hi (AJ w3 (.cells #[.slice q1 l1.length c1] 167));have QF:=Hi (ae.below BP);have Ao:=Hi (Am.trans (BP.mono Am.size));have QR:=Hi ((BP.block _ (Ai aJ)).trans aJ);have Hd:=Hi (C9 Ah BP);have Vj:w.heap.size≤w3.heap.size:=Am.size;clear hx Mm Ah BP bY FH;generalize SC:A9.nm run=name at*;have Li:=Hi SC;clear SC;go_wp2_with fail;obtain⟨wA,SQ⟩:=ex (w3.alloc (.cells #[.slice q1 l1.length c1] 167));rw[SQ] at UQ QF Ao QR Hd ⊢;obtain⟨b,NY⟩:=ex (w3.heap.size);rw[NY] at UQ Vj ⊢;clear SQ
    case' neg=>
     have KQ:=ae.sP Be (by rw[Ee];decide);have BP:=Aw w3 (.cells #[.slice none 0 0] 167);have xI:=Hi (AJ w3 (.cells #[.slice none 0 0] 167));have XW:=Hi (Am.trans (BP.mono Am.size));have vL:=Hi (ae.below BP);have apt:=Hi ((BP.block _ (Ai aJ)).trans aJ);have iU:=oh (HM.below XW) (TQ HG XW) (A9.nm run) (by rw[Ee];decide);have OX:fileOf A9 A (A9.nm run)=none:=(by unfold fileOf;rw[Eb run];rfl);unfold OB at iU;rw[OX,Eb run] at iU;obtain⟨l1,F7⟩:∃ l1:M,l1=[]:=⟨_,rfl⟩;rw[show((none:Option M).getD [])=l1 from F7.symm] at iU
     have Ga:=Hi (show l1=Bv A9 (Bi (l.take k)) (A9.nm run) from by
      rw[F7,iH];exact fun e=>Be ((Wp.names _).2 e))
     have Gr:=Hi iU;have Vj:w.heap.size≤w3.heap.size:=Am.size;clear BP iU OX F7;generalize SC:A9.nm run=name at*;have Li:=Hi SC;clear SC;go_wp2_with fail;refine Gr.mono ?_;rintro e w4⟨q1,c1,rfl,Ah,Ef,Ar⟩;have rO:=(Ar.block _ (Ai xI)).trans xI.out;have yU:w4.cell? ⟨w3.heap.size,0,none⟩=some (.slice none 0 0):=cr rO;have hf4:=CJ w4 w3.heap.size 0 _ _ rO;have FX:=(A7.refl (fun j=>j=w3.heap.size) w4).setCell (p:=⟨w3.heap.size,0,none⟩) (.inl rfl) (.slice q1 l1.length c1);have UQ:=Hi (BU w4 w3.heap.size 0 _ _ (.slice q1 l1.length c1) rO);have hsz0:=Aq w3 (.cells #[.slice none 0 0] 167);have Dr:Bw w3 (w4.setCell ⟨w3.heap.size,0,none⟩ (.slice q1 l1.length c1)):=by
      have h1:Bw w3 w4:=(Aw w3 _).trans (Ar.mono (Aw w3 _).size);exact h1.setCell (p:=⟨w3.heap.size,0,none⟩) (Ac _) _
     have QF:=Hi (ae.below Dr);have Ao:=Hi (Am.trans (Dr.mono Am.size));have QR:=Hi ((Dr.block _ (Ai aJ)).trans aJ)
     have Hd:=Hi (E9 (Bh Ah FX (fun j hj e=>by
      have:=DC Ah hj;rw[hsz0] at this;omega)) (show w.heap.size≤(w3.alloc (.cells #[.slice none 0 0] 167)).heap.size from by rw[hsz0];omega))
     clear Ar FX Dr hsz0 Gr xI XW vL apt rO Ah;go_wp2_with fail;obtain⟨wA,SQ⟩:=ex (w4.setCell ⟨w3.heap.size,0,none⟩ (.slice q1 l1.length c1));rw[SQ] at UQ QF Ao QR Hd ⊢;obtain⟨b,NY⟩:=ex (w3.heap.size);rw[NY] at UQ Vj ⊢;clear SQ yU hf4
    all_goals
     have auq:l1.length≤1000:=by
      rw[Ga.out];have:=pI A9 (Bi (l.take k)) name;rw[Ol,AL] at this;omega
     have aK:=Hi (show Up l1 from by rw[Ga.out];exact Sb _ _);have cxb:wA.cell? ⟨b,0,none⟩=some (.slice q1 l1.length c1):=cr UQ.out;have o8:wA.cell? ⟨ub,0,none⟩=some (.string (bs run)):=cr QR.out;have VZ:=Hi (fun(W:World) (hW:Bw wA W)=>yw (w:=W) ((AO.CG Hd).below hW) Ef (by omega) run);have vw:=Hi (fun(W:World) (hW:Bw wA W)=>(hW.block b (Ai UQ)).trans UQ);have apu:=Hi (fun(W:World) (hW:Bw wA W)=>(hW.block ub (Ai QR)).trans QR);have Sw:(l1.filter fun p=>!(p.1 == run)).length≤1000:=Ap (NB _ _) auq
     have Wn:=Hi (fun(w5:World) (q4:Option Addr) (c4 pb o:Nat) (ho:w5.heap.size=o) (Bf:Bw wA w5) (hp:w5.heap[pb]?=some (.cells #[.string (bs run),.string (bs s)] 75)) (Hl:AO w5 q4 (l1.filter fun p=>!(p.1 == run))) (dm:q4=none→c4=0) (LA:(l1.filter fun p=>!(p.1 == run)).length≤c4)=>
      show Calls prog 71 #[.slice (some ⟨o,0,none⟩) 2 2] (w5.alloc (.cells #[.slice q4 (l1.filter fun p=>!(p.1 == run)).length c4,.slice (some ⟨pb,0,none⟩) 1 1] 22)) fun e w'=>∃ q9 c9,e=.returned (.slice q9 (put run s l1).length c9)∧Bo w' wA.heap.size (.slice q9 (put run s l1).length c9) (put run s l1)∧Bw wA w'∧w'.cell? ⟨b,0,none⟩=some (.slice q1 l1.length c1)∧w'.frozen? ⟨b,0,none⟩=false from by
       subst ho;have h2:=AJ w5 (.cells #[.slice q4 (l1.filter fun p=>!(p.1 == run)).length c4,.slice (some ⟨pb,0,none⟩) 1 1] 22);have Cx:=Aw w5 (.cells #[.slice q4 (l1.filter fun p=>!(p.1 == run)).length c4,.slice (some ⟨pb,0,none⟩) 1 1] 22);generalize w5.alloc (.cells #[.slice q4 (l1.filter fun p=>!(p.1 == run)).length c4,.slice (some ⟨pb,0,none⟩) 1 1] 22)=w6 at*;refine(ayN (pr:=(run,s)) h2 ((Cx.block _ (Ai hp)).trans hp) (Hl.below Cx) dm LA Sw).mono ?_;rintro e w'⟨q9,c9,rfl,P8,Ff⟩;have Dr:=Bf.trans ((Cx.trans (Ff.mono Cx.size)).mono Bf.size);have hx9:=vw w' Dr;rw[al5 aK (run,s)] at P8 ⊢;exact⟨q9,c9,rfl,E9 P8 (Ap Bf.size Cx.size),Dr,cr hx9,CJ w' b 0 _ _ hx9⟩)
     have WY:=Aw wA (.cells #[.string (bs run),.string (bs s)] 75);have hnP:=AJ wA (.cells #[.string (bs run),.string (bs s)] 75);have Uz:=Hi WY;have aA:=Hi hnP;have aqR:(wA.alloc (.cells #[.string (bs run),.string (bs s)] 75)).drew.cell? ⟨ub,0,none⟩=some (.string (bs run)):=(WY.cell (p:=⟨ub,0,none⟩) (Ai QR)).trans o8;have aqU:(wA.alloc (.cells #[.string (bs run),.string (bs s)] 75)).drew.cell? ⟨b,0,none⟩=some (.slice q1 l1.length c1):=(WY.cell (p:=⟨b,0,none⟩) (Ai UQ)).trans cxb;clear WY hnP;clear KQ IC;refine ZT ?_
     go_region_law
      (first
       |(go_simp;go_at_call 82;refine(VZ _ ((Af _ wA).drew)).mono ?_;rintro e w4 ⟨v4,rfl,Hl,Ar⟩;obtain⟨q4,c4,rfl,dm,LA⟩:=Es Hl;have Ar:Bw wA w4:=((Af _ wA).drew).trans (Ar.mono (Ac _));have aqQ:w4.cell? ⟨ub,0,none⟩=some (.string (bs run)):=(Ar.cell (p:=⟨ub,0,none⟩) (Ai QR)).trans o8;go_wp2_with fail)
       |(go_simp;go_at_call 82;refine(VZ _ Uz.drew).mono ?_;rintro e w4 ⟨v4,rfl,Hl,Ar⟩;obtain⟨q4,c4,rfl,dm,LA⟩:=Es Hl;have hp4:w4.heap[wA.heap.size]?=some (.cells #[.string (bs run),.string (bs s)] 75):=(Ar.block _ (Ai aA)).trans aA.out;have Ar:Bw wA w4:=Uz.trans (((Af _ _).drew.trans (Ar.mono (Ac _))).mono Uz.size);have aqQ:w4.cell? ⟨ub,0,none⟩=some (.string (bs run)):=(Ar.cell (p:=⟨ub,0,none⟩) (Ai QR)).trans o8;go_wp2_with fail)
       |(go_simp;go_at_call 71;refine(Wn w4 q4 c4 _ _ rfl Ar hp4 (AO.CG Hl) dm LA).mono ?_;rintro e w9 ⟨q9,c9,rfl,P8,Ff,cx9,bO⟩;go_wp2_with fail)
       |(go_simp;go_at_call 71;refine(Wn _ q4 c4 _ _ (Aq _ _) (Ar.alloc Ar.size _) (AJ w4 _) ((AO.CG Hl).below (Aw w4 _)) dm LA).mono ?_;rintro e w9 ⟨q9,c9,rfl,P8,Ff,cx9,bO⟩;go_wp2_with fail))
     all_goals
      dsimp only[XD];have rP:=vw w9 Ff;have abB:=BU w9 b 0 _ _ (.slice q9 (put run s l1).length c9) rP;have aqT:(w9.setCell ⟨b,0,none⟩ (.slice q9 (put run s l1).length c9)).cell? ⟨b,0,none⟩=some (.slice q9 (put run s l1).length c9):=cr abB;have jU:=(A7.refl (fun j=>j=b) w9).setCell (p:=⟨b,0,none⟩) (.inl rfl) (.slice q9 (put run s l1).length c9);have KT:∀ k,k=b→¬ AA w9 k 75:=fun k e hb=>by
       obtain⟨cs,fr,hb⟩:=hb;rw[e,rP] at hb;injection hb with hb
       injection hb with _ hb
       exact absurd hb (by decide)
      have ahC:FR (w9.setCell ⟨b,0,none⟩ (.slice q9 (put run s l1).length c9)) w.heap.size w.heap.size L g:=by
       have ahE:=QF.below Ff;have hNB:¬ AA w9 w.heap.size 167:=ahE.Cv;obtain⟨⟨kv,h1,h2⟩,h3,h4,h6⟩:=ahE;exact⟨⟨kv,h1,h2.upd jU (fun e=>hNB (by rw[e];exact⟨_,_,rP⟩))⟩,h3,fun x hx=>Bh (h4 x hx) jU (fun j hj e=>KT j e (BQ (h4 x hx) hj)),h6⟩
      have ab1:=Bh (E9 P8 Ao.size) jU (fun j hj e=>KT j e (BQ P8 hj));have aap:=Ao.trans (Ff.mono Ao.size);have WX:=Ca aap jU (fun i e=>by rw[e];exact Vj) aap.size;have Sq:Bv A9 (Bi (l.take k)++[(run,s)]) name=put run s l1:=(by rw[Nf,Ab Li.out,←Ga.out]);have hsg:=HSG.out;rw[Ey.out,Sq] at hsg;obtain⟨aCl,ajV⟩:=hsg;have Rz:=Hi (afy (cap:=c9) (AO.CG ab1) (Cr.Qt (aK.put run s)) (by omega) ajV);have hfs:=Py.out;rw[Sq] at hfs;have fO:=Hi hfs
      have Pv:=Hi (show Ec A9 (Bi (l.take (k+1))) (Dep.putRow L name (put run s l1)) from by
       rw[Ey.out,←Li.out];exact axC Wp (by rw[Li.out,Sq]))
      have Tv:=Hi (@Fits.kP A9 (Bi (l.take k)) (run,s));have aeS:=Hi ahC;have XV:=Hi WX;have aes:=Hi ab1;have xJ:=Hi abB;have mF:=Hi Sq;obtain⟨IW,jY⟩:=ex (w9.setCell ⟨b,0,none⟩ (.slice q9 (put run s l1).length c9));rw[jY] at Rz aeS XV aes xJ aqT ⊢;clear jY rP abB jU KT ahC ab1 aap WX Sq ajV hfs P8 Ff cx9 bO Hl Ar dm LA Wn VZ vw apu Uz aA aqR aqU cxb o8 Be;generalize put run s l1=l2 at*;by_cases Dv:(BG l2).isSome=true
      ·rw[Ab Dv] at Rz
       have QG:=Hi (show Fits A9 (Bi (l.take (k+1))) from by
        rw[Ey.out];refine Tv.2 ⟨Ky,?_⟩;rw[Li.out,mF.out];exact Dv)
       generalize (BG l2).getD []=ct at*;clear Dv;go_wp2_with fail;refine Rz.mono ?_;rintro e VR⟨rfl,Vh⟩;have akc:=(Vh.block _ (Ai xJ)).trans xJ.out;have aBi:VR.cell? ⟨b,0,none⟩=some (.slice q9 l2.length c9):=cr akc;obtain⟨uM,aCj,ahA,aiA⟩:=(aeS.below Vh).put (name:=name) (by rw[Ee];decide) (C9 aes Vh) (by unfold maxLen;omega);have QW:=(XV.trans (Vh.mono XV.size)).grown aiA (XV.trans (Vh.mono XV.size)).size (fun k e=>Nat.le_of_eq (G7 e));have CU:=Hi (show yc w w.heap.size l (.int .i64 ((k:Int)+1)) uM from⟨k+1,_,_,by omega,by go_num,ahA,Pv,QW,QG,x8⟩);generalize l2.length=n2 at*;clear Vh akc ahA aiA QW;go_wp2_with fail;go_roundw
       case rel=>exact CU.out
       case measure=>
        show l.length -((k:Int)+1).toNat < l.length -((k:Int)).toNat
        omega
      ·rw[Aa Dv] at Rz;have UH:=Hi (H5 (fun h=>Dv (fO h.2)));generalize (BG l2).getD []=ct at*;generalize l2.length=n2 at*;clear Dv;go_wp2_with fail;refine Rz.mono ?_;rintro e VR⟨rfl,Vh⟩;have HQ:=Hi (UH VR (XV.trans (Vh.mono XV.size)));clear Vh;go_wp2_with fail;go_ret;exact⟨5,rfl,HQ⟩
  ·obtain rfl:k=l.length:=(by omega);have BO:=Ky.out;have Np:=Yh.out;have Gh:=Wp.out;rw[CY] at BO Np Gh;have Si:L.length≤100000:=by
    have:=tF Gh;rw[Ol] at this;omega
   have e1:=Gh.ib;have e2:=Gh.fits BO
   have Rw:=Hi (afN (Q:=Q) (HM.below HB) HE (fun x hx=>by
    have h1:=NR l.length x.1;rw[CY] at h1;rw[Gh.rows x hx];exact⟨Cr.Qt (Sb _ _),Ap h1.1 (by decide),h1.2⟩) (fun x hx=>by
    obtain⟨z,_,hz⟩:=Bz.1 ((Gh.names x.1).1 (Gm hx));rw[←hz,ig];decide) Si (fun h=>absurd e2 h) (fun _ W q c hW Vl=>by
    rw[e1] at Vl ⊢;exact HC ⟨Np,BO⟩ W q c (HB.trans (hW.mono HB.size)) Vl))
   clear BO Np Gh e1 e2;go_wp2_with fail;refine Rw.mono ?_;rintro e w9⟨cc,rfl,Vt⟩;go_wp2_with fail;go_ret;exact⟨cc,rfl,Vt⟩
end Dep
end Go.Proofs.YtmbbhdebddbhoaaGreat
