/- ManE RDep RUse RSet SwMk -/
import Derived.Test.YtkmninbcgipliaaGreatDoorQ18
set_option maxHeartbeats 8000000
set_option maxRecDepth 100000
set_option linter.all false
namespace Go.Proofs.YtkmninbcgipliaaGreatDoor
open Go.Proofs.Tryz
open Go.RowKit
open Go.Maps
namespace Ap
open Aq Af
section
variable {B:Nat}{w0 w w':World}{b y n N:Nat}{A A':M}
def nU(w w':World):Prop:=∀ (base:Nat) (v:Value) (l:List T),Bq w base v l→Bq w' base v l
theorem nU.upd{bl:Nat→Prop}(hu:A7 (Ig w bl) w w'):nU w w':=fun _ _ _ h=>BH h hu (fun _ hg e=>e.not (CB h hg) (by decide))
end
end Ap
namespace Ap
open Aq Af
structure ES(B:Nat)(w0 W:World)(b y n N:Nat)(A:M)(L:List (Nat×Obj)):Prop where
 x:Vn B w0 W b y n N A (fun k=>∃ o,(k,o)∈L)
 at_:∀ k o,(k,o)∈L→W.heap[k]?=some o
section
variable {B:Nat}{w0 w w':World}{b y n N:Nat}{A A':M}{L:List (Nat×Obj)}
theorem ES.of(h:MyF B w0 w b y n N A):ES B w0 w b y n N A []:=by
 obtain⟨h1,h2,bl,h3,h4⟩:=h;exact⟨⟨h1,h2,fun k hk=>by obtain⟨o,ho⟩:=hk;simp at ho,bl,h3,fun k hk=>⟨h4 k hk,fun⟨o,ho⟩=>by simp at ho⟩⟩,fun k o h=>by simp at h⟩
theorem ES.AQ(h:ES B w0 w b y n N A L):Below B w0 w:=h.x.1
theorem ES.step(h:ES B w0 w b y n N A L)(hb:Bw w w'):ES B w0 w' b y n N A L:=
 ⟨h.x.step hb,fun k o ho=>(hb.block k (Dm.1 (h.at_ k o ho)).1).trans (h.at_ k o ho)⟩
theorem ES.cell(h:ES B w0 w b y n N A L){k:Nat}{cs:Array Value}{t:TypeId}(hm:(k,.cells cs t)∈L)(i:Nat):w.cell? ⟨k,i,none⟩=cs[i]? :=BF w k i cs t _ (h.at_ _ _ hm)
theorem ES.pick(h:ES B w0 w b y n N A L):∃ bl,Sg w b y bl n N A∧(∀ k,bl k→k < w.heap.size)∧∀ {N':Nat} {A':M} {w':World},Goes w b y bl n N' A' w'→ES B w0 w' b y n N' A' L∧nU w w':=by
 obtain⟨⟨h1,h2,hx,bl,h3,h4⟩,ha⟩:=h;refine⟨_,h3.shrink,fun k hk=>hk.2,fun {N' A' w'} ⟨CP,g1,g2,g3⟩=>?_⟩;obtain⟨k1,k2⟩:=Vn.turn h1 h2 hx (fun k hk=>h4 k hk.1) g1 g2 g3;exact⟨⟨k1,fun k o ho=>(k2 k ⟨o,ho⟩).trans (ha k o ho)⟩,nU.upd g2⟩
theorem kU(h:ES B w0 w b y n N A L):Up A∧Af.Good A∧used A≤Cn n:=by
 obtain⟨bl,h1,h3,h2⟩:=h.pick;exact⟨h1.up.1,h1.up.2.1,h1.up.2.2.1⟩
end
end Ap
namespace Ap
open Aq Af
theorem aws{w:World}{base:Nat}(hb:base≤w.heap.size)(l:List T)(hl:l.length≤1000)(cs:Array Value)(hc:cs=(strCells l).toArray){g n:Nat}(hg:w.heap.size=g)(hn:l.length=n):Bq (w.alloc (.cells cs 9)) base (.slice (some ⟨g,0,none⟩) n n) l:=by
 subst hc hg hn;have:=World.ownsRow_lit (base:=base) (e:=9) (size:=1) w (strCells l).toArray l.length hb (by unfold maxLen;omega) (by simp[strCells]);exact this
end Ap
namespace Ap
abbrev T:=List UInt8
end Ap
namespace Ap
open Aq Af
theorem axS{l:List T}{x:T}{k:Nat}(hk:k < l.length)(h:∀ j,(hj:j < l.length)→j < k→l[j] < x)(hx:¬ l[k] < x):
  l.takeWhile (fun y=>decide (y < x))=l.take k∧l.dropWhile (fun y=>decide (y < x))=l.drop k:=by
 induction l generalizing k with
 |nil=>simp at hk
 |cons y l ih=>
  cases k with
  |zero=>
   have:¬ y < x:=hx;rw[List.takeWhile_cons_of_neg (by simpa using this),List.dropWhile_cons_of_neg (by simpa using this)];exact⟨rfl,rfl⟩
  |succ k=>
   have h0:y < x:=h 0 (by simp) (by omega);obtain⟨g1,g2⟩:=ih (k:=k) (by simpa using hk) (fun j hj Xw=>h (j+1) (by simpa using hj) (by omega)) hx;rw[List.takeWhile_cons_of_pos (by simpa using h0),List.dropWhile_cons_of_pos (by simpa using h0),g1,g2];exact⟨rfl,rfl⟩
theorem axR{l:List T}{x:T}(h:∀ j,(hj:j < l.length)→l[j] < x):l.takeWhile (fun y=>decide (y < x))=l∧l.dropWhile (fun y=>decide (y < x))=[]:=by
 induction l with
 |nil=>exact⟨rfl,rfl⟩
 |cons y l ih=>
  have h0:y < x:=h 0 (by simp);obtain⟨g1,g2⟩:=ih (fun j hj=>h (j+1) (by simpa using hj));rw[List.takeWhile_cons_of_pos (by simpa using h0),List.dropWhile_cons_of_pos (by simpa using h0),g1,g2];exact⟨rfl,rfl⟩
theorem alD{l:List T}{x:T}{k:Nat}(hk:k≤l.length)(h:∀ j,(hj:j < l.length)→j < k→l[j] < x)(hx:∀ hk:k < l.length,¬ l[k] < x):
  JM l x=if(∃ hk:k < l.length,l[k]=x) then l else l.take k++[x]++l.drop k:=by
 unfold JM;by_cases hlt:k < l.length
 ·obtain⟨g1,g2⟩:=axS hlt h (hx hlt);rw[g1,g2,List.head?_drop,Ei hlt];by_cases he:l[k]=x
  ·rw[Ac (by rw[he]),Ac ⟨hlt,he⟩,Mw]
  ·rw[Aa (by simpa using he),Aa (fun⟨_,e⟩=>he e)];simp
 ·obtain rfl:k=l.length:=by omega
  obtain⟨g1,g2⟩:=axR (fun j hj=>h j hj hj);rw[g1,g2,Aa (by simp),Aa (fun⟨e,_⟩=>hlt e)];simp
def Ua(q:Option Addr)(cap k:Nat):Option Addr:=if cap=k then q else q.map (·.add k)
theorem azF(P:Program)(W:World)(t e:TypeId)(i:TypeInfo)(hu:P.underlying t=some (.slice e))(hi:P.info? e=some i)(q:Option Addr)(n cap k:Nat)(hk:k≤n)(hc:n≤cap):
  (Instr.slice t (.slice q n cap) none (some (.int .i64 (k:Int))) none).run P W=.ok (.slice q k cap) W:=by
 cases q<;>simp[Instr.slice,GK hu,Instr.sliceBounds,sizeOf,typeInfo,hi,go_sem]<;>omega
theorem azE(P:Program)(W:World)(t e:TypeId)(i:TypeInfo)(hu:P.underlying t=some (.slice e))(hi:P.info? e=some i)(hs:i.size=1)(q:Option Addr)(n cap k:Nat)(hk:k≤n):
  (Instr.slice t (.slice q n cap) (some (.int .i64 (k:Int))) none none).run P W=.ok (.slice (Ua q cap k) (n -k) (cap -k)) W:=by
 cases q
 ·simp[Instr.slice,GK hu,Instr.sliceBounds,sizeOf,typeInfo,hi,go_sem,Ua];exact fun h=>absurd h (by omega)
 ·simp[Instr.slice,GK hu,Instr.sliceBounds,sizeOf,typeInfo,hi,hs,go_sem,Ua];exact fun h=>absurd h (by omega)
theorem ani{w:World}{q:Option Addr}{l:List T}(h:Dv w q l)(k:Nat):Dv w q (l.take k):=fun i hi=>by
 rw[Be] at hi;obtain⟨p,hp,hc⟩:=h i (by omega);exact⟨p,hp,by rw[hc,List.getElem_take]⟩
theorem anh{w:World}{q:Option Addr}{l:List T}(h:Dv w q l){cap k:Nat}(hk:k≤l.length)(hc:l.length≤cap):Dv w (Ua q cap k) (l.drop k):=fun i hi=>by
 rw[Cs] at hi;obtain⟨p,hp,BJ⟩:=h (k+i) (by omega);refine⟨p.add k,?_,?_⟩
 ·unfold Ua;rw[Aa (by omega),hp];rfl
 ·rw[Addr.add_add,BJ,List.getElem_drop]
theorem amk{w:World}{base Ub:Nat}{v:Value}{l:List T}(h:Bq w base v l)(hb:Ub≤base):Bq w Ub v l:=by
 refine⟨h.1,?_⟩;rcases h.2 with h2|⟨g,cap,cur,e0,Gh,h3⟩
 ·exact .inl h2
 ·exact .inr ⟨g,cap,cur,e0,Ay hb Gh,h3⟩
section
variable {w w':World}
theorem ay1{base:Nat}{v:Value}{l:List T}(x:T)(h:Bq w base v l)(hb:base≤w.heap.size)(hl:l.length≤100000):
  Calls prog 249 #[v,.string (bs x)] w fun e w'=>∃ v',e=.returned v'∧Bq w' base v' (JM l x)∧Bw w w':=by
 obtain⟨q,cap,rfl⟩:=Bp h;have GD:=I6 h;have Zl:l.length≤cap:=by
  rcases h.parts with⟨e,e2⟩|⟨_,cap',e,_,hc,_⟩
  ·rw[e2];exact AZ _
  ·injection e with _ _ e;rw[e];exact hc
 have GY:q=none→cap=0:=fun e=>by
  rcases h.parts with⟨e1,_⟩|⟨_,cap',e1,_⟩
  ·injection e1
  ·injection e1 with e1;rw[e1] at e;cases e
 obtain⟨i0,Bg,AX,AY,Ba⟩:=DI acR;have VQ:∀ (W:World) (k:Nat),k≤l.length→(Instr.slice 61 (.slice q l.length cap) none (some (.int .i64 (k:Int))) none).run prog W=.ok (.slice q k cap) W:=fun W k hk=>azF prog W _ 9 i0 underlying61 Bg q l.length cap k hk Zl
 have OE:∀ (W:World) (k:Nat),k≤l.length→(Instr.slice 61 (.slice q l.length cap) (some (.int .i64 (k:Int))) none none).run prog W=.ok (.slice (Ua q cap k) (l.length -k) (cap -k)) W:=fun W k hk=>azE prog W _ 9 i0 underlying61 Bg AY q l.length cap k hk
 have HSF:=Hi VQ;have Rf:=Hi OE;have mW:=Hi Zl;have nJ:=Hi GY;clear VQ OE Zl GY;have H:=Hi h;clear h
 go_in
 go_wp2
 go_loop [5] (fun i=>∃ k:Nat,k≤l.length∧i=.int .i64 (k:Int)∧∀ j,(hj:j < l.length)→j < k→l[j] < x) (fun i=>l.length -(intOf i).toNat)
 case atStart=>exact⟨0,AZ _,rfl,fun j _ e=>by omega⟩
 case round=>
  obtain⟨k,hk,rfl,hall⟩:=hrel;have Gv:=Hi hall;clear hall;by_cases hlt:k < l.length
  ·obtain⟨qk,GX,Fp⟩:=GD.index cap k hlt;obtain⟨X,hX⟩:=ex (l[k]);rw[hX] at Fp;have HX:=Hi hX;clear hX;by_cases qy:X < x
   ·have Ct:Op.bytesLess X x=true:=(by rw[Go.Proofs.bytesLess_eq];simpa using qy);go_wp2_with fail;refine⟨⟨k+1,by omega,by go_num,fun j hj Xw=>?_⟩,by simp[intOf];omega⟩;by_cases e:j=k
    ·subst e;rw[HX.out];exact qy
    ·exact Gv j hj (by omega)
   ·have Ct:Op.bytesLess X x=false:=(by rw[Go.Proofs.bytesLess_eq];simpa using qy);have dM:=alD (l:=l) (x:=x) hk Gv (fun _=>by rw[HX.out];exact qy);by_cases qx:X=x
    ·have HP:=Hi (show JM l x=l by rw[dM,Ac ⟨hlt,by rw[HX.out,qx]⟩]);subst qx;clear dM;go_wp2;go_ret;exact⟨_,rfl,by rw[HP.out];exact H.out,Ah _ _⟩
    ·have HP:=Hi (show JM l x=l.take k++[x]++l.drop k by rw[dM,Aa (fun⟨_,e⟩=>qx (by rw[←HX.out,e]))]);have aCq:(X == x)=false:=(by simpa using qx);clear dM;have VQ:=fun W=>HSF W k hk
     have OE:=fun W=>Rf W k hk
     go_wp2_with (first
      |(at_builtin;refine uY rfl _ _ rfl w.heap.size (.slice none 0 0) [] (l.take k) rfl (by unfold Bq;rw[LG];exact E5 _ _ _ _) q cap (by rw[Be,Jc hk];rfl) (ani GD k) nJ (by rw[Be,Iu];omega) (Ae _) ?_;intro v1 w1 DL MQ VF;rw[Ev] at DL;unfold Bq at DL;rw[Be,Jc hk] at DL;obtain⟨q1,Vu,rfl⟩:=Bp DL;have CW:=Hi DL;have HB1:=Hi (((Ah _ w).grown MQ (Ae _) (fun j e=>by cases e)));clear DL MQ VF)
      |(at_builtin;refine wpList_append_own_at _ rfl _ _ 61 rfl w.heap.size 9 i0 _ 1 16 underlying61 Bg AX AY Ba rfl (by decide) (.slice q1 k Vu) k (strCells (l.take k)) rfl (CW.alloc _) ⟨w1.heap.size,0,none⟩ 1 1 [.string (bs x)] rfl rfl (cell_one_new _ _ _) (by simp[Value.oneCell']) (by unfold maxLen;omega) (by omega) (by rw[Ar];have:=HB1.size;omega) ?_;intro v2 w2 Dj El _ VG;obtain⟨g2,cap2,rfl⟩:=ownsRow_succ Dj;have P9:=Hi Dj;have Ak:=Hi ((HB1.alloc HB1.size (.cells #[.string (bs x)] 9)).grown El (by rw[Ar];have:=HB1.size;omega) (fun j hj=>Ec CW hj));clear Dj El VG)
      |(at_builtin;refine uY rfl _ _ rfl w.heap.size (.slice (some ⟨g2,0,none⟩) (k+1) cap2) (l.take k++[x]) (l.drop k) rfl (by unfold Bq;rw[Az,Be,Jc hk,RV];exact P9.out) (Ua q cap k) (cap -k) (by rw[Cs];rfl) ((anh GD hk mW).below Ak) (fun e=>by have:=nJ.out;unfold Ua at e;split at e;omega;cases q with|none=>have:=this rfl;omega|some _=>cases e) (by rw[Az,Be,Cs,Kn];omega) Ak.size ?_;intro v3 w3 JI Xu jw;have Ob:=Hi JI;have AA:=Hi (Ak.grown Xu Ak.size (fun j hj=>Ec P9 hj));clear JI Xu jw))
     go_ret;exact⟨_,rfl,by rw[HP.out];exact amk Ob hb,AA⟩
  ·have HP:=Hi (show JM l x=l.take k++[x]++l.drop k by rw[alD (l:=l) (x:=x) hk Gv (fun e=>absurd e hlt),Aa (fun⟨e,_⟩=>hlt e)]);have VQ:=fun W=>HSF W k hk
   have OE:=fun W=>Rf W k hk
   go_wp2_with (first
    |(at_builtin;refine uY rfl _ _ rfl w.heap.size (.slice none 0 0) [] (l.take k) rfl (by unfold Bq;rw[LG];exact E5 _ _ _ _) q cap (by rw[Be,Jc hk];rfl) (ani GD k) nJ (by rw[Be,Iu];omega) (Ae _) ?_;intro v1 w1 DL MQ VF;rw[Ev] at DL;unfold Bq at DL;rw[Be,Jc hk] at DL;obtain⟨q1,Vu,rfl⟩:=Bp DL;have CW:=Hi DL;have HB1:=Hi (((Ah _ w).grown MQ (Ae _) (fun j e=>by cases e)));clear DL MQ VF)
    |(at_builtin;refine wpList_append_own_at _ rfl _ _ 61 rfl w.heap.size 9 i0 _ 1 16 underlying61 Bg AX AY Ba rfl (by decide) (.slice q1 k Vu) k (strCells (l.take k)) rfl (CW.alloc _) ⟨w1.heap.size,0,none⟩ 1 1 [.string (bs x)] rfl rfl (cell_one_new _ _ _) (by simp[Value.oneCell']) (by unfold maxLen;omega) (by omega) (by rw[Ar];have:=HB1.size;omega) ?_;intro v2 w2 Dj El _ VG;obtain⟨g2,cap2,rfl⟩:=ownsRow_succ Dj;have P9:=Hi Dj;have Ak:=Hi ((HB1.alloc HB1.size (.cells #[.string (bs x)] 9)).grown El (by rw[Ar];have:=HB1.size;omega) (fun j hj=>Ec CW hj));clear Dj El VG)
    |(at_builtin;refine uY rfl _ _ rfl w.heap.size (.slice (some ⟨g2,0,none⟩) (k+1) cap2) (l.take k++[x]) (l.drop k) rfl (by unfold Bq;rw[Az,Be,Jc hk,RV];exact P9.out) (Ua q cap k) (cap -k) (by rw[Cs];rfl) ((anh GD hk mW).below Ak) (fun e=>by have:=nJ.out;unfold Ua at e;split at e;omega;cases q with|none=>have:=this rfl;omega|some _=>cases e) (by rw[Az,Be,Cs,Kn];omega) Ak.size ?_;intro v3 w3 JI Xu jw;have Ob:=Hi JI;have AA:=Hi (Ak.grown Xu Ak.size (fun j hj=>Ec P9 hj));clear JI Xu jw))
   go_ret;exact⟨_,rfl,by rw[HP.out];exact amk Ob hb,AA⟩
theorem ay4(l:List T)(x:T):(JM l x).length≤l.length+1:=by
 induction l with
 |nil=>simp[JM]
 |cons y l ih=>
  rw[aci];split
  ·simpa using ih
  ·split<;>simp
theorem acw{q:Option Addr}{cap:Nat}{l:List T}(h:Dv w q l)(hl:l.length≤50000):
  Calls prog 195 #[.slice q l.length cap] w fun e w'=>∃ v',e=.returned v'∧Bq w' w.heap.size v' (acx l)∧Bw w w':=by
 have H:=Hi h;clear h
 go_in
 go_wp2
 go_loopw [3,4] (fun ov i wr=>∃ (k:Nat) (o:List T),k≤l.length∧i=.int .i64 (k:Int)∧o=(l.take k).foldl JM []∧o.length≤k∧Bq wr w.heap.size ov o∧Bw w wr) (fun _ i _=>l.length -(intOf i).toNat)
 case atStart=>exact⟨0,[],AZ _,rfl,rfl,Ae _,by unfold Bq;rw[LG];exact E5 _ _ _ _,Ah _ _⟩
 case round=>
  obtain⟨k,o,hk,rfl,ho,hok,Ag,hb⟩:=hrel;have HO:=Hi ho;have HR:=Hi Ag;have HB:=Hi hb;clear ho Ag hb;by_cases hlt:k < l.length
  ·obtain⟨qk,GX,Fp⟩:=(H.below HB).index cap k hlt;obtain⟨X,hX⟩:=ex (l[k]);rw[hX] at Fp;have HX:=Hi hX;clear hX;go_wp2_with fail;refine(ay1 X HR HB.size (by omega)).mono ?_;rintro e w1⟨v1,rfl,DL,Ai⟩;have CW:=Hi DL;have HB1:=bH HB Ai;clear DL Ai;go_wp2_with fail;refine⟨⟨k+1,JM o X,by omega,by go_num,?_,?_,CW,HB1⟩,by simp[intOf];omega⟩
   ·rw[CQ hlt,List.foldl_append,←HO.out,HX.out];rfl
   ·have:=ay4 o X;omega
  ·obtain rfl:k=l.length:=(by omega);go_wp2;go_ret;refine⟨_,rfl,?_,HB⟩;have e:=HO.out;rw[Dq] at e;unfold acx;rw[←e];exact HR.out
end
end Ap
section
open Aq
theorem az0(l:List (List UInt8))(a:Option Addr)(cap:Nat)(w:World)(hl:Dv w a l)(hlen:l.length≤maxLen)(Fj:l.length≤10000):
  Calls prog 194 #[.slice a l.length cap] w fun e w'=>e=.returned (.tuple #[.string (bs (D5 l).1),.int .i64 (D5 l).2])∧Bw w w':=by
 unfold maxLen at hlen;by_cases bW:65535 < l.length
 ·have hR:Hid (D5 l=([],5)):=Hi (by unfold D5 Gt;rw[Aa (by omega)]);rw[hR.out];clear hl
  go_in
  go_wp2_with fail;all_goals
   go_ret2;exact⟨rfl,Ah _ _⟩
 ·have HL:=Hi hl;clear hl
  go_in
  go_wp2_with fail;refine(tJ l.length 2 _ (by omega) (by decide)).mono ?_;rintro e w1⟨rfl,hb⟩;have HB1:=Hi hb;clear hb;go_wp2
  go_loopw [4,5] (fun v i wr=>∃ (k:Nat),k≤l.length∧i=.int .i64 k∧nZ l k v∧Bw w wr) (fun _ i _=>l.length -(intOf i).toNat)
  case atStart=>exact⟨0,by omega,rfl,⟨[],by rw[En],rfl⟩,HB1⟩
  case round=>
   clear HB1;obtain⟨k,hk,rfl,⟨S,rfl,hS⟩,hb⟩:=hrel;have HS:=Hi hS;have HB:=Hi hb;clear hS hb;by_cases hlt:k < l.length
   ·obtain⟨q,Jm,hq⟩:=(HL.below HB).index cap k hlt;have GU:=acX HS.out;rw[Be] at GU;have KE:=Hi (acY hlt HS);by_cases Om:65535 < l[k].length
    ·have hR:Hid (D5 l=([],5)):=Hi (by unfold D5 Gt;rw[Ac (by omega),uL hlt Om];rfl);clear GU;generalize l[k]=x at*;go_wp2_with fail;refine(lF x _ Om).mono ?_;rintro e w3⟨rfl,rfl⟩;go_wp2;go_ret2;rw[hR.out];exact⟨rfl,HB⟩
    ·have IK:l[k].length≤65535:=(by omega);have hle:S.length+l[k].length≤1000000000:=(by have:=Nat.mul_le_mul_right 65537 (show min k l.length≤10000 by omega);omega);clear GU Om;generalize l[k]=x at*;go_wp2_with fail;refine(lG x _ IK).mono ?_;rintro e w3⟨rfl,Aw⟩;have AA:=bH HB Aw;clear Aw hq;go_wp2;go_roundw
     case rel=>exact⟨k+1,by omega,by go_num,nZ.next KE IK rfl,AA⟩
     case measure=>simp[intOf];omega
   ·obtain rfl:k=l.length:=by omega
    have hR:Hid (D5 l=(A9.le 2 l.length++S,0)):=Hi (by
     have h:=HS.out;rw[Dq] at h;unfold D5 Gt;rw[Ac (by omega),h];rfl)
    go_wp2;go_ret2;rw[hR.out];exact⟨rfl,HB⟩
end
namespace Cg
open Aq Af Bu Kp BM Hex BD Mem
open Ap hiding T
theorem acA(k:T)(w:World)(hk:k.length≤1000000):Calls prog 113 #[.string (bs k)] w fun e w'=>e=.returned (.string (bs (Ab.nm k)))∧Bw w w':=by
 have hm:({ data:=#[117] }:ByteArray)=bs [117]:=rfl;have hcut:∀ W,(Instr.slice 9 (.string (bs (EO k))) none (some (.int .i64 8)) none).run prog W=.ok (.string (bs ((EO k).take 8))) W:=fun W=>O1 prog W 9 underlying9 (EO k) 8 (by rw[TG];omega)
 have Lp:((EO k).take 8).length=8:=by rw[Be,TG];rfl
 have HH:=Hi (fun(W:World)=>acv ((EO k).take 8) W (by rw[Lp];omega) (by rw[Lp];omega));have hhl:(Er ((EO k).take 8)).length≤16:=by rw[Rx,Lp];omega
 have HE:=Hi (show[117]++Er ((EO k).take 8)=Ab.nm k from rfl);generalize Er ((EO k).take 8)=hx at*;generalize (EO k).take 8=sk at*;clear Lp
 go_in
 go_wp2_with fail;refine(amq k (by omega) _).mono ?_;rintro e w1⟨rfl,Ai⟩;have HB1:=Hi Ai;clear Ai;go_wp2_with fail;refine(HH _).mono ?_;rintro e w2⟨rfl,Ad⟩;have Ak:=bH HB1 Ad;clear Ad;go_wp2;go_ret;exact⟨by rw[←HE.out];rfl,Ak⟩
theorem ayn{w:World}{a:Option Addr}{cap:Nat}{l:M}(h:Bj w a l)(hs:CR l)(hl:l.length≤60000)(DC:rowLen (flat l)≤1000000000):
  Calls prog 115 #[.slice a l.length cap] w fun e w'=>e=.returned (.tuple #[.string (bs ((BS l).getD [])),.int .i64 (if(BS l).isSome=true then 0 else 5)])∧Bw w w':=by
 have G7:=Hi (amn (cap:=cap) h hs hl DC);by_cases C9:(BS l).isSome=true
 ·rw[Ac C9];obtain⟨he,hlen⟩:=WZ.1 C9;have TQ:=Hi (oD C9);rw[TQ.out];rw[he] at G7;generalize (Ef l).1=s at*;have Tc:decide (65535 < (s.length:Int)+4)=false:=decide_eq_false (by omega);have Io:IntKind.i64.wrap ((s.length:Int)+4)=(s.length:Int)+4:=Eh _ (by omega);have YH:=Hi (fun W=>uz s W (by omega));clear he C9 hlen h hs DC TQ
  go_in
  go_wp2_with fail;refine G7.mono ?_;rintro e w3⟨rfl,Aw⟩;have AA:=Hi Aw;clear Aw;go_wp2_with fail;refine(YH _).mono ?_;rintro e w4⟨rfl,AB⟩;have AU:=bH AA AB;clear AB;go_wp2;go_ret2;exact⟨rfl,AU⟩
 ·rw[Aa C9];have hn:(BS l).getD []=[]:=by
   cases hc:BS l with
   |none=>rfl
   |some d=>rw[hc] at C9;simp at C9
  rw[hn];by_cases he:(Ef l).2=0
  ·have hlen:¬ (Ef l).1.length+4≤65535:=fun h=>C9 (WZ.2 ⟨he,h⟩)
   rw[he] at G7;have OE:=tZ l he DC;generalize (Ef l).1=s at*;have Tc:65535 < (s.length:Int)+4:=(by omega);have Io:IntKind.i64.wrap ((s.length:Int)+4)=(s.length:Int)+4:=Eh _ (by omega);clear he C9 h hs DC hn
   go_in
   go_wp2_with fail;refine G7.mono ?_;rintro e w3⟨rfl,Aw⟩;have AA:=Hi Aw;clear Aw;go_wp2;go_ret2;exact⟨rfl,AA⟩
  ·have Bb:((Ef l).2 == 0)=false:=EH.2 he;generalize Ef l=V at*;clear C9 h hs DC hn
   go_in
   go_wp2_with fail;refine G7.mono ?_;rintro e w3⟨rfl,Aw⟩;have AA:=Hi Aw;clear Aw;go_wp2;go_ret2;exact⟨rfl,AA⟩
def aeQ(w:World)(l:M)(run:T)(o i:Value)(wr:World):Prop:=∃ (k:Nat) (O:M) (q:Option Addr) (c:Nat),k≤l.length∧i=.int .i64 (k:Int)∧o=.slice q O.length c∧O=(l.take k).filter (fun p=>!(p.1 == run))∧BK wr w.heap.size (.slice q O.length c) O∧Bw w wr
theorem azh{w:World}{q:Option Addr}{cap:Nat}{l:M}(run:T)(h:Bj w q l)(hl:l.length≤1000000):
  Calls prog 117 #[.slice q l.length cap,.string (bs run)] w fun e w'=>∃ q c,e=.returned (.slice q (l.filter fun p=>!(p.1 == run)).length c)∧BK w' w.heap.size (.slice q (l.filter fun p=>!(p.1 == run)).length c) (l.filter fun p=>!(p.1 == run))∧Bw w w':=by
 obtain⟨i0,Bg,AX,AY,Ba⟩:=DI RO;have HH:=Hi h;clear h
 go_in
 go_wp2
 go_loopw [5,6] (fun o i wr=>aeQ w l run o i wr) (fun _ i _=>l.length -(intOf i).toNat)
 case atStart=>exact⟨0,[],none,0,AZ _,rfl,rfl,rfl,Wl _ _,Ah _ _⟩
 case round=>
  obtain⟨k,O,qo,co,hk,rfl,rfl,hO,Ag,hb⟩:=hrel;have HO:=Hi hO;have Co:=Hi Ag;have HB:=Hi hb;have QD:O.length≤1000000:=by
   rw[hO];have:=LK (fun p:T×T=>!(p.1 == run)) (l.take k);rw[Be] at this;omega
  clear hO Ag;by_cases hlt:k < l.length
  ·obtain⟨a,Cx,hp,-⟩:=(HH.below hb).index cap k hlt;have c0:=hp.key;have c1:=hp.val;have CX:=Hi (CQ hlt);generalize l[k]=x at*;have hbs:=hb.size;clear hp hb;by_cases hx:x.1=run
   ·have bV:(x.1 == run)=true:=(by simpa using hx);have HN:=Hi (show O=(l.take (k+1)).filter (fun p=>!(p.1 == run)) from by rw[CX.out,LJ,←HO.out];simp[hx]);clear hx;go_wp2;go_roundw
    case rel=>exact⟨k+1,O,qo,co,by omega,by go_num,rfl,HN,Co,HB⟩
    case measure=>
     show l.length -((k:Int)+1).toNat < l.length -((k:Int)).toNat
     omega
   ·have bV:(x.1 == run)=false:=(by simpa using hx);have HN:=Hi (show O++[x]=(l.take (k+1)).filter (fun p=>!(p.1 == run)) from by rw[CX.out,LJ,←HO.out];simp[hx]);clear hx;go_wp2_with (at_builtin;refine wpList_append_own_at _ rfl _ _ 30 rfl w.heap.size 51 i0 _ 2 32 underlying30 Bg AX AY Ba rfl (by decide) _ O.length _ rfl (Co.alloc _) ⟨wr.heap.size,0,none⟩ 1 1 [.string (bs x.1),.string (bs x.2)] rfl rfl (by intro j u hj;rw[add_plain,E8];exact(Dx▸hj)) (by simp[Value.oneCell']) (by unfold maxLen;omega) (by omega) (by simp;omega) ?_;intro v' w4 Ck AJ _ hat;obtain⟨gg,cap2,rfl⟩:=ownsRow_succ Ck;have Sz:=Hi Ck;have HG:=Hi AJ;clear Ck AJ hat)
    have Cz:=Hi (show aeQ w l run (.slice (some ⟨gg,0,none⟩) (O.length+1) cap2) (.int .i64 ((k:Int)+1)) w4 from⟨k+1,O++[x],some ⟨gg,0,none⟩,cap2,by omega,by go_num,by rw[Az];rfl,HN,by unfold BK;rw[Az,Uf];exact Sz.out,
     (HB.alloc HB.size _).grown HG (by rw[Ar];omega) (fun j e=>Ec Co e)⟩)
    go_roundw
    case rel=>exact Cz.out
    case measure=>
     show l.length -((k:Int)+1).toNat < l.length -((k:Int)).toNat
     omega
  ·obtain rfl:k=l.length:=(by omega);have hO:=HO.out;rw[Dq] at hO;subst hO;clear hb;go_wp2;go_ret;exact⟨_,_,rfl,Co,HB⟩
theorem axL{fn:Func}{q u:Tmp}(h:fn.results=#[.cell q 51,.tmp u])(tmps:Array Value)(w:World)(g:Nat)(a b:Value)(hq:tmps.getD q undef=.pointer (some ⟨g,0,none⟩))(c0:w.cell? ⟨g,0,none⟩=some a)(c1:w.cell? ⟨g,1,none⟩=some b):
  (results fn tmps).run prog w=.ok (.tuple #[.agg #[a,b],tmps.getD u undef]) w:=by
 rw[results_cell_tmp h,hq];go_simp
theorem ayU{w:World}{run:T}{keys:List T}{kq:Option Addr}{kc:Nat}(h:Dv w kq keys)(hl:keys.length≤10000):
  Calls prog 112 #[.agg #[.string (bs run),.slice kq keys.length kc]] w fun e w'=>e=.returned (.tuple #[.agg #[.string (bs run),.string (bs (D5 (Bc keys)).1)],.int .i64 (D5 (Bc keys)).2])∧Bw w w':=by
 obtain⟨V,hV⟩:∃ V,(w.alloc (.cells #[.string (bs run),.slice kq keys.length kc] 63)).alloc (.cells #[.string { data:=#[] },.string { data:=#[] }] 51)=V:=⟨_,rfl⟩;obtain⟨u0,u1,bS⟩:V.heap[w.heap.size]?=some (.cells #[.string (bs run),.slice kq keys.length kc] 63)∧V.heap[w.heap.size+1]?=some (.cells #[.string { data:=#[] },.string { data:=#[] }] 51)∧Bw w V:=by
  have XD:=AP w (.cells #[.string (bs run),.slice kq keys.length kc] 63);have Bb:=AV w (.cells #[.string (bs run),.slice kq keys.length kc] 63);have MX:=Ar w (.cells #[.string (bs run),.slice kq keys.length kc] 63);generalize w.alloc (.cells #[.string (bs run),.slice kq keys.length kc] 63)=V0 at*;have Et:=AP V0 (.cells #[.string { data:=#[] },.string { data:=#[] }] 51);have Ai:=AV V0 (.cells #[.string { data:=#[] },.string { data:=#[] }] 51);rw[hV] at Et Ai;rw[MX] at Et;exact⟨(Ai.block _ (Ao XD)).trans XD,Et,Bb.trans (Ai.mono Bb.size)⟩
 have HU0:=Hi u0;have MI:=Hi u1;have OX:=Hi bS;have cu1:V.cell? ⟨w.heap.size,1,none⟩=some (.slice kq keys.length kc):=cr u0;have YC:=Hi (acw (cap:=kc) (h.below bS) (by omega));rw[acy] at YC;have Mg:=UM keys;have Ga:=Hi (show(Bc keys).length≤10000 from by omega);clear u0 u1 bS h Mg
 go_in
 go_wp2_with fail;clear hV;refine YC.mono ?_;rintro e w1⟨v1,rfl,UA,Ai⟩;obtain⟨rq,rc,rfl⟩:=Bp UA;have Vj:=Hi (az0 (Bc keys) rq rc w1 (I6 UA) (by have:=Ga.out;unfold maxLen;omega) Ga);have HB1:=bH OX Ai;have aeD:=Hi ((Ai.block _ (Ao HU0)).trans HU0);have iq:=Hi ((Ai.block _ (Ao MI)).trans MI);clear UA Ai cu1;obtain⟨R,hR⟩:=ex (D5 (Bc keys));rw[hR] at Vj;have Pf:=Hi hR;clear hR;go_wp2_with fail;refine Vj.mono ?_;rintro e w2⟨rfl,Ad⟩;have Ak:=bH HB1 Ad;have XK:=(Ad.block _ (Ao aeD)).trans aeD.out;have Gq:=(Ad.block _ (Ao iq)).trans iq.out;have cu0:w2.cell? ⟨w.heap.size,0,none⟩=some (.string (bs run)):=cr XK;have p0:w2.cell? ⟨w.heap.size+1,0,none⟩=some (.string { data:=#[] }):=cr Gq;have p1:w2.cell? ⟨w.heap.size+1,1,none⟩=some (.string { data:=#[] }):=cr Gq;have pf0:=Cu w2 _ 0 _ _ Gq;have pf1:=Cu w2 _ 1 _ _ Gq;have h3:=Cf w2 (w.heap.size+1) 0 _ _ (.string (bs run)) Gq;have h4:=Cf _ (w.heap.size+1) 1 _ _ (.string (bs R.1)) h3;have q0:((w2.setCell ⟨w.heap.size+1,0,none⟩ (.string (bs run))).setCell ⟨w.heap.size+1,1,none⟩ (.string (bs R.1))).cell? ⟨w.heap.size+1,0,none⟩=some (.string (bs run)):=cr h4;have q1:((w2.setCell ⟨w.heap.size+1,0,none⟩ (.string (bs run))).setCell ⟨w.heap.size+1,1,none⟩ (.string (bs R.1))).cell? ⟨w.heap.size+1,1,none⟩=some (.string (bs R.1)):=cr h4;have HBF:=Hi ((Ak.setCell (p:=⟨w.heap.size+1,0,none⟩) (Nat.le_succ _) (.string (bs run))).setCell (p:=⟨w.heap.size+1,1,none⟩) (Nat.le_succ _) (.string (bs R.1)));clear Ad XK Gq h3 h4;go_wp2_with fail
 exact EI (v:=.tuple #[.agg #[.string (bs run),.string (bs R.1)],.int .i64 R.2]) (axL results112 _ _ (w.heap.size+1) _ _ (by rfl) q0 q1) rfl ⟨by rw[Pf.out],HBF⟩
def aeP(w:World)(l:M)(o i:Value)(wr:World):Prop:=∃ (k:Nat) (q:Option Addr) (c:Nat),k≤l.length∧i=.int .i64 (k:Int)∧o=.slice q (LF (l.take k)).length c∧BK wr w.heap.size (.slice q (LF (l.take k)).length c) (LF (l.take k))∧Bw w wr
def apy(O:M)(key:T)(wr0:World)(i:Value)(wr:World):Prop:=∃ n:Nat,n≤O.length∧i=.int .i64 (n:Int)∧JY O key O.length=JY O key n∧Bw wr0 wr
theorem az3{w:World}{q:Option Addr}{cap:Nat}{l:M}(h:Bj w q l)(hl:l.length≤100000):
  Calls prog 116 #[.slice q l.length cap] w fun e w'=>∃ q c,e=.returned (.slice q (LF l).length c)∧BK w' w.heap.size (.slice q (LF l).length c) (LF l)∧Bw w w':=by
 obtain⟨i0,Bg,AX,AY,Ba⟩:=DI RO;have HH:=Hi h;clear h
 go_in
 go_wp2
 go_loopw [3,4] (fun o i wr=>aeP w l o i wr) (fun _ i _=>l.length -(intOf i).toNat)
 case atStart=>exact⟨0,none,0,AZ _,rfl,rfl,Wl _ _,Ah _ _⟩
 case round=>
  obtain⟨k,qo,co,hk,rfl,rfl,Ag,hb⟩:=hrel;have Co:=Hi Ag;have HB:=Hi hb;have QD:(LF (l.take k)).length=k:=by rw[azG,Be];omega
  have wZ:=Hi QD;have HC:=Hi (Fz Ag);by_cases hlt:k < l.length
  ·have CX:=Hi (show LF (l.take (k+1))=RJ (LF (l.take k)) l[k] from by rw[CQ hlt,azI]);obtain⟨a,Cx,hp,-⟩:=(HH.below hb).index cap k hlt;have c0:=hp.key;have c1:=hp.val;generalize l[k]=x at*;generalize LF (l.take k)=O at*;have di:k≤100000:=(by omega);have aCZ:O.length≤100000:=(by omega);clear Ag hb hp QD;go_wp2_with fail;have HA:=Hi (Cr c0 c1);obtain⟨R,hR⟩:∃ R,R=wr:=⟨_,rfl⟩
   go_loopw [5] (fun i wq=>apy O x.1 wr i wq) (fun i _=>(intOf i).toNat)
   case atStart=>exact⟨O.length,Ae _,rfl,rfl,Ah _ _⟩
   case round=>
    obtain⟨n,hn,rfl,hcut,hbq⟩:=hrel;have mM:=Hi hcut;have Yj:=Hi hbq;clear hcut hbq c0 c1;have xm:=Hi (Ch Co Yj);have HHQ:=Hi (HH.below (bT HB Yj));have CL:=bH HB Yj;have Wx:=Hi (Cr ((Yj.cell (D7 HA.1)).trans HA.1) ((Yj.cell (D7 HA.2)).trans HA.2));obtain⟨qe,ce,he,Zv,Z9⟩:=HC.out;obtain⟨rfl,rfl⟩:qo=qe∧co=ce:=by injection he with h1 h2 h3;exact⟨h1,h3⟩
    have nK:=Hi Zv;have Qa:=Hi Z9;clear he Zv Z9;by_cases Ut:∃ j,∃ h:j < O.length,n=j+1∧x.1 < O[j].1
    ·obtain⟨j,hj,rfl,OA⟩:=Ut;obtain⟨b,qV,d0,-⟩:=Y2 xm hj;have Ct:Op.bytesLess O[j].1 x.1=false:=(by rw[Go.Proofs.bytesLess_eq];simpa using QQ OA);have bV:(O[j].1 == x.1)=false:=EH.2 (fun e=>KV OA e.symm)
     have Dh:=Hi (show JY O x.1 (j+1)=JY O x.1 j from by
      show(if x.1 < (O.getD j ([],[])).1 then JY O x.1 j else j+1)=_
      rw[Ac (by rw[Ir,Ei hj];exact OA)])
     have ZE:IntKind.i64.wrap (((j+1:Nat):Int) -1)=(j:Int):=(by rw[Eh _ (by omega)];omega);have Gl:(0:Int) < ((j+1:Nat):Int):=(by omega);have Tc:0 < j+1:=(by omega);have c0:=Wx.1;have c1:=Wx.2;generalize O[j]=y at*;obtain⟨n,hnj⟩:=ex (j+1);rw[hnj] at ZE Gl Tc ⊢;have HNJ:=Hi hnj;clear OA hnj;go_wp2
     go_quiet (fail)
     go_wp2;go_roundw
     case rel=>exact⟨j,by omega,rfl,by rw[mM.out,Dh.out],Yj.trans ((FM _ _).mono Yj.size)⟩
     case measure=>have:=HNJ.out;show(j:Int).toNat < (n:Int).toNat;omega
    ·have IQ:=Hi (show JY O x.1 O.length=n from by
      rw[mM.out];cases n with
      |zero=>rfl
      |succ j=>
       show(if x.1 < (O.getD j ([],[])).1 then JY O x.1 j else j+1)=_
       rw[Aa];rw[Ir,Ei (show j < O.length by omega)];exact fun e=>Ut ⟨j,by omega,rfl,e⟩)
     have jL:=fun W=>acf W qo O.length co n hn Qa.out
     have Oo:=fun W=>eG W qo O.length co n hn
     have JH:n≤100000:=(by omega);by_cases hz:0 < n
     case' pos=>
      obtain⟨j,hj⟩:∃ j,n=j+1:=⟨n -1,by omega⟩;have K8:j < O.length:=(by omega);obtain⟨b,qV,d0,-⟩:=Y2 xm K8;have EB:¬ x.1 < O[j].1:=fun e=>Ut ⟨j,K8,hj,e⟩
      have hgf:(!Op.bytesLess O[j].1 x.1 && !O[j].1 == x.1)=false:=by
       by_cases e:O[j].1=x.1
       ·simp[e]
       ·have:Op.bytesLess O[j].1 x.1=true:=by
         rw[Go.Proofs.bytesLess_eq];rcases ZI (eu.1 EB) with f|f
         ·simpa using f
         ·exact absurd f e
        simp[this]
      have ZE:IntKind.i64.wrap ((n:Int) -1)=(j:Int):=(by rw[Eh _ (by omega)];omega);have Gl:(0:Int) < (n:Int):=(by omega);have c0:=Wx.1;have c1:=Wx.2;generalize O[j]=y at*;clear hj EB Ut;go_wp2
      go_quiet (fail)
      obtain⟨V,hV⟩:∃ V,V=wr.drewN nq:=⟨_,rfl⟩;have OX:=Hi (show Bw wr V from by rw[hV];exact FM _ _);rw[←hV];clear hV c0 c1 d0 qV hgf ZE
     case' neg=>
      have Gl:¬ (0:Int) < (n:Int):=(by omega);clear Ut;go_wp2
      go_quiet (fail)
      obtain⟨V,hV⟩:∃ V,V=wr.drewN nq:=⟨_,rfl⟩;have OX:=Hi (show Bw wr V from by rw[hV];exact FM _ _);rw[←hV];clear hV
     all_goals
      have aes:=Hi (Ch xm OX);have vP:=bH CL OX;have aou:=Hi ((Bj.D9 aes).front n);have aoe:=Hi ((Bj.D9 aes).back hn Qa);have Oe:=Hi (show(O.take n).length=n from by rw[Be];omega);have V6:=Hi (show(O.drop n).length=O.length -n from Cs);clear Gl
      have HAQ:=Hi (show IW qo co n=none→co -n=0 from fun e=>by
       unfold IW at e;split at e
       ·omega
       ·have:=nK (by cases qo with
         |none=>rfl
         |some p=>simp at e)
        omega)
      have ae2:=Hi (show RJ O x=O.take n++[x]++O.drop n from by unfold RJ;rw[IQ.out])
      go_wp2_with (first
       |(at_builtin;refine ai rfl _ _ rfl V.heap.size (.slice (some ⟨g2,0,none⟩) (n+1) k2) (n+1) (O.take n++[x]) (O.drop n) rfl P9 (IW qo co n) (co -n) (O.length -n) rfl V6 (aoe.below Ak) HAQ (by omega) Ak.size ?_;intro v3 V3 RG ais jw;have Ob:=Hi RG;have AA:=Hi (show Bw V V3 from Ak.grown ais Ak.size (fun k e=>Ec P9 e));obtain⟨q3,k3,rfl⟩:=Bp RG;clear RG ais jw)
       |(at_builtin;refine wpList_append_own_at _ rfl _ _ 30 rfl V.heap.size 51 i0 _ 2 32 underlying30 Bg AX AY Ba rfl (by decide) _ n _ rfl (CW.alloc _) ⟨V1.heap.size,0,none⟩ 1 1 [.string (bs x.1),.string (bs x.2)] rfl rfl (by intro j u hj;rw[add_plain,E8];exact(Dx▸hj)) (by simp[Value.oneCell']) (by unfold maxLen;omega) (by omega) (by have:=HB1.size;simp;omega) ?_;intro v2 V2 OD air _ VG;obtain⟨g2,k2,rfl⟩:=ownsRow_succ OD;have P9:=Hi (show V2.ownsRow V.heap.size 51 2 (.slice (some ⟨g2,0,none⟩) (n+1) k2) (n+1) (Dn (O.take n++[x])) from by rw[Uf];exact OD);have Ak:=Hi (show Bw V V2 from(HB1.alloc HB1.size _).grown air (by rw[Ar];have:=HB1.size;omega) (fun k e=>Ec CW e));clear OD air VG)
       |(at_builtin;refine ai rfl _ _ rfl V.heap.size (.slice none 0 0) 0 [] (O.take n) rfl (Wl _ _) qo co n rfl Oe aou nK (by omega) (Ae _) ?_;intro v1 V1 KT aiq VF;rw[GJ,Ev] at KT;have CW:=Hi KT;have HB1:=Hi (show Bw V V1 from(Ah _ V).grown aiq (Ae _) (fun k e=>by simp[Value.ownBlock] at e));have c01:V1.cell? a=some (.string (bs x.1)):=((bT OX HB1).cell (D7 Wx.1)).trans Wx.1;have c11:V1.cell? ⟨a.block,a.off+1,none⟩=some (.string (bs x.2)):=((bT OX HB1).cell (p:=⟨a.block,a.off+1,none⟩) (D7 Wx.2)).trans Wx.2;obtain⟨q1,k1,rfl⟩:=Bp KT;clear KT aiq VF))
      have Cz:=Hi (show aeP w l (.slice q3 (n+1+(O.length -n)) k3) (.int .i64 ((k:Int)+1)) V3 from by
       have GV:(LF (l.take (k+1))).length=n+1+(O.length -n):=by
        rw[CX.out,ae2.out,Az,Az,Oe.out,V6.out];rfl
       refine⟨k+1,q3,k3,by omega,by go_num,by rw[GV],?_,vP.trans (AA.mono vP.size)⟩;unfold BK;rw[GV,CX.out,ae2.out];exact Fu Ob vP.size)
      go_roundw
      case rel=>exact Cz.out
      case measure=>
       show l.length -((k:Int)+1).toNat < l.length -((k:Int)).toNat
       omega
  ·obtain rfl:k=l.length:=(by omega);have MW:=Ag;rw[Dq] at MW;have BU:=Hi MW;rw[Dq];clear hb Ag QD HC wZ Co MW;go_wp2;go_ret;exact⟨_,_,rfl,BU,HB⟩
end Cg
namespace Cg
open Aq Af Bu Kp BM Hex BD Mem
open Ap hiding T
theorem aAt(l:List T):2+2*l.length≤rowLen l:=by
 unfold rowLen
 induction l with
 |nil=>exact Ae _
 |cons x l ih=>rw[Ce,Eo,BN];omega
theorem ayt{s:T}{l:List T}(h:Dl s=some l):2*l.length+2≤s.length:=by
 have h2:=lh h;unfold Gt at h2;split at h2
 ·cases ht:BB l with
  |none=>rw[ht] at h2;cases h2
  |some a=>
   rw[ht] at h2;simp only[EP,Ci] at h2;have h3:=Wo ht;have h4:=aAt l;rw[←h2,Az,A9.BV];omega
 ·cases h2
def y5(w:World)(q:Option Addr)(cap:Nat)(l:M)(i:Value)(wr:World):Prop:=∃ k:Nat,k≤l.length∧i=.int .i64 k∧Bw w wr∧BK wr w.heap.size (.slice q l.length cap) l
theorem azf(name data:T)(l:M)(h:Ab.Cw name data=some l)(w:World)(hd:data.length≤1000000):Calls prog 196 #[.string (bs name),.string (bs data)] w fun e w'=>∃ q cap,e=.returned (.tuple #[.slice q l.length cap,.bool true])∧BK w' w.heap.size (.slice q l.length cap) l∧(q=none→cap=0)∧Bw w w':=by
 have hsh:=(eT h).2;obtain⟨hne,DY,Jo,s,GA,Ke⟩:=Nf h;have jY:A9.EE data=(s,0):=by rw[Ke];exact A9.ac7 s
 have CZ:s.length≤1000000:=by
  have:data.length=s.length+4:=by rw[Ke];unfold A9.Fv;rw[Az,A9.BV]
  omega
 have HO:=Hi (amd data w (by omega));rw[jY] at HO;have HG:=Hi (fun(W:World)=>am5 s l (pK GA (CR.QR DY)) W (by omega));have Jv:=Hi (fun p hp=>(Jo p hp).1)
 have ME:=Hi (fun(p:T×T) (hp:p∈l)=>show ∃ ks,Dl p.2=some ks∧Bc ks=ks from by
  have h1:rowOk p=true:=(Jo p hp).2;unfold rowOk at h1;cases hr:Dl p.2 with
  |none=>rw[hr] at h1;cases h1
  |some ks=>rw[hr] at h1;exact⟨ks,rfl,by simpa using h1⟩)
 have FL:=Hi DY;have Rh:=Hi hsh;have hlz:((l.length:Int) == 0)=false:=EH.2 (fun e=>hne (JW.1 (by omega)));have FN:l.length≤65535:=(eT h).1;clear h jY GA Ke DY Jo hne hsh
 go_in
 go_wp2_with fail;refine HO.mono ?_;rintro e w1⟨rfl,Ai⟩;have HB1:=Hi Ai;clear Ai;go_wp2_with fail;refine(HG _).mono ?_;rintro e w2⟨v,rfl,DN,Ad⟩;obtain⟨q,cap,rfl,hq,hc⟩:=Fz DN;have BU:=Hi (Fu DN HB1.size);have Ak:=bH HB1 Ad;have HQ:=Hi hq;clear DN Ad hq hc;go_wp2
 go_loopw [9] (fun i wr=>y5 w q cap l i wr) (fun i _=>l.length -(intOf i).toNat)
 case atStart=>exact⟨0,AZ _,rfl,Ak,BU⟩
 case round=>
  obtain⟨k,DX,rfl,hb,hr⟩:=hrel;have HB:=Hi hb;have HR:=Hi hr;clear hb hr Ak BU;by_cases hlt:k < l.length
  ·obtain⟨a,Cx,c0,cv⟩:=Y2 HR hlt;have EX:=(Rh _ (Dc hlt)).1;have KR:=Jv _ (Dc hlt);obtain⟨keys,Zi,ajn⟩:=ME _ (Dc hlt);have xC:=Hi (Rh _ (Dc hlt)).2;have YC:=Hi ajn
   have LX:=Hi (show keys.length≤50000 from by
    have h1:=ayt Zi;have h3:=(Rh _ (Dc hlt)).2;omega)
   have DT:=Hi (fun(W:World) (hl:l[k].2.length≤65535)=>ayX l[k].2 W (by omega));unfold Go.Proofs.YtkmninbcgipliaaGreatDoor.M7 at DT;simp only[Zi] at DT;clear ajn;by_cases IZ:k=0
   ·subst IZ;generalize l[0]=x at*;have HN:=Hi (fun(W:World)=>acA x.1 W (by omega));rw[KR] at HN;have jO:∀ W,(Instr.indexAt 30 (.slice q l.length cap) (.int .i64 0)).run prog W=.ok (.pointer (some a)) W:=Cx;have HC:=Hi (fun(V:World) (hb:Bw wr V)=>(hb.cell (D7 c0)).trans c0);clear Cx c0 KR Zi;go_wp2_with fail;refine(DT _ xC).mono ?_;rintro e w5⟨v5,rfl,MV,Bo,-⟩;obtain⟨kq,kc,rfl⟩:=Bp MV;have Lc:=Hi (show Ap.Bq w5 0 (.slice kq keys.length kc) keys from MV);have Cy:=Hi Bo;clear MV Bo;go_wp2_with fail;have HS:=Hi (fun(V:World) (hb:Bw w5 V)=>(show(fun V:World=>V.cell? a=some (.string (bs x.1))) V from HC V (bT Cy hb)));refine wp_region_held (S:=(fun V:World=>V.cell? a=some (.string (bs x.1)))) (by kernel_rfl) ?_;have BR:=Hi ((Ah w5.heap.size w5).drew);refine Av 0 (HS _ BR) ?_;refine Av 1 (HS _ BR) ?_;refine Av 2 (HS _ BR) ?_;refine Av 3 (HS _ BR) ?_;refine Av 4 (HS _ BR) ?_;refine Nh 5 (fun K1 Il=>?_);go_simp;refine(acw (cap:=kc) (I6 (Ch Lc BR)) LX).mono ?_;rintro e w6⟨v6,rfl,IJ,Cb⟩;rw[acy,YC.out] at IJ;obtain⟨q6,c6,rfl⟩:=Bp IJ;have EJ:=Hi (BR.trans (Cb.mono (Ae _)));have Ho:=Hi IJ;clear IJ Cb;refine Il _ _ (HS _ EJ) ?_;try simp only[Act.put,np]
    refine Nh 6 (fun K2 Df=>?_);go_simp;refine(amo keys keys kq q6 kc c6 _ (I6 (Ch Lc EJ)) (I6 Ho) (by have:=LX.out;unfold maxLen;omega) (by have:=LX.out;unfold maxLen;omega)).mono ?_;rintro e w7⟨rfl,EW⟩;have Ed:=bH EJ EW;clear EW;refine Df _ _ (HS _ Ed) ?_;try simp only[Act.put,np]
    simp only[decide_true];refine Av 7 (HS _ Ed) ?_;refine Av 8 (HS _ Ed) ?_;refine Av 9 (HS _ Ed) ?_;refine Av 10 (HS _ Ed) ?_;refine Av 11 (HS _ Ed) ?_;refine Av 12 (HS _ Ed) ?_;refine Av 13 (HS _ Ed) ?_;refine Av 14 (HS _ Ed) ?_;refine Av 16 (HS _ Ed) ?_;refine Nh 15 (fun K3 Pw=>?_);go_simp;refine(HN _).mono ?_;rintro e wA⟨rfl,DU⟩;have Au:=bH Ed DU;clear DU;refine Pw _ _ (HS _ Au) ?_;try simp only[Act.put,np]
    refine Av 17 (HS _ Au) ?_;refine Av 18 (HS _ Au) ?_;refine Av 19 (HS _ Au) ?_;refine Av 20 (HS _ Au) ?_;refine Av 21 (HS _ Au) ?_;refine Av 22 (HS _ Au) ?_;refine Ja 23 (HS _ Au) ?_;refine Ja 24 (HS _ Au) ?_;refine Ja 25 (HS _ Au) ?_;refine Ja 26 (HS _ Au) ?_;refine Ja 27 (HS _ Au) ?_;refine Ja 28 (HS _ Au) ?_;refine Ja 29 (HS _ Au) ?_;refine Ja 30 (HS _ Au) ?_;refine Ja 31 (HS _ Au) ?_;refine Ja 32 (HS _ Au) ?_;refine Ja 33 (HS _ Au) ?_;refine Ja 34 (HS _ Au) ?_;refine Av 35 (HS _ Au) ?_;refine Av 36 (HS _ Au) ?_;refine wpAnyH_done (by kernel_rfl) ?_ _;clear Il K1 Df K2 Pw K3;have Cz:=Hi (show y5 w q cap l (.int .i64 1) wA from⟨1,by omega,rfl,HB.trans ((bT Cy Au).mono HB.size),Ch (Ch HR Cy) Au⟩);go_wp2;go_roundw
    case rel=>exact Cz.out
    case measure=>show l.length -(1:Int).toNat < l.length -(0:Int).toNat;omega
   ·obtain⟨a',aaC,c1,-⟩:=Y2 HR (show k -1 < l.length by omega);have QI:IntKind.i64.wrap ((k:Int) -1)=((k -1:Nat):Int):=(by rw[Eh _ (by omega)];omega);have Gl:(0:Int) < (k:Int):=(by omega);have Tc:0 < k:=(by omega);have hne:((l[k -1]'(by omega)).1 == l[k].1)=false:=by
     have h1:=List.pairwise_iff_getElem.1 FL (k -1) k (by omega) hlt (by omega);exact EH.2 (fun e=>by rw[e] at h1;exact RL _ h1)
    obtain⟨y,hy⟩:=ex (l[k -1]'(by omega));obtain⟨x,hx⟩:=ex (l[k]);rw[hy] at c1 hne;rw[hx] at c0 EX KR hne cv xC DT Zi;have HN:=Hi (fun(W:World)=>acA x.1 W (by omega));rw[KR] at HN;have HC:=Hi (fun(V:World) (hb:Bw wr V)=>Cr ((hb.cell (D7 c0)).trans c0) ((hb.cell (D7 c1)).trans c1));clear c0 c1 KR hx hy Zi;go_wp2_with fail;refine(DT _ xC).mono ?_;rintro e w5⟨v5,rfl,MV,Bo,-⟩;obtain⟨kq,kc,rfl⟩:=Bp MV;have Lc:=Hi (show Ap.Bq w5 0 (.slice kq keys.length kc) keys from MV);have Cy:=Hi Bo;clear MV Bo;go_wp2_with fail;have HS:=Hi (fun(V:World) (hb:Bw w5 V)=>(show(fun V:World=>V.cell? a=some (.string (bs x.1))∧V.cell? a'=some (.string (bs y.1))) V from HC V (bT Cy hb)));refine wp_region_held (S:=(fun V:World=>V.cell? a=some (.string (bs x.1))∧V.cell? a'=some (.string (bs y.1)))) (by kernel_rfl) ?_;have BR:=Hi ((Ah w5.heap.size w5).drew);refine Av 0 (HS _ BR) ?_;refine Av 1 (HS _ BR) ?_;refine Av 2 (HS _ BR) ?_;refine Av 3 (HS _ BR) ?_;refine Av 4 (HS _ BR) ?_;refine Nh 5 (fun K1 Il=>?_);go_simp;refine(acw (cap:=kc) (I6 (Ch Lc BR)) LX).mono ?_;rintro e w6⟨v6,rfl,IJ,Cb⟩;rw[acy,YC.out] at IJ;obtain⟨q6,c6,rfl⟩:=Bp IJ;have EJ:=Hi (BR.trans (Cb.mono (Ae _)));have Ho:=Hi IJ;clear IJ Cb;refine Il _ _ (HS _ EJ) ?_;try simp only[Act.put,np]
    refine Nh 6 (fun K2 Df=>?_);go_simp;refine(amo keys keys kq q6 kc c6 _ (I6 (Ch Lc EJ)) (I6 Ho) (by have:=LX.out;unfold maxLen;omega) (by have:=LX.out;unfold maxLen;omega)).mono ?_;rintro e w7⟨rfl,EW⟩;have Ed:=bH EJ EW;clear EW;refine Df _ _ (HS _ Ed) ?_;try simp only[Act.put,np]
    simp only[decide_true];refine Av 7 (HS _ Ed) ?_;refine Av 8 (HS _ Ed) ?_;refine Av 9 (HS _ Ed) ?_;refine Av 10 (HS _ Ed) ?_;refine Av 11 (HS _ Ed) ?_;refine Av 12 (HS _ Ed) ?_;refine Av 13 (HS _ Ed) ?_;refine Av 14 (HS _ Ed) ?_;refine Av 16 (HS _ Ed) ?_;refine Nh 15 (fun K3 Pw=>?_);go_simp;refine(HN _).mono ?_;rintro e wA⟨rfl,DU⟩;have Au:=bH Ed DU;clear DU;refine Pw _ _ (HS _ Au) ?_;try simp only[Act.put,np]
    refine Av 17 (HS _ Au) ?_;refine Av 18 (HS _ Au) ?_;refine Av 19 (HS _ Au) ?_;refine Av 20 (HS _ Au) ?_;refine Av 21 (HS _ Au) ?_;refine Av 22 (HS _ Au) ?_;refine Av 23 (HS _ Au) ?_;refine Av 24 (HS _ Au) ?_;refine Av 25 (HS _ Au) ?_;refine Av 26 (HS _ Au) ?_;refine Av 27 (HS _ Au) ?_;refine Av 28 (HS _ Au) ?_;refine Av 29 (HS _ Au) ?_;refine Av 30 (HS _ Au) ?_;refine Av 31 (HS _ Au) ?_;refine Av 32 (HS _ Au) ?_;refine Av 33 (HS _ Au) ?_;refine Av 34 (HS _ Au) ?_;refine Av 35 (HS _ Au) ?_;refine Av 36 (HS _ Au) ?_;refine wpAnyH_done (by kernel_rfl) ?_ _;clear Il K1 Df K2 Pw K3;have Cz:=Hi (show y5 w q cap l (.int .i64 ((k:Int)+1)) wA from⟨k+1,by omega,by go_num,HB.trans ((bT Cy Au).mono HB.size),Ch (Ch HR Cy) Au⟩);go_wp2;go_roundw
    case rel=>exact Cz.out
    case measure=>
     show l.length -((k:Int)+1).toNat < l.length -((k:Int)).toNat
     omega
  ·obtain rfl:k=l.length:=(by omega);go_wp2;go_ret2;exact⟨q,cap,rfl,HR,HQ,HB⟩
theorem ayM{w:World}{r:Nat}{v:Value}{A:M}{most:Int}(h:Hq w r v A most)(hA:A.length≤1000000)(name:T)(MP:∀ d,Af.get A name=some d→d.length≤1000000)(hf:∀ d,Af.get A name=some d→(fileOf Ab A name).isSome=true):
  Calls prog 114 #[.pointer (some ⟨r,0,none⟩),.string (bs name)] w fun e w'=>∃ q cap,e=.returned (.tuple #[.slice q ((fileOf Ab A name).getD []).length cap,.bool (Af.get A name).isSome,.bool false])∧BK w' w.heap.size (.slice q ((fileOf Ab A name).getD []).length cap) ((fileOf Ab A name).getD [])∧(q=none→cap=0)∧Bw w w':=by
 have HG:=Hi (am6 h hA name);have Xt:∀ d,Af.get A name=some d→fileOf Ab A name=Ab.Cw name d:=fun d hd=>by unfold fileOf;rw[hd];rfl
 have hfn:Af.get A name=none→fileOf Ab A name=none:=fun hd=>by unfold fileOf;rw[hd];rfl
 clear h;cases hx:Af.get A name with
 |none=>
  rw[hx] at HG;rw[hfn hx];clear hx hf Xt hfn MP
  go_in
  go_wp2_with fail;refine HG.mono ?_;rintro e w1⟨rfl,hb⟩;have HB:=Hi hb;clear hb;go_wp2_with fail;exact EI (v:=.tuple #[.slice none 0 0,.bool false,.bool false]) (by simp[results,results114,go_sem]) rfl ⟨none,0,rfl,Wl _ _,fun _=>rfl,HB⟩
 |some d=>
  rw[hx] at HG;have h1:=hf d hx;rw[Xt d hx] at h1 ⊢;obtain⟨l,hl⟩:=LM.1 h1;rw[hl];have HE:=Hi (fun(W:World)=>azf name d l hl W (MP d hx));clear hx hf Xt hfn MP h1 hl
  go_in
  go_wp2_with fail;refine HG.mono ?_;rintro e w1⟨rfl,hb⟩;have HB:=Hi hb;clear hb;go_wp2_with fail;refine(HE _).mono ?_;rintro e w2⟨q,cap,rfl,hr,hq,Ad⟩;have HR:=Hi (Fu hr HB.size);have Ak:=bH HB Ad;clear Ad hr;go_wp2_with fail;exact EI (v:=.tuple #[.slice q l.length cap,.bool true,.bool false]) (by simp[results,results114,go_sem]) rfl ⟨q,cap,rfl,HR,hq,Ak⟩
theorem aAT{l:Us}{k:Nat}(hk:k < l.length):(Bv l)[k]'(by rw[OO];exact hk)=PZ l[k]:=by unfold Bv;rw[List.getElem_map]
theorem azu{n:Nat}{A:M}{l:Us}(h1:MK l)(h2:Fits Ab (Bv l)):I5 n A l=if Cn n < used (made A (EZ Ab (Bv l))) then(4,A) else(0,made A (EZ Ab (Bv l))):=by
 unfold I5;rw[Ac h1];exact acm Gf h2
def xZ(w:World)(xb:Nat)(A:M)(l:Us)(i:Value)(wr:World):Prop:=
 ∃ (k:Nat) (vx:Value),k≤l.length∧i=.int .i64 (k:Int)∧Hq wr xb vx (made A (FJ Ab (Bv (l.take k)))) (1099511627776:Nat)∧Fits Ab (Bv (l.take k))∧Bw w wr∧MK (l.take k)
theorem az1{w:World}{r n cap:Nat}{a:Option Addr}{v:Value}{A:M}{l:Us}(h:Hq w r v A (Cn n))(hu:Up A)(Cv:∀ k,Af.get A (Ab.nm k)=none)(hn:n≤16384)(hA:used A≤Cn n)(hk:Ro w a l)(hl:l.length≤20)(DX:∀ x∈l,x.1.length≤1000000∧x.2.length≤10000)(GZ:∀ j name,Small (BG Ab (Bv (l.take j)) name)):
  Calls prog 43 #[.pointer (some ⟨r,0,none⟩),.slice a l.length cap] w fun e w'=>e=.returned (.int .i64 (I5 n A l).1)∧∃ v',Hq w' r v' (I5 n A l).2 (Cn n)∧A7 (fun k=>k=r) w w':=by
 obtain⟨i0,Bg,AX,AY,Ba⟩:=DI RO;obtain⟨vq,vc,rfl⟩:=Bp h.2;have J2:=ZX hn;have HR:=Hi h;have HU:=Hi hu;have DJ:=Hi Cv;have HK:=Hi hk;have LX:=Hi DX;have SA:=Hi GZ
 have Fw:=Hi (show ∀ k,used (made A (FJ Ab (Bv (l.take k))))≤2000000 from fun k=>by
  have h1:=UR hu (FJ Ab (Bv (l.take k)));have h2:=anL Gf (Bv (l.take k));have h3:(Bv (l.take k)).length≤20:=by rw[OO,Be];omega
  have h4:=Nat.mul_le_mul_right 65560 h3;omega)
 have yO:w.cell? ⟨r,0,none⟩=some (.slice vq A.length vc):=cr h.1;have av8:=Ao h.1
 have YO:=Hi (show Hq (w.alloc (.cells #[.slice vq A.length vc,.int .i64 1099511627776] 174)) w.heap.size (.slice vq A.length vc) (made A (FJ Ab (Bv (l.take 0)))) (1099511627776:Nat) from by
  rw[I8];exact⟨AP w _,(h.below (AV w _)).2⟩)
 have AR:=Hi (AV w (.cells #[.slice vq A.length vc,.int .i64 1099511627776] 174));clear h hu Cv hk DX GZ
 go_in
 go_wp2_with fail;have Pg:=Hi (show xZ w w.heap.size A l (.int .i64 0) (w.alloc (.cells #[.slice vq A.length vc,.int .i64 1099511627776] 174)) from⟨0,.slice vq A.length vc,AZ _,rfl,YO,by rw[I8];exact zq,AR,by rw[I8];exact fun u hu=>by simp at hu⟩);generalize w.alloc (.cells #[.slice vq A.length vc,.int .i64 1099511627776] 174)=V0 at*;clear YO AR yO
 go_loopw [6] (fun i wr=>xZ w w.heap.size A l i wr) (fun i _=>l.length -(intOf i).toNat)
 case atStart=>exact Pg.out
 case round=>
  obtain⟨k,vx,hk,rfl,hx,C9,hb,NT⟩:=hrel;have HX:=Hi hx;have L9:=Hi C9;have HB:=Hi hb;have YF:=Hi NT;clear C9 hb Pg NT;by_cases hlt:k < l.length
  ·obtain⟨q,Cx,ha⟩:=(HK.below HB).index cap k hlt;have c0:=ha.run;obtain⟨kq,kc,c1,Ka,dz⟩:=ha.keys;have Lb:=Hi (Dc hlt);obtain⟨Mg,XA⟩:=LX _ Lb.out;have CX:=Hi (CQ hlt);obtain⟨u,hu⟩:=ex (l[k]);rw[hu] at Lb CX c0 c1 Ka Mg XA;obtain⟨run,keys⟩:=u;have WJ:=Hi (fun(W:World) (hW:Bw wr W)=>ayU (run:=run) (kc:=kc) (Ka.below hW) XA);simp only at c0 c1 Mg XA;clear ha hu Ka hx;by_cases hz:(D5 (Bc keys)).2=0
   case neg=>
    have Tt:D5 (Bc keys)=([],5):=by
     unfold D5 at hz ⊢;cases dP:Gt (Bc keys) with
     |none=>rfl
     |some s=>rw[dP] at hz;exact absurd rfl hz
    have Vg:=Hi (show I5 n A l=(5,A) from by
     unfold I5;rw[Aa (fun h=>hz (h _ Lb))])
    rw[Tt] at WJ;clear Tt hz;go_wp2_with fail;refine(WJ _ (Ah _ _)).mono ?_;rintro e w1⟨rfl,Ai⟩;have HB1:=Hi (HB.trans ((Ai.alloc Ai.size (.cells #[.string (bs run),.string (bs [])] 51)).mono HB.size));clear Ai;go_wp2;go_ret;rw[Vg.out];exact⟨rfl,_,HR.below HB1,A7.of_below HB1⟩
   case pos=>
    obtain⟨s,hs⟩:=ex ((D5 (Bc keys)).1);have XM:D5 (Bc keys)=(s,0):=Prod.ext hs hz;rw[XM] at WJ;have xg:=Hi (show MK (l.take (k+1)) from by rw[CX.out];exact aml.2 ⟨YF,hz⟩);have FL:=Hi (show Bv (l.take (k+1))=Bv (l.take k)++[(run,s)] from by rw[CX.out,anD];unfold PZ;rw[hs]);have HN:=Hi (fun(W:World)=>acA run W (by omega));have Pj:=Hi (show(Bv (l.take k)).length≤20 from by rw[OO,Be];omega);have NP:=pO HU (K:=Ab) (Bv (l.take k)) (Ab.nm run);rw[DJ.out] at NP;have PK:=iR HU DJ (uT YF) L9 run
    have FK:=Hi (fun(W:World) (hW:Bw wr W)=>ayM (HX.below hW) (by have:=QV (made A (FJ Ab (Bv (l.take k))));have:=Fw k;omega) (Ab.nm run) (fun d hd=>by
     rw[NP] at hd;split at hd
     ·injection hd with hd
      rw[←hd];cases hc:BS (BG Ab (Bv (l.take k)) (Ab.nm run)) with
      |none=>exact AZ _
      |some d=>exact Ay (bz hc) (by decide)
     ·cases hd) (fun d hd=>by
     rw[NP] at hd;rw[PK];split at hd
     ·rename_i DV
      rw[Ac DV];rfl
     ·cases hd))
    rw[agc HU DJ (uT YF) L9 run] at FK
    have Nr:=Hi (show Fits Ab (Bv l)→(BS (BG Ab (Bv (l.take (k+1))) (Ab.nm run))).isSome=true from fun h=>by
     have h1:=h k (by rw[OO];exact hlt);rw[←uU,aAT hlt] at h1;have h2:(PZ l[k]).1=run:=by
      have h3:=CX.out;have h4:=CQ hlt;rw[h4] at h3;have h5:=List.append_cancel_left h3;have h6:l[k]=(run,keys):=(by injection h5);rw[h6];rfl
     rw[h2] at h1;exact h1)
    clear NP PK hs hz XM;generalize Tg:Ab.nm run=name at*;have M0:=Hi Tg;clear Tg;have WC:=Hi (SL (K:=Ab) (Bv (l.take k)) name);have MB:=Hi (show BG Ab (Bv (l.take (k+1))) name=put run s (BG Ab (Bv (l.take k)) name) from by rw[FL.out,NH,Ac M0.out]);have KE:=Hi (SA (k+1) name);have Oy:(BG Ab (Bv (l.take k)) name).length≤20:=by
     have h1:=pU Ab (Bv (l.take k)) name;have:=Pj.out;omega
    rw[MB.out] at KE Nr
    have Od:=Hi (show FJ Ab (Bv (l.take (k+1)))=FJ Ab (Bv (l.take k))++[⟨name,(BS (put run s (BG Ab (Bv (l.take k)) name))).getD [],false⟩] from by
     rw[←MB.out,FL.out,uG,←FL.out]
     congr 1
     unfold Mj;rw[show Ab.nm ((run,s):T×T).1=name from M0.out])
    have TT:=Hi (show Fits Ab (Bv (l.take (k+1)))↔Fits Ab (Bv (l.take k))∧(BS (put run s (BG Ab (Bv (l.take k)) name))).isSome=true from by
     rw[←MB.out,FL.out,Fits.kY,←FL.out,show Ab.nm ((run,s):T×T).1=name from M0.out])
    generalize BG Ab (Bv (l.take k)) name=G at*;generalize (Af.get (made A (FJ Ab (Bv (l.take k)))) name).isSome=isb at*;go_wp2_with fail;refine(WJ _ (Ah _ _)).mono ?_;rintro e w1⟨rfl,Ai⟩;have ahF:=AV w1 (.cells #[.string (bs run),.string (bs s)] 51);have ib:=Hi (AP w1 (.cells #[.string (bs run),.string (bs s)] 51));have HB1:=bH Ai ahF;have c01:(w1.alloc (.cells #[.string (bs run),.string (bs s)] 51)).cell? q=some (.string (bs run)):=(HB1.cell (D7 c0)).trans c0;have LV:=Hi c0;clear Ai ahF c0 c1;go_wp2_with fail;obtain⟨W1,jm⟩:=ex (w1.alloc (.cells #[.string (bs run),.string (bs s)] 51));obtain⟨pb,QE⟩:=ex (w1.heap.size);rw[jm] at ib HB1 ⊢;rw[QE] at ib ⊢;clear jm QE c01;refine(HN _).mono ?_;rintro e w2⟨rfl,Ad⟩;have Ak:=bH HB1 Ad;have x8:=Hi ((Ad.block _ (Ao ib)).trans ib);clear Ad ib;go_wp2_with fail;refine(FK _ Ak).mono ?_;rintro e w3⟨q3,c3,rfl,QF,Tk,Aw⟩;have AA:=bH Ak Aw;have nz:=Hi ((Aw.block _ (Ao x8)).trans x8);have MG:=Hi QF;clear QF Aw x8;have c0:w3.cell? q=some (.string (bs run)):=(AA.cell (D7 LV)).trans LV.out;have cp0:w3.cell? ⟨pb,0,none⟩=some (.string (bs run)):=cr nz.out;have cp1:w3.cell? ⟨pb,1,none⟩=some (.string (bs s)):=cr nz.out;have JZ:LF (G.filter (fun p=>!(p.1 == run))++[(run,s)])=put run s G:=azH WC run s;have VR:=KE.out;obtain⟨lf,Zm⟩:∃ lf,G.filter (fun p=>!(p.1 == run))=lf:=⟨_,rfl⟩;have auN:lf.length≤20:=(by rw[←Zm];exact Ay (LK _ _) Oy);have WS:=Hi (fun(W:World) (hW:Bw w3 W)=>azh (w:=W) (cap:=c3) run ((Bj.D9 MG).below hW) (by omega));have adX:=Hi (WC.put run s)
    rw[Zm] at WS JZ;obtain⟨G2,aa0⟩:=ex (put run s G);rw[aa0] at JZ VR adX Nr Od TT;have aoy:=Hi (show BG Ab (Bv (l.take (k+1))) name=G2 from by rw[MB.out,aa0])
    have Qh:=Hi (fun(W:World) (q:Option Addr) (c:Nat) (h:Bj W q (lf++[(run,s)]))=>show Calls prog 116 #[.slice q (lf.length+1) c] W fun e w'=>∃ q c,e=.returned (.slice q G2.length c)∧BK w' W.heap.size (.slice q G2.length c) G2∧Bw W w' from by
     have h1:=az3 (cap:=c) h (by rw[Az,Kn];omega);rw[JZ,Az,Kn] at h1;exact h1)
    obtain⟨dd,VL⟩:=ex ((BS G2).getD []);obtain⟨cc,Pz⟩:∃ cc:Int,(if(BS G2).isSome=true then 0 else 5)=cc:=⟨_,rfl⟩
    have Ky:=Hi (fun(W:World) (q:Option Addr) (c:Nat) (h:Bj W q G2)=>show Calls prog 115 #[.slice q G2.length c] W fun e w'=>e=.returned (.tuple #[.string (bs dd),.int .i64 cc])∧Bw W w' from by
     have h1:=ayn (cap:=c) h (CR.QR adX) (by have:=VR.1;omega) VR.2;rw[VL,Pz] at h1;exact h1)
    have Kz:=Hi VL;have Bh:=Hi Pz;have mX:=Hi auN;have Xj:=AV w3 (.cells #[.string (bs run),.string (bs s)] 51);have aL:=Hi (AP w3 (.cells #[.string (bs run),.string (bs s)] 51));have UZ:=Hi Xj;have c0P:(w3.alloc (.cells #[.string (bs run),.string (bs s)] 51)).drew.cell? q=some (.string (bs run)):=(Xj.cell (D7 c0)).trans c0
    have aA:=Hi (fun(V:World) (hV:Bw w3 V)=>show V.cell? ⟨pb,0,none⟩=some (.string (bs run))∧V.cell? ⟨pb,1,none⟩=some (.string (bs s)) from by
     have h1:=(hV.block _ (Ao nz)).trans nz;exact⟨cr h1,cr h1⟩)
    clear JZ Zm aa0 VR VL Pz Xj Oy;go_wp2_with fail;refine aj ?_
    go_region_law
     (first
      |(go_simp;go_at_call 117;refine(WS _ ((Ah _ w3).drew)).mono ?_;rintro e w4 ⟨q4,c4,rfl,Hy,AB⟩;have AB:Bw w3 w4:=((Ah _ w3).drew).trans (AB.mono (Ae _));have Le:=Hi (Fu Hy (show w3.heap.size≤_ from Ae _));have AU:=Hi AB;obtain⟨cq0,cq1⟩:=aA w4 AB;go_wp2_with fail)
      |(go_simp;go_at_call 117;refine(WS _ UZ.drew).mono ?_;rintro e w4 ⟨q4,c4,rfl,Hy,AB⟩;have hp4:w4.heap[w3.heap.size]?=some (.cells #[.string (bs run),.string (bs s)] 51):=(AB.block _ (Ao aL)).trans aL.out;have AB:Bw w3 w4:=UZ.trans (((Ah _ _).drew.trans (AB.mono (Ae _))).mono UZ.size);have Le:=Hi (Fu Hy (show w3.heap.size≤_ from UZ.size));have AU:=Hi AB;obtain⟨cq0,cq1⟩:=aA w4 AB;go_wp2_with fail)
      |(go_simp;go_at_call 116;refine(Qh w5 _ _ (Bj.D9 M3)).mono ?_;rintro e w6 ⟨q6,c6,rfl,IJ,Cb⟩;have Ho:=Hi IJ;have EJ:=bH Cy Cb;go_wp2_with fail)
      |(go_simp;go_at_call 115;refine(Ky w6 q6 c6 (Bj.D9 Ho)).mono ?_;rintro e w7 ⟨rfl,EW⟩;have Ed:=bH EJ EW;go_wp2_with fail)
      |(refine step_append_lies _ (by rfl) _ _ _ (by rfl) w3.heap.size 51 i0 _ 2 32 underlying30 Bg AX AY Ba (by rfl) (by omega) (.slice q4 lf.length c4) lf.length (Dn lf) (by rfl) Le ⟨w3.heap.size,0,none⟩ 1 1 [.string (bs run),.string (bs s)] (by rfl) (by rfl) (World.news_of_block (cs:=#[.string (bs run),.string (bs s)]) (t:=51) (fr:=(0,0)) hp4) (fun u hu=>by simp at hu;rcases hu with rfl|rfl<;>rfl) (by omega) (by have:=mX.out;unfold maxLen;omega) (by have:=mX.out;omega) (by have:=AU.size;omega) w4.heap.size (by simp) ?_;intro gg cap2 w5 XH qN ahB aiM;have M3:=Hi (show BK w5 w3.heap.size (.slice (some ⟨gg,0,none⟩) (lf++[(run,s)]).length cap2) (lf++[(run,s)]) from by unfold BK;rw[Az,Uf];exact XH);have Cy:=Hi (show Bw w3 w5 from AU.grown qN AU.size (fun j e=>Ec Le e)))
      |(refine step_append_lies _ (by rfl) _ _ _ (by rfl) w3.heap.size 51 i0 _ 2 32 underlying30 Bg AX AY Ba (by rfl) (by omega) (.slice q4 lf.length c4) lf.length (Dn lf) (by rfl) (Le.alloc _) ⟨w4.heap.size,0,none⟩ 1 1 [.string (bs run),.string (bs s)] (by rfl) (by rfl) (World.news_of_block (cs:=#[.string (bs run),.string (bs s)]) (t:=51) (fr:=(0,0)) (AP w4 _)) (fun u hu=>by simp at hu;rcases hu with rfl|rfl<;>rfl) (by omega) (by have:=mX.out;unfold maxLen;omega) (by have:=mX.out;omega) (by have:=AU.size;rw[Ar];omega) (w4.heap.size+1) (by simp) ?_;intro gg cap2 w5 XH qN ahB aiM;have M3:=Hi (show BK w5 w3.heap.size (.slice (some ⟨gg,0,none⟩) (lf++[(run,s)]).length cap2) (lf++[(run,s)]) from by unfold BK;rw[Az,Uf];exact XH);have Cy:=Hi (show Bw w3 w5 from(AU.alloc AU.size _).grown qN (by rw[Ar];have:=AU.size;omega) (fun j e=>Ec Le e))))
    all_goals
     dsimp only[XZ];have vI:=Hi (show Bw wr w7 from AA.trans (Ed.mono AA.size));clear Hy IJ AB Cb EW qN XH ahB aiM cq0 cq1 c0 c0P cp0 cp1;by_cases DK:(BS G2).isSome=true
     ·have Pz:cc=0:=(by rw[←Bh.out,Ac DK]);obtain⟨d,hd⟩:=LM.1 DK;have VL:dd=d:=(by rw[←Kz.out,hd];rfl);rw[hd] at Od;simp only[Option.getD_some] at Od;subst Pz VL;have MP:=bz hd;have Yn:=Hi (TT.2 ⟨L9,DK⟩);have EB:name.length=17:=by rw[←M0.out];exact Gf.len _
      have Sy:=Hi (show Am.may ⟨name,dd,false⟩=true from by
       have h1:=ach Gf Yn (p:=(run,s)) (by rw[FL.out];simp);have h2:Mj Ab (Bv (l.take (k+1))) (Ab.nm ((run,s):T×T).1)=⟨name,dd,false⟩:=by
        unfold Mj;rw[show Ab.nm ((run,s):T×T).1=name from M0.out,aoy.out,hd];rfl
       rw[h2] at h1;exact h1)
      clear DK hd Bh Kz Nr;have C8:=AV w7 (.cells #[.string (bs name),.string (bs dd),.bool false] 57);have QB:=AP w7 (.cells #[.string (bs name),.string (bs dd),.bool false] 57);have Au:=bH vI C8;have OY:=Hi (alN (most:=1099511627776) (cap:=1) (HX.below Au) (HU.made _) (yJ (c:=⟨name,dd,false⟩) QB) (by omega) (by have:=Fw k;omega) (by simp) (by show 8+name.length+dd.length+0≤_;omega));have jV:Wj 1099511627776 (made A (FJ Ab (Bv (l.take k)))) [⟨name,dd,false⟩]=made A (FJ Ab (Bv (l.take (k+1)))):=by
       unfold Wj;have h1:=Fw (k+1);rw[Od.out,sJ] at h1;rw[Ac ⟨by simp[Sy.out],by omega⟩,Od.out,sJ]
      rw[jV] at OY;have CL:=bH HB Au;clear C8 QB jV;generalize YT 1099511627776 (made A (FJ Ab (Bv (l.take k)))) [⟨name,dd,false⟩]=cd at*;go_wp2_with fail;refine OY.mono ?_;rintro e w8⟨rfl,v8,XR,PT⟩;have Cz:=Hi (show xZ w w.heap.size A l (.int .i64 ((k:Int)+1)) w8 from⟨k+1,v8,by omega,by go_num,XR,Yn,Cq CL PT (fun i e=>Nat.le_of_eq e.symm) CL.size,xg⟩);clear XR PT;go_wp2;go_roundw
      case rel=>exact Cz.out
      case measure=>
       show l.length -((k:Int)+1).toNat < l.length -((k:Int)).toNat
       omega
     ·have Pz:cc=5:=(by rw[←Bh.out,Aa DK]);subst Pz
      have Vg:=Hi (show I5 n A l=(5,A) from by
       unfold I5;split
       ·unfold GH;rw[Aa (fun hF=>DK (Nr hF))]
       ·rfl)
      have Kw:=bH HB vI;clear DK Nr TT Bh Kz;go_wp2;go_ret;rw[Vg.out];exact⟨rfl,_,HR.below Kw,A7.of_below Kw⟩
  ·obtain rfl:k=l.length:=(by omega);have C9:=L9.out;have NT:=YF.out;rw[Dq] at C9 hx NT;have FE:=Fw l.length;rw[Dq] at FE;have Jw:=Hi (azu (n:=n) (A:=A) NT C9);rw[←anB HU.out,←l7 HU.out] at Jw;have YL:=Hi (fun(W:World) (hW:Bw wr W)=>amz (hx.below hW) (by omega));have Rl:=Hi hx;obtain⟨xq,xc,rfl⟩:=Bp hx.2;have FO:=HR.below HB.out;have c1:wr.cell? ⟨r,1,none⟩=some (.int .i64 (Cn n:Int)):=cr FO.1;clear C9 hx FO HX NT;generalize hF:made A (FJ Ab (Bv l))=F at*;obtain⟨U,jk⟩:=ex (used F);rw[jk] at YL Jw FE;clear hF jk;by_cases Gl:Cn n < U
   ·have Qx:(Cn n:Int) < (U:Int):=(by omega);rw[Ac Gl] at Jw;clear Gl;go_wp2
    go_region_held3 (fun V=>V.cell? ⟨r,1,none⟩=some (.int .i64 (Cn n:Int))) (go_keep)
     (first|(go_at_call 103;refine(YL _ ((Ah _ _).drew)).mono ?_;rintro e wA ⟨rfl,DU⟩;have Au:=Hi (HB.trans ((show Bw wr wA from((Ah _ wr).drew).trans DU).mono HB.size));clear DU;have cA:wA.cell? ⟨r,1,none⟩=some (.int .i64 (Cn n:Int)):=(by rw[BF _ _ _ _ _ _ (HR.below Au).1];rfl)))
    all_goals
     go_wp2;go_ret;rw[Jw.out];exact⟨rfl,_,HR.below Au,A7.of_below Au⟩
   ·have Qx:¬ (Cn n:Int) < (U:Int):=(by omega);rw[Aa Gl] at Jw;clear Gl;go_wp2
    go_region_held3 (fun V=>V.cell? ⟨r,1,none⟩=some (.int .i64 (Cn n:Int))) (go_keep)
     (first|(go_at_call 103;refine(YL _ ((Ah _ _).drew)).mono ?_;rintro e wA ⟨rfl,DU⟩;have Au:=Hi (show Bw wr wA from((Ah _ wr).drew).trans DU);clear DU;have cA:wA.cell? ⟨r,1,none⟩=some (.int .i64 (Cn n:Int)):=(by rw[BF _ _ _ _ _ _ (HR.below (bT HB Au)).1];rfl)))
    all_goals
     have CL:=bH HB Au;have FO:=HR.below CL.out;have OI:=Rl.below Au.out;have d0:wA.cell? ⟨r,0,none⟩=some (.slice vq A.length vc):=cr FO.1;have df:=Cu _ _ 0 _ _ FO.1;have x0:wA.cell? ⟨w.heap.size,0,none⟩=some (.slice xq F.length xc):=cr OI.1;have Ib:=Hi (Cr FO.1 OI.2);clear FO c1 OI;go_wp2;go_ret;rw[Jw.out];refine⟨rfl,.slice xq F.length xc,?_,(A7.of_below (F:=fun k=>k=r) CL).setCell (p:=⟨r,0,none⟩) (.inl rfl) _⟩;refine⟨Cf _ _ 0 _ _ _ Ib.1,BH Ib.2 ((A7.refl (fun k=>k=r) wA).setCell (p:=⟨r,0,none⟩) (.inl rfl) _) (fun g hg e=>?_)⟩;rw[e] at hg;exact Bf.ne (CB Ib.2 hg) ⟨_,_,Ib.1⟩ (by decide) rfl
end Cg
namespace Hv
open Aq Af Bu Kp BM Hex BD Al Mem Cg IC
open Ap hiding T
theorem ZZ{α:Type}(f:α→Nat):∀ (S l:List α),S.Nodup→(∀ x∈S,x∈l)→(S.map f).sum≤(l.map f).sum
 |[],l,_,_=>AZ _
 |x :: S,l,hn,hs=>by
  obtain⟨a,b,e⟩:=List.append_of_mem (hs x Hg);have hx:=(Ju.1 hn).1
  have ih:=ZZ f S (a++b) (Ju.1 hn).2 (fun y hy=>by
   have h1:=hs y (GI _ hy);rw[e] at h1;rcases EG.1 h1 with h|h
   ·exact List.mem_append_left _ h
   ·rcases BZ.1 h with h|h
    ·subst h;exact absurd hy hx
    ·exact List.mem_append_right _ h)
  rw[e];simp only[Ce,Eo,D6,OQ] at ih ⊢;omega
theorem am9(f:T→Nat)(l:List T):((Bc l).map f).sum≤(l.map f).sum:=ZZ f _ _ (Wm l) (fun x hx=>(Eg l x).1 hx)
theorem am8(l:List T):(Bc l).length≤l.length:=by
 have h:=am9 (fun _=>1) l;have e:∀ l:List T,(l.map fun _=>1).sum=l.length:=fun l=>by
  induction l with
  |nil=>rfl
  |cons x l ih=>rw[Ce,Eo,ih,BN];omega
 rw[e,e] at h;exact h
theorem arn(k v:T):∀ l:M,CU (put k v l)≤CU l+(4+k.length+v.length):=by
 intro l;have h1:CU (l.filter fun p=>decide (p.1 < k))+CU (l.filter fun p=>decide (k < p.1))≤CU l:=by
  induction l with
  |nil=>exact AZ _
  |cons x l ih=>
   have e:∀ (y:T×T) (m:M),CU (y :: m)=(4+y.1.length+y.2.length)+CU m:=fun _ _=>rfl
   rw[List.filter_cons,List.filter_cons];by_cases h1:x.1 < k
   ·rw[Ac (by simpa using h1),Aa (by simpa using QQ h1),e,e];omega
   ·rw[Aa (by simpa using h1),e];split
    ·rw[e];omega
    ·omega
 have h2:CU (put k v l)=CU (l.filter fun p=>decide (p.1 < k))+((4+k.length+v.length)+CU (l.filter fun p=>decide (k < p.1))):=by
  unfold put CU;rw[D6,OQ,Ce,Eo]
 omega
theorem ah4(K:Kind)(S:List T)(hn:S.Nodup)(l:M):(S.map fun x=>CU (BG K l x)).sum≤CU l:=by
 induction l using UN with
 |h0=>
  have:∀ S:List T,(S.map fun x=>CU (BG K [] x)).sum=0:=fun S=>by
   induction S with
   |nil=>rfl
   |cons x S ih=>rw[Ce,Eo,ih];rfl
  rw[this];exact AZ _
 |h1 l p ih=>
  have e1:CU (l++[p])=CU l+(4+p.1.length+p.2.length):=by unfold CU;rw[D6,OQ];simp
  rw[e1];have key:∀ S:List T,S.Nodup→(S.map fun x=>CU (BG K (l++[p]) x)).sum≤(S.map fun x=>CU (BG K l x)).sum+(if K.nm p.1∈S then 4+p.1.length+p.2.length else 0):=by
   intro S
   induction S with
   |nil=>intro _;exact AZ _
   |cons x S ih2=>
    intro hn;have h2:=ih2 (Ju.1 hn).2;have hx:=(Ju.1 hn).1;simp only[Ce,Eo];rw[NH];by_cases e:K.nm p.1=x
    ·rw[Ac e,Ac (by rw[e];exact Hg)];rw[Aa (by rw[e];exact hx)] at h2;have:=arn p.1 p.2 (BG K l x);omega
    ·rw[Aa e];by_cases e2:K.nm p.1∈S
     ·rw[Ac e2] at h2;rw[Ac (GI _ e2)];omega
     ·rw[Aa e2] at h2;rw[Aa (by intro f;rcases BZ.1 f with f|f;exact e f;exact e2 f)];omega
  have:=key S hn;have h3:(if K.nm p.1∈S then 4+p.1.length+p.2.length else 0)≤4+p.1.length+p.2.length:=by split<;>omega
  omega
theorem aqz{l:M}{d:T}(h:BS l=some d):d.length=6+CU l:=by
 unfold BS at h;cases hp:FI l with
 |none=>rw[hp] at h;cases h
 |some s=>
  rw[hp] at h;simp only[CF] at h;split at h
  ·simp only[Ci] at h;subst h;unfold FI at hp;split at hp
   ·cases ht:BB (flat l) with
    |none=>rw[ht] at hp;cases hp
    |some a=>
     rw[ht] at hp;simp only[EP,Ci] at hp;have h6:=Wo ht;rw[oZ] at h6;subst hp;unfold A9.Fv;rw[Az,A9.BV,Az,A9.BV];omega
   ·cases hp
  ·cases h
theorem lZ{K:Kind}(hK:K.BX)(l:M):F8 (EZ K l)≤31*l.length+CU l:=by
 have h1:=ah4 K (Bc (l.map fun p=>K.nm p.1)) (Wm _) l;have h2:=am8 (l.map fun p=>K.nm p.1);rw[Ca] at h2;have h3:∀ S:List T,(∀ x∈S,∃ p∈l,K.nm p.1=x)→F8 (S.map (Mj K l))≤31*S.length+(S.map fun x=>CU (BG K l x)).sum:=by
  intro S
  induction S with
  |nil=>intro _;exact AZ _
  |cons x S ih=>
   intro hS;have h4:=ih (fun y hy=>hS y (GI _ hy));obtain⟨p,_,hp⟩:=hS x Hg;have e:F8 ((x :: S).map (Mj K l))=(8+x.length+((BS (BG K l x)).getD []).length)+F8 (S.map (Mj K l)):=by
    unfold F8;rw[Ce,Ce,Eo];rfl
   have IK:x.length=17:=(by rw[←hp];exact hK.len _);have hd:((BS (BG K l x)).getD []).length≤6+CU (BG K l x):=by
    cases hc:BS (BG K l x) with
    |none=>exact AZ _
    |some d=>rw[Option.getD_some,aqz hc];exact Ae _
   rw[e,Ce,Eo,BN];omega
 have h5:=h3 (Bc (l.map fun p=>K.nm p.1)) (fun x hx=>by
  rw[Eg] at hx;obtain⟨p,hp,e⟩:=BA.1 hx;exact⟨p,hp,e⟩)
 show F8 ((Bc (l.map fun p=>K.nm p.1)).map (Mj K l))≤_
 omega
theorem afX(l:M):CU l=4*l.length+Y1 l:=by
 unfold CU Y1
 induction l with
 |nil=>rfl
 |cons p l ih=>
  rw[Ce,Eo,Ce,Eo,BN,ih];omega
theorem aAl{l:List T}{s:T}(h:BB l=some s):∀ t∈l,t.length≤65535:=by
 induction l generalizing s with
 |nil=>intro t ht;simp at ht
 |cons x l ih=>
  simp only[BB] at h;cases h1:Em x with
  |none=>rw[h1] at h;cases h
  |some a=>
   rw[h1,CF] at h;cases h2:BB l with
   |none=>rw[h2] at h;cases h
   |some b=>
    intro t ht;rcases BZ.1 ht with rfl|ht
    ·unfold Em at h1;split at h1
     ·assumption
     ·cases h1
    ·exact ih h2 t ht
theorem anz{u:T×List T}(h:(D5 (Bc u.2)).2=0):(PZ u).2.length≤2+16*dW u.2:=by
 obtain⟨s,hs⟩:=LM.1 (ayR.1 h);have e:(PZ u).2=s:=by
  show(D5 (Bc u.2)).1=s
  unfold D5;rw[hs]
 rw[e];unfold Gt at hs;split at hs
 ·cases ht:BB (Bc u.2) with
  |none=>rw[ht] at hs;cases hs
  |some a=>
   rw[ht] at hs;simp only[EP,Ci] at hs;have h6:=Wo ht;have h7:=aAl ht;have h8:s.length=2+a.length:=(by rw[←hs,Az,A9.BV]);have h9:((Bc u.2).map fun s=>2+s.length).sum≤16*((Bc u.2).map fun s=>2+min s.length 4096).sum:=by
    clear hs ht h6 e h
    revert h7
    generalize Bc u.2=l;intro h7
    induction l with
    |nil=>exact AZ _
    |cons x l ih=>
     have h1:=ih (fun t ht=>h7 t (GI _ ht));have h2:=h7 x Hg;rw[Ce,Eo,Ce,Eo];omega
   have pX:=am9 (fun s=>2+min s.length 4096) u.2;have h11:dW u.2=(u.2.map fun s=>2+min s.length 4096).sum:=rfl;have h12:=Ay h9 (Nat.mul_le_mul_left 16 pX);unfold rowLen at h6;rw[h8,h6,h11];omega
 ·cases hs
theorem aAU{l:Us}(h:MK l):CU (Bv l)≤6*l.length+16*S9 l:=by
 induction l with
 |nil=>exact AZ _
 |cons u l ih=>
  have h1:=ih (fun x hx=>h x (GI _ hx));have h2:=anz (h u Hg);have e1:CU (Bv (u :: l))=(4+u.1.length+(PZ u).2.length)+CU (Bv l):=rfl;have e2:S9 (u :: l)=(u.1.length+dW u.2)+S9 l:=rfl;rw[e1,e2,BN];omega
theorem as3{fz:Bool}{w:World}{b y n N:Nat}{bl:Nat→Prop}{A:M}{a:Option Addr}{cap:Nat}{l:List Am}(h:FZ fz w b y bl n N A)(hN:N < 1000000000)(hL:Ew w a l)(hlen:l.length≤100000)(av3:∀ c∈l,c.name.length≤maxLen∧c.data.length≤maxLen)(UE:l.all Am.may=true→F8 l≤900000):
  Calls prog 17 #[.pointer (some ⟨y,0,none⟩),.slice a l.length cap] w fun e w'=>∃ c:Int,e=.returned (.int .i64 c)∧∃ CP,av fz w' b y CP n (N+1) A (Fy n A l,Es n A l) c∧A7 (Ig w bl) w w'∧∀ k,CP k→bl k∨w.heap.size≤k:=by
 have DY:=h.up;obtain⟨D,fp,m,x,gv,F,h1,h2,h3,h4,h5,h6,h7,h8,h9⟩:=h;have J2:=ZX DY.2.2.2.2;have FE:=UR DY.1 l;have FP:F.room=Cn n:=by unfold St.room Cn;rw[h4.size,h6]
 have hgw:=agY l;have Hz:=QV A;have Hw:D.loose.length=0:=by rw[h4.disk.loose];rfl
 have key:Calls prog 17 #[.pointer (some ⟨y,0,none⟩),.slice a l.length cap] w fun e w'=>Sd w y b m x gv fp (JD D F l) e w':=by
  by_cases hall:l.all Am.may=true
  ·have hw:=UE hall;have hok:∀ c∈l,c.name.length≤1000000∧c.data.length≤maxLen:=fun c hc=>by
    have h1:=(Mr.1 hall) c hc;unfold Am.may Fq at h1;simp only[Bool.and_eq_true,decide_eq_true_eq] at h1;unfold maxLen;omega
   have GZ:=yM D F l (by omega) (by rw[h8];omega);exact ag2 h1 h2 h3 hL hlen hok h4.good (by rw[h8];omega) (by rw[h8];omega) (by rw[h4.size];have:=h4.disk.fine.n2;unfold sz;omega) (by omega) (by omega) (by have:=ah0 h4;omega) h4.fault hall
  ·exact ag1 h1 h2 h3 hL hlen av3 h4.fault (by simpa using hall)
 refine key.mono ?_;rintro e w'⟨m',⟨he,fp',Fg,p1,p2,p3,p4,p5,p6⟩,XC⟩;refine⟨_,he,fun k=>bl k∨w.heap.size≤k,?_,p4.mono (fun k hk=>akX h1 h2 h9 k hk),fun k hk=>hk⟩;have Ct:∀ k,fp' k∨Vy y m' x Fg k→bl k∨w.heap.size≤k:=by
  rintro k (hk|hk|hk|hk)
  ·exact(p5 k hk).imp (fun e=>h9 k (.inl e)) id
  ·exact .inl (h9 k (.inr (.inl hk)))
  ·subst hk;exact XC.imp (fun e=>h9 _ (.inr (.inr (.inl e)))) id
  ·exact(p6 k hk).imp (fun e=>h9 k (.inr (.inr (.inr e)))) id
 by_cases hall:l.all Am.may=true
 ·have hw:=UE hall;have GZ:=yM D F l (by omega) (by rw[h8];omega);by_cases hr:used (made F.m l)≤F.room
  ·have hc:=afq h4 (by omega) hall hr;have SX:Fy n A l=0:=(by unfold Fy;rw[Aa (by simp[hall]),Aa (by rw[←h8,←FP];omega)]);have Lr:Es n A l=made A l:=(by unfold Es;rw[Ac ⟨hall,by rw[←h8,←FP];exact hr⟩]);rw[SX,Lr];rcases hc.out with⟨o1,o2,o3,o4,o5⟩|⟨o1,o2,o3,o4,o5,o6⟩
   ·exact .inl ⟨o1,_,fp',m',x,Fg,_,p1,p2,p3,o2,fun e=>o5 (h5 e),hc.n.trans h6,by omega,by rw[←h8];exact o3,Ct⟩
   ·refine .inr ⟨?_,o1,rfl,_,fp',m',x,Fg,_,p1,p2,p3,o3,by omega,hc.n.trans h6,⟨DY.2.1,DY.2.2.1,DY.2.2.2.2⟩,o4.trans h8,fun keep=>?_,Ct⟩
    ·cases fz with
     |false=>exact absurd (h5 rfl) o2
     |true=>rfl
    ·obtain⟨F',D',q1,q2,q3,q4⟩:=o6 keep;exact⟨F',D',q1,q2,by omega,by rw[←h8];exact q4⟩
  ·have e1:JD D F l=(D,F,4):=by
    unfold JD;rw[Aa (by simp[h4.fault]),Aa (by simp[hall]),Ac (by omega)]
   have SX:Fy n A l=4:=(by unfold Fy;rw[Aa (by simp[hall]),Ac (by rw[←h8,←FP];omega)]);have Lr:Es n A l=A:=(by unfold Es;rw[Aa (fun e=>hr (by rw[h8,FP];exact e.2))]);rw[e1] at p1 p2 ⊢;rw[SX,Lr];exact .inl ⟨rfl,D,fp',m',x,Fg,F,p1,p2,p3,h4,h5,h6,by omega,h8,Ct⟩
 ·have GU:l.all Am.may=false:=by simpa using hall
  have e1:JD D F l=(D,F,2):=by
   unfold JD;rw[Aa (by simp[h4.fault]),Ac GU]
  have SX:Fy n A l=2:=by unfold Fy;rw[Ac GU]
  have Lr:Es n A l=A:=by unfold Es;rw[Aa (fun e=>hall e.1)]
  rw[e1] at p1 p2 ⊢;rw[SX,Lr];exact .inl ⟨rfl,D,fp',m',x,Fg,F,p1,p2,p3,h4,h5,h6,by omega,h8,Ct⟩
section
variable {B:Nat}{w0 w w':World}{b y n N r:Nat}{A A' R R':M}{L:List (Nat×Obj)}
structure Duo(B:Nat)(w0 W:World)(b y n N:Nat)(A:M)(r:Nat)(R:M)(L:List (Nat×Obj)):Prop where
 x:Vn B w0 W b y n N A (fun k=>k=r∨∃ o,(k,o)∈L)
 at_:∀ k o,(k,o)∈L→W.heap[k]?=some o
 rf:∃ v,Hq W r v R (Cn n)
 ne:∀ o,(r,o)∉L
 ge:B≤r
theorem Duo.step(h:Duo B w0 w b y n N A r R L)(hb:Bw w w'):Duo B w0 w' b y n N A r R L:=by
 obtain⟨v,hv⟩:=h.rf;exact⟨h.x.step hb,fun k o ho=>(hb.block k (Dm.1 (h.at_ k o ho)).1).trans (h.at_ k o ho),⟨v,hv.below hb⟩,h.ne,h.ge⟩
theorem Duo.pick(h:Duo B w0 w b y n N A r R L):∃ bl,Sg w b y bl n N A∧(∀ k,bl k→k < w.heap.size)∧∀ {N':Nat} {A':M} {w':World},Goes w b y bl n N' A' w'→Duo B w0 w' b y n N' A' r R L:=by
 obtain⟨⟨h1,h2,hx,bl,h3,h4⟩,ha,⟨v,hv⟩,hn,hg⟩:=h;refine⟨_,h3.shrink,fun k hk=>hk.2,fun {N' A' w'} ⟨CP,g1,g2,g3⟩=>?_⟩;obtain⟨k1,k2⟩:=Vn.turn h1 h2 hx (fun k hk=>h4 k hk.1) g1 g2 g3;exact⟨k1,fun k o ho=>(k2 k (.inr ⟨o,ho⟩)).trans (ha k o ho),⟨v,hv.noS g2⟩,hn,hg⟩
theorem Duo.ref(h:Duo B w0 w b y n N A r R L){v':Value}(hr:Hq w' r v' R' (Cn n))(hu:A7 (fun k=>k=r) w w'):Duo B w0 w' b y n N A r R' L:=by
 obtain⟨⟨h1,h2,hx,bl,h3,h4⟩,ha,⟨v,hv⟩,hn,hg⟩:=h;refine⟨⟨Cq h1 hu (fun k hk=>by subst hk;exact hg) h2,Ay h2 hu.size,fun k hk=>I9 (hx k hk) hu.size,bl,h3.upd hu (fun k hk e=>?_) (fun k hk e=>(h4 k hk).2 (.inl e)),h4⟩,fun k o ho=>?_,⟨v',hr⟩,hn,hg⟩
 ·subst e;exact Bf.ne hk ⟨_,_,hv.1⟩ (by decide) rfl
 ·exact(hu.block k (Dm.1 (ha k o ho)).1 (fun e=>by subst e;exact hn o ho)).trans (ha k o ho)
theorem Duo.AQ(h:Duo B w0 w b y n N A r R L):Below B w0 w:=h.x.1
theorem Duo.cell(h:Duo B w0 w b y n N A r R L){k:Nat}{cs:Array Value}{t:TypeId}(hm:(k,.cells cs t)∈L)(i:Nat):w.cell? ⟨k,i,none⟩=cs[i]? :=BF w k i cs t _ (h.at_ _ _ hm)
theorem Duo.new(h:Duo B w0 w b y n N A r R L)(o:Obj):Duo B w0 (w.alloc o) b y n N A r R ((w.heap.size,o) :: L):=by
 have hs:=h.step (AV w o);obtain⟨⟨h1,h2,hx,bl,h3,h4⟩,ha,⟨v,hv⟩,hn,hg⟩:=h;have hb:=AV w o;have BL:(w.alloc o).heap.size=w.heap.size+1:=Ar _ _;refine⟨⟨h1.trans (hb.mono h2),Ay h2 hb.size,fun k hk=>?_,fun k=>bl k∧k < w.heap.size,h3.shrink.below hb,fun k hk=>⟨(h4 k hk.1).1,fun K9=>?_⟩⟩,fun k o' ho=>?_,hs.rf,fun o' ho=>?_,hg⟩
 ·rcases hk with e|⟨o',ho⟩
  ·have:=hx k (.inl e);omega
  ·rcases BZ.1 ho with e|e
   ·cases e;omega
   ·have:=hx k (.inr ⟨o',e⟩);omega
 ·rcases K9 with e|⟨o',ho⟩
  ·exact(h4 k hk.1).2 (.inl e)
  ·rcases BZ.1 ho with e|e
   ·cases e;have:=hk.2;omega
   ·exact(h4 k hk.1).2 (.inr ⟨o',e⟩)
 ·rcases BZ.1 ho with e|e
  ·cases e;exact AP w o
  ·exact hs.at_ k o' e
 ·rcases BZ.1 ho with e|e
  ·have:=hx r (.inl rfl);cases e;omega
  ·exact hn o' e
theorem aeV(h:ES B w0 w b y n N A L)(hb:Bw w w'){p:Nat}{o:Obj}(hp:w.heap.size≤p)(ho:w'.heap[p]?=some o):ES B w0 w' b y n N A ((p,o) :: L):=by
 have hs:=h.step hb;obtain⟨⟨h1,h2,hx,bl,h3,h4⟩,ha⟩:=h;refine⟨⟨h1.trans (hb.mono h2),Ay h2 hb.size,fun k ⟨o',RD⟩=>?_,fun k=>bl k∧k < w.heap.size,h3.shrink.below hb,fun k hk=>⟨(h4 k hk.1).1,fun⟨o',RD⟩=>?_⟩⟩,fun k o' RD=>?_⟩
 ·rcases BZ.1 RD with e|e
  ·cases e;exact(Dm.1 ho).1
  ·have:=hx k ⟨o',e⟩;have:=hb.size;omega
 ·rcases BZ.1 RD with e|e
  ·cases e;have:=hk.2;omega
  ·exact(h4 k hk.1).2 ⟨o',e⟩
 ·rcases BZ.1 RD with e|e
  ·cases e;exact ho
  ·exact hs.at_ k o' e
theorem ara(h:ES B w0 w b y n N A L)(hb:Bw w w'){v:Value}(hr:Hq w' r v R (Cn n))(hp:w.heap.size≤r):Duo B w0 w' b y n N A r R L:=by
 have hs:=h.step hb;obtain⟨⟨h1,h2,hx,bl,h3,h4⟩,ha⟩:=h;refine⟨⟨h1.trans (hb.mono h2),Ay h2 hb.size,fun k hk=>?_,fun k=>bl k∧k < w.heap.size,h3.shrink.below hb,fun k hk=>⟨(h4 k hk.1).1,fun K9=>?_⟩⟩,hs.at_,⟨v,hr⟩,fun o ho=>?_,Ay h2 hp⟩
 ·rcases hk with e|⟨o',RD⟩
  ·subst e;exact Ao hr.1
  ·have:=hx k ⟨o',RD⟩;have:=hb.size;omega
 ·rcases K9 with e|⟨o',RD⟩
  ·have:=hk.2;omega
  ·exact(h4 k hk.1).2 ⟨o',RD⟩
 ·have:=hx r ⟨o,ho⟩;omega
theorem Duo.k(h:Duo B w0 w b y n N A r R L):ES B w0 w b y n N A L:=by
 obtain⟨⟨h1,h2,hx,bl,h3,h4⟩,ha,_⟩:=h;exact⟨⟨h1,h2,fun k ⟨o,ho⟩=>hx k (.inr ⟨o,ho⟩),bl,h3,fun k hk=>⟨(h4 k hk).1,fun⟨o,ho⟩=>(h4 k hk).2 (.inr ⟨o,ho⟩)⟩⟩,ha⟩
def GG(y:Nat):Obj:=.cells #[.pointer (some ⟨y,0,none⟩)] 160
def Gy(y:Nat):Obj:=.cells #[.pointer (some ⟨y,0,none⟩)] 162
theorem awC(n:Nat)(h8:8≤n)(hn:n≤16384)(w:World):Calls prog 38 #[.int .i64 (n:Int)] w fun e w'=>∃ b y p,e=.returned (.tuple #[.pointer (some ⟨y,0,none⟩),.pointer (some ⟨p,0,none⟩)])∧ES w.heap.size w w' b y n 0 [] [(p,GG y)]:=by
 go_in
 go_wp2_with fail;refine(axo n (by omega) (by omega)).mono ?_;rintro e w1⟨b,fp,rfl,SY,ahD,Et⟩;have Qb:=Hi SY;have HB1:=Hi ahD;have P7:=Hi Et;clear SY ahD Et;go_wp2_with fail;refine(axf HB1 HB1.size (n:=n) h8 hn Qb P7).mono ?_;rintro e w2⟨y,rfl,h2⟩;have H2:=Hi h2;clear h2 Qb P7 HB1;go_wp2_with fail;refine(ax4 y _).mono ?_;rintro e w3⟨p,rfl,hm,hp,Aw⟩;have H3:=Hi (aeV (ES.of H2) Aw hp hm);clear Aw H2 hm hp;go_wp2;go_ret2;exact⟨b,y,p,rfl,H3⟩
