/- PrsW PrsX PrsY -/
import Derived.Test.YtmbbhdebddbhoaaGreatQ22
set_option maxHeartbeats 4000000
set_option maxRecDepth 100000
set_option linter.all false
namespace Go.Proofs.YtmbbhdebddbhoaaGreat
open Tryz
namespace Prs
open Go.RowKit Go.Maps
open Fil Man
structure KV(w:World)(q:Addr)(p:T×T):Prop where
 key:w.cell? q=some (.string (bs p.1))
 val:w.cell? ⟨q.block,q.off+1,none⟩=some (.string (bs p.2))
def Av(w:World)(a:Option Addr)(l:M):Prop:=∀ i,(h:i < l.length)→∃ p:Addr,a=some p∧KV w (p.add (i*2)) l[i]
abbrev AP(w:World)(base:Nat)(v:Value)(l:M):Prop:=w.ownsRow base 75 2 v l.length (Cj l)
theorem LU:(prog.info? 75).map (fun i=>(i.zero,i.size,i.bytes))=some (some (.agg #[.string ByteArray.empty,.string ByteArray.empty]),2,32):=by kernel_rfl
section
variable {w w':World}{a:Option Addr}{l:M}
theorem KV.upd{F:Nat→Prop}{q:Addr}{p:T×T}(h:KV w q p)(hu:A7 F w w')(hF:¬ F q.block):KV w' q p:=by
 have hl:=Bz h.key;exact⟨(hu.cell hl hF).trans h.key,(hu.cell (p:=⟨q.block,q.off+1,none⟩) hl hF).trans h.val⟩
theorem Av.upd{F:Nat→Prop}(h:Av w a l)(hu:A7 F w w')(hF:∀ p,a=some p→l≠[]→¬ F p.block):Av w' a l:=fun i hi=>by
 obtain⟨p,e,hp⟩:=h i hi;exact⟨p,e,hp.upd hu (by rw[add_block];exact hF p e (List.ne_nil_of_length_pos (by omega)))⟩
theorem Av.below(h:Av w a l)(hb:Bw w w'):Av w' a l:=h.upd (ub hb) (fun _ _ _ f=>f)
theorem Av.nil(w:World)(a:Option Addr):Av w a []:=fun i hi=>by simp at hi
theorem Av.index(h:Av w a l)(cap k:Nat)(hk:k < l.length):
  ∃ q:Addr,(∀ W,(Instr.indexAt 22 (.slice a l.length cap) (.int .i64 (k:Int))).run prog W=.ok (.pointer (some q)) W)∧KV w q l[k]∧∃ p:Addr,a=some p∧q.block=p.block:=by
 obtain⟨p,rfl,hp⟩:=h k hk;exact⟨_,fun W=>Fw prog _ 75 underlying22 2 (by kernel_rfl) p l.length cap k hk W,hp,p,rfl,add_block _ _⟩
theorem Av.BU{base n:Nat}{c:Nat}{q:Option Addr}(h:AP w base (.slice q n c) l):Av w q l:=fun i hi=>by
 rcases h.2 with⟨e1,e2⟩|⟨g,cap',cur,e1,_⟩
 ·omega
 ·have e2:q=some ⟨g,0,none⟩:=by injection e1
  subst e2;have hc:∀ j,j < 2→∀ v,([.string (bs l[i].1),.string (bs l[i].2)]:List Value)[j]?=some v→w.cell? (((⟨g,0,none⟩:Addr).add (i*2)).add j)=some v:=fun j hj v hv=>by
   rw[←aN l i hi j hj] at hv;have:=h.cells (g:=g) rfl _ _ hv;rw[add_plain] at this ⊢;rw[Qr];exact this
  refine⟨_,rfl,?_,?_⟩
  ·have:=hc 0 (by omega) _ rfl;rwa[add_zero'] at this
  ·have:=hc 1 (by omega) _ rfl;rw[add_plain,Qr] at this;rw[add_plain];exact this
theorem aan(a b:M):Cj (a++b)=Cj a++Cj b:=by unfold Cj;rw[Kk]
theorem Ve(l:M):(Cj l).length=l.length*2:=by
 unfold Cj
 induction l with
 |nil=>rfl
 |cons p l ih=>rw[List.flatMap_cons,Aj,ih,AX];simp;omega
theorem aao(l:M):∀ u∈Cj l,u.oneCell'=true:=by
 unfold Cj;intro u hu;obtain⟨p,_,hp⟩:=JE.1 hu;simp only[AZ,List.not_mem_nil,or_false] at hp;rcases hp with rfl|rfl<;>rfl
theorem Av.cells{p:Addr}(h:Av w (some p) l):∀ j u,(Cj l)[j]?=some u→w.cell? (p.add j)=some u:=fun j u hj=>by
 have hlt:j < l.length*2:=by
  have:=(Ql.1 hj).1;rwa[Ve] at this
 obtain⟨i,r,hr,rfl⟩:∃ i r,r < 2∧j=i*2+r:=⟨j / 2,j % 2,by omega,by omega⟩;have hi:i < l.length:=by omega
 obtain⟨q,e,hp⟩:=h i hi;cases e;have hg:=aN l i hi r hr;rw[hj] at hg
 match r,hr with
 |0,_=>
  have:u=.string (bs l[i].1):=by simpa using hg
  rw[this];exact hp.key
 |1,_=>
  have:u=.string (bs l[i].2):=by simpa using hg
  rw[this,←Addr.add_add];have e3:(p.add (i*2)).add 1=⟨(p.add (i*2)).block,(p.add (i*2)).off+1,none⟩:=by
   generalize p.add (i*2)=q;unfold Addr.add;simp
  rw[e3];exact hp.val
def aap(v:Value):Nat:=match v with| .slice _ n _=>n|_=>0
def FT(q:Option Addr)(cap k:Nat):Option Addr:=if cap=k then q else q.map (·.add (k*2))
theorem lJ(W:World)(q:Option Addr)(n cap k:Nat)(hk:k≤n)(hc:n≤cap):
  (Instr.slice 22 (.slice q n cap) none (some (.int .i64 (k:Int))) none).run prog W=.ok (.slice q k cap) W:=by
 obtain⟨i,hi,_,hs,_⟩:=Cz LU;cases q<;>simp[Instr.slice,ER underlying22,Instr.sliceBounds,sizeOf,typeInfo,hi,go_sem]<;>omega
theorem Vf(W:World)(q:Option Addr)(n cap k:Nat)(hk:k≤n):
  (Instr.slice 22 (.slice q n cap) (some (.int .i64 (k:Int))) none none).run prog W=.ok (.slice (FT q cap k) (n -k) (cap -k)) W:=by
 obtain⟨i,hi,_,hs,_⟩:=Cz LU;cases q
 ·simp[Instr.slice,ER underlying22,Instr.sliceBounds,sizeOf,typeInfo,hi,go_sem,FT];exact fun h=>absurd h (by omega)
 ·simp[Instr.slice,ER underlying22,Instr.sliceBounds,sizeOf,typeInfo,hi,hs,go_sem,FT];exact fun h=>absurd h (by omega)
theorem Av.front(h:Av w a l)(k:Nat):Av w a (l.take k):=fun i hi=>by
 rw[Aw] at hi;obtain⟨p,hp,hc⟩:=h i (by omega);exact⟨p,hp,by rw[List.getElem_take];exact hc⟩
theorem Av.back(h:Av w a l){cap k:Nat}(hk:k≤l.length)(hc:l.length≤cap):Av w (FT a cap k) (l.drop k):=fun i hi=>by
 rw[BA] at hi;obtain⟨p,hp,hcl⟩:=h (k+i) (by omega);refine⟨p.add (k*2),?_,?_⟩
 ·unfold FT;rw[Aa (by omega),hp];rfl
 ·rw[Addr.add_add,List.getElem_drop,show k*2+i*2=(k+i)*2 by omega];exact hcl
end
section
variable {w:World}
theorem T9{ops:Array Oper}{rest:List Oper}{o:Oper}{a:Act}{Q:Exit→Act→World→Prop}(hgd:o.guard=none)(s x:Operand)
  (ho:o.op=.call { callee:=.builtin .append,args:=#[s,x],argTypes:=#[22,22] })
  (base:Nat)(v:Value)(n:Nat)(l k:M)(hs:a.eval s=v)(hown:w.ownsRow base 75 2 v n (Cj l))(q:Option Addr)(cap m:Nat)(hx:a.eval x=.slice q m cap)(hm:k.length=m)(hk:Av w q k)(hq:q=none→cap=0)
  (hn:n+m≤1000000000)(auJ:base≤w.heap.size)
  (h:∀ v' w',w'.ownsRow base 75 2 v' (n+m) (Cj (l++k))→w.grownBy w' v.ownBlock→(v'.ownBlock=v.ownBlock∨v'.ownBlock=some w.heap.size)→wpList prog ops Q rest (a.put o.dst v') w'):
  wpList prog ops Q (o :: rest) a w:=by
 obtain⟨i0,hi0,hz0,hz1,hz2⟩:=Cz LU;subst hm;cases q with
 |none=>
  obtain rfl:k=[]:=by
   cases k with
   |nil=>rfl
   |cons y k=>
    obtain⟨p,hp,_⟩:=hk 0 (by simp);cases hp
  rw[hq rfl] at hx;refine wpList_append_own_none hgd s x _ ho base 75 i0 2 underlying22 hi0 v n (Cj l) hs hown hx ?_;exact h v w (by rw[E8];exact hown) (World.grownBy.refl w _) (.inl rfl)
 |some ad=>
  refine wpList_append_own_at w hgd s x _ ho base 75 i0 _ 2 32 underlying22 hi0 hz0 hz1 hz2 rfl (by decide) v n (Cj l) hs hown ad k.length cap (Cj k) hx (Ve k) hk.cells (aao k) (by unfold maxLen;omega) (by omega) auJ ?_;intro v' w' h1 h2 _ h4;refine h v' w' ?_ h2 h4;rw[aan];exact h1
theorem akG(w:World):AP (w.alloc (.cells #[] 75)) w.heap.size (.slice (some ⟨w.heap.size,0,none⟩) 0 0) []:=
 ⟨by unfold Cj;rfl,.inr ⟨w.heap.size,0,#[],rfl,Ab _,Aq w _,Ab _,Ar _,rfl,by unfold Cj;rfl⟩⟩
theorem Dl{base:Nat}{v:Value}{l:M}(h:AP w base v l):∃ q cap,v=.slice q l.length cap∧(q=none→cap=0)∧l.length≤cap:=by
 rcases h.2 with⟨e1,e2⟩|⟨g,cap,_,e1,_,_,hn,_⟩
 ·exact⟨none,0,by rw[e1,e2],fun _=>rfl,by omega⟩
 ·exact⟨_,cap,e1,(fun e=>by cases e),hn⟩
theorem aO(p q:T×T)(w:World):
  Calls prog 147 #[.agg #[.string (bs p.1),.string (bs p.2)],.agg #[.string (bs q.1),.string (bs q.2)]] w fun e w'=>e=.returned (.bool (decide (p.1 < q.1)))∧Bw w w':=by
 have hb:=((Ad w.heap.size w).alloc (Ab _) (.cells #[.string (bs p.1),.string (bs p.2)] 75)).alloc (by rw[Ai];omega) (.cells #[.string (bs q.1),.string (bs q.2)] 75);have HB:=Hi hb;have HV:=Hi (show Op.bytesLess p.1 q.1=decide (p.1 < q.1) from by rw[Go.Proofs.bytesLess_eq]);clear hb;generalize decide (p.1 < q.1)=r at*;have hv:=HV.out;go_enter func147,ntmps147;go_wp2_with fail;go_ret;exact⟨rfl,HB⟩
theorem aaq(w:World)(p:Option Addr)(n c:Nat):(binOp .eql 22 (.slice p n c) (.slice none 0 0)).run prog w=.ok (.bool p.isNone) w:=by
 have h:∀ d,(Op.equalIn (d+1) 22 (.slice p n c) (.slice none 0 0)).run prog w=.ok p.isNone w:=fun d=>by
  cases p<;>simp[Op.equalIn,ER underlying22]
 simp only[binOp];simp[show Op.equal 22 (.slice p n c) (.slice none 0 0)=Op.equalIn (9999+1) 22 (.slice p n c) (.slice none 0 0) from rfl,h 9999]
theorem Ta{q:Option Addr}{cap:Nat}{l:M}(h:Av w q l)(hq:q=none→cap=0)(hl:l.length≤1000000000):
  Calls prog 69 #[.slice q l.length cap] w fun e w'=>∃ v,e=.returned v∧AP w' w.heap.size v l∧Bw w w':=by
 cases q with
 |none=>
  obtain rfl:cap=0:=hq rfl;have hl0:l=[]:=by
   cases l with
   |nil=>rfl
   |cons x l=>obtain⟨p,e,_⟩:=h 0 (by simp);cases e
  subst hl0;have hqe:=fun w=>aaq w none 0 0
  clear h;go_enter func69,ntmps69;go_wp2_with fail;go_ret;exact⟨_,rfl,by unfold AP;rw[LQ];exact DJ _ _ _ _,Ad _ _⟩
 |some p=>
  have HH:=Hi h;have hqe:=fun w=>aaq w (some p) l.length cap
  clear h hq;go_enter func69,ntmps69;go_wp2_with (at_builtin;refine T9 rfl _ _ rfl w.heap.size _ 0 [] l rfl (akG w) (some p) cap l.length rfl rfl (HH.below (Am w _)) (fun e=>by cases e) (by simpa using hl) (by rw[Ai];omega) ?_;intro v' w1 hown asx hat);go_ret;refine⟨v',rfl,by rw[Fs,DI] at hown;exact hown,(Am w _).grown asx (by rw[Ai];omega) (fun k e=>?_)⟩;have e':some w.heap.size=some k:=e;have:=EH e';omega
def akH(w:World)(A B:M)(va vb vo:Value)(wr:World):Prop:=∃ (A' B' O:M) (MH MI:Option Addr) (JY cb':Nat),va=.slice MH A'.length JY∧vb=.slice MI B'.length cb'∧Av w MH A'∧Av w MI B'∧(MH=none→JY=0)∧(MI=none→cb'=0)∧A'.length≤JY∧B'.length≤cb'∧
   O++mrg A' B'=mrg A B∧O.length+A'.length+B'.length=A.length+B.length∧AP wr w.heap.size vo O∧Bw w wr
theorem aar{qa qb:Option Addr}{ca cb:Nat}{A B:M}(hA:Av w qa A)(hB:Av w qb B)(ha:qa=none→ca=0)(hb:qb=none→cb=0)(hac:A.length≤ca)(hbc:B.length≤cb)(hl:A.length+B.length≤1000000):
  Calls prog 146 #[.slice qa A.length ca,.slice qb B.length cb,.func (.func 147) #[] #[]] w fun e w'=>∃ v,e=.returned v∧AP w' w.heap.size v (mrg A B)∧Bw w w':=by
 obtain⟨i0,hi0,hz0,hz1,hz2⟩:=Cz LU;obtain⟨w1,hmk,ast,hgr⟩:=run_make_own (P:=prog) w w.heap.size 22 75 i0 _ 2 underlying22 hi0 hz0 hz1 .i64 .i64 (A.length+B.length) (by rw[hz2];omega) (by unfold maxLen;omega) (Ab _);rw[Int.natCast_add] at hmk;have asV:((A.length:Int)+(B.length:Int))≤1000000:=by omega
 have HA:=Hi hA;have HB:=Hi hB;have Ce:=Hi (show AP w1 w.heap.size (.slice (some ⟨w.heap.size,0,none⟩) 0 (A.length+B.length)) [] from by unfold AP;rw[LQ];exact ast);have aP:=Hi ((Ad w.heap.size w).grown hgr (Ab _) (fun k e=>by cases e));have HQA:=Hi ha;have HQB:=Hi hb;clear hA hB ast hgr ha hb;go_enter func146,ntmps146;go_wp2_with fail
 go_loopw [0,1,7] (fun va vb vo wr=>akH w A B va vb vo wr) (fun va vb _ _=>aap va+aap vb)
 case atStart=>exact⟨A,B,[],qa,qb,ca,cb,rfl,rfl,HA,HB,HQA,HQB,hac,hbc,rfl,by simp,Ce,aP⟩
 case round=>
  obtain⟨A',B',O,MH,MI,JY,cb',rfl,rfl,hA',hB',ha',hb',aau,aav,hm,hlen,ast,aAn⟩:=hrel;obtain⟨qo,co,rfl⟩:=AA ast;have Xt:=Hi hA';have Xu:=Hi hB';have aQ:=Hi ha';have aR:=Hi hb';have HM:=Hi hm;have HL:=Hi hlen;have HR:=Hi ast;have HW:=Hi aAn;have Vg:=Hi aau;have GG:=Hi aav;clear hA' hB' ha' hb' hm hlen ast aAn HA HB Ce aP HQA HQB hac hbc aau aav hmk asV;by_cases hA0:A'=[]
  ·have HE:=Hi (show(O++A')++B'=mrg A B from by rw[←HM.out,hA0,Xj,E8]);have hza:¬ (0:Int) < (A'.length:Int):=(by rw[hA0];simp);clear hA0
   go_wp2_with (at_builtin;first
    |(refine T9 rfl _ _ rfl w.heap.size (.slice qo O.length co) O.length O A' rfl HR MH JY A'.length rfl rfl (Xt.below HW) aQ (by have:=HL.out;omega) HW.size ?_;intro v1 w1 h1 g1 _;obtain⟨q1,c1,rfl⟩:=AA h1;have H1:=Hi h1;have W1:=Hi (HW.grown g1 HW.size (fun k e=>CJ HR e));clear h1 g1)
    |(refine T9 rfl _ _ rfl w.heap.size (.slice q1 (O.length+A'.length) c1) (O.length+A'.length) (O++A') B' rfl H1 MI cb' B'.length rfl rfl (Xu.below W1) aR (by have:=HL.out;omega) W1.size ?_;intro v2 w2 h2 g2 _;have H2:=Hi h2;have W2:=Hi (W1.grown g2 W1.size (fun k e=>CJ H1 e));clear h2 g2))
   go_ret;exact⟨v2,rfl,by unfold AP;rw[←HE.out,Aj,Aj];exact H2.out,W2⟩
  ·by_cases hB0:B'=[]
   ·have HE:=Hi (show(O++A')++B'=mrg A B from by rw[←HM.out,hB0,aB,E8]);have hza:(0:Int) < (A'.length:Int):=(by have:=List.length_pos_iff.2 hA0;omega);have hzb:¬ (0:Int) < (B'.length:Int):=(by rw[hB0];simp);clear hA0 hB0
    go_wp2_with (at_builtin;first
     |(refine T9 rfl _ _ rfl w.heap.size (.slice qo O.length co) O.length O A' rfl HR MH JY A'.length rfl rfl (Xt.below HW) aQ (by have:=HL.out;omega) HW.size ?_;intro v1 w1 h1 g1 _;obtain⟨q1,c1,rfl⟩:=AA h1;have H1:=Hi h1;have W1:=Hi (HW.grown g1 HW.size (fun k e=>CJ HR e));clear h1 g1)
     |(refine T9 rfl _ _ rfl w.heap.size (.slice q1 (O.length+A'.length) c1) (O.length+A'.length) (O++A') B' rfl H1 MI cb' B'.length rfl rfl (Xu.below W1) aR (by have:=HL.out;omega) W1.size ?_;intro v2 w2 h2 g2 _;have H2:=Hi h2;have W2:=Hi (W1.grown g2 W1.size (fun k e=>CJ H1 e));clear h2 g2))
    go_ret;exact⟨v2,rfl,by unfold AP;rw[←HE.out,Aj,Aj];exact H2.out,W2⟩
   ·have hla:=List.length_pos_iff.2 hA0;have hlb:=List.length_pos_iff.2 hB0;have hza:(0:Int) < (A'.length:Int):=(by omega);have hzb:(0:Int) < (B'.length:Int):=(by omega);obtain⟨pa,hia,aS,-⟩:=Xt.index JY 0 hla;obtain⟨pb,hib,hpb,-⟩:=Xu.index cb' 0 hlb;have arl:∀ W,(Instr.indexAt 22 (.slice MH A'.length JY) (.int .i64 0)).run prog W=.ok (.pointer (some pa)) W:=hia;have arn:∀ W,(Instr.indexAt 22 (.slice MI B'.length cb') (.int .i64 0)).run prog W=.ok (.pointer (some pb)) W:=hib;have hsa:∀ W,(Instr.slice 22 (.slice MH A'.length JY) (some (.int .i64 1)) none none).run prog W=.ok (.slice (FT MH JY 1) (A'.length -1) (JY -1)) W:=fun W=>Vf W MH A'.length JY 1 hla
    have hsb:∀ W,(Instr.slice 22 (.slice MI B'.length cb') (some (.int .i64 1)) none none).run prog W=.ok (.slice (FT MI cb' 1) (B'.length -1) (cb' -1)) W:=fun W=>Vf W MI B'.length cb' 1 hlb
    have LF:=Na hla;have Re:=Na hlb;rw[List.drop_zero] at LF Re;obtain⟨x,hx⟩:=ex (A'[0]);obtain⟨y,hy⟩:=ex (B'[0]);rw[hx] at aS LF;rw[hy] at hpb Re
    have KC:=Hi (fun(W:World) (hW:Bw w W)=>(show W.cell? pa=some (.string (bs x.1))∧W.cell? ⟨pa.block,pa.off+1,none⟩=some (.string (bs x.2))∧W.cell? pb=some (.string (bs y.1))∧W.cell? ⟨pb.block,pb.off+1,none⟩=some (.string (bs y.2)) from
     ⟨(aS.upd (ub hW) (fun f=>f)).key,(aS.upd (ub hW) (fun f=>f)).val,(hpb.upd (ub hW) (fun f=>f)).key,(hpb.upd (ub hW) (fun f=>f)).val⟩))
    have Ha:=Hi LF;have Xg:=Hi Re;obtain⟨k1,k2,k3,k4⟩:=KC _ HW.out;have Vh:=Hi HW.drew;clear hia hib aS hpb hx hy LF Re hA0 hB0;by_cases hlt:y.1 < x.1
    ·have hd:decide (y.1 < x.1)=true:=Gs hlt
     have HN:=Hi (show(O++[y])++mrg A' (B'.drop 1)=mrg A B from by
      rw[←HM.out]
      conv=>rhs;rw[Ha.out,Xg.out,Xk,Ac hlt]
      rw[Cw,←Ha.out];rfl)
     clear hlt;go_wp2_with fail
     go_region_held3 (fun W=>W.cell? pa=some (.string (bs x.1))∧W.cell? ⟨pa.block,pa.off+1,none⟩=some (.string (bs x.2))∧W.cell? pb=some (.string (bs y.1))∧W.cell? ⟨pb.block,pb.off+1,none⟩=some (.string (bs y.2)))
      (first|exact KC _ Vh|exact KC _ HB1)
      (first
       |(go_at_call 147;refine(aO y x _).mono ?_;rw[hd];rintro e W1 ⟨rfl,hb1⟩;have HB1:=Hi (Vh.trans (hb1.mono Vh.size));have HR1:=Hi (Bp HR.drew hb1);clear hb1))
     clear k1 k2 k3 k4;obtain⟨k1,k2,k3,k4⟩:=KC _ HB1.out;go_wp2_with fail
     go_region_law
      ((refine step_append_lies _ (by rfl) _ _ _ (by rfl) w.heap.size 75 i0 _ 2 32 underlying22 hi0 hz0 hz1 hz2 (by rfl) (by omega) (.slice qo O.length co) O.length (Cj O) (by rfl) ((HR1.alloc _).drew) ⟨W1.heap.size,0,none⟩ 1 1 [.string (bs y.1),.string (bs y.2)] (by rfl) (by rfl) (World.news_of_block (cs:=#[.string (bs y.1),.string (bs y.2)]) (t:=75) (fr:=(0,0)) (Aq W1 _)) (fun u hu=>by simp at hu;rcases hu with rfl|rfl<;>rfl) (by omega) (by have:=HL.out;unfold maxLen;omega) (by have:=HL.out;omega) (by have:=HB1.size;rw[World.size_drew,Ai];omega) (W1.heap.size+1) (by simp) ?_;intro gg cap2 w2 avo asx hat avm))
     all_goals
      have HW2:=Hi (((HB1.alloc HB1.size _).drew).grown asx (by have:=HB1.size;rw[World.size_drew,Ai];omega) (fun k e=>CJ HR1 e));have KT:=Hi avo;clear avo asx hat k1 k2 k3 k4;go_wp2_with fail;go_roundw
      case rel=>
       repeat apply Exists.intro
       refine⟨?_,rfl⟩;exact⟨A',B'.drop 1,O++[y],MH,FT MI cb' 1,JY,cb' -1,rfl,by rw[BA],Xt,Xu.back hlb GG,aQ,(fun e=>by have:=aR.out;have h1:=GG.out;unfold FT at e;split at e<;>simp_all<;>omega),Vg,by have:=GG.out;rw[BA];omega,HN,by have:=HL.out;simp only[Aj,Ii,BA];omega,by unfold AP;rw[Aj,NJ];exact KT.out,HW2⟩
      case measure=>
       show A'.length+(B'.length -1) < A'.length+B'.length
       omega
    ·have hd:decide (y.1 < x.1)=false:=Ma hlt
     have HN:=Hi (show(O++[x])++mrg (A'.drop 1) B'=mrg A B from by
      rw[←HM.out]
      conv=>rhs;rw[Ha.out,Xg.out,Xk,Aa hlt]
      rw[Cw,←Xg.out];rfl)
     clear hlt;go_wp2_with fail
     go_region_held3 (fun W=>W.cell? pa=some (.string (bs x.1))∧W.cell? ⟨pa.block,pa.off+1,none⟩=some (.string (bs x.2))∧W.cell? pb=some (.string (bs y.1))∧W.cell? ⟨pb.block,pb.off+1,none⟩=some (.string (bs y.2)))
      (first|exact KC _ Vh|exact KC _ HB1)
      (first
       |(go_at_call 147;refine(aO y x _).mono ?_;rw[hd];rintro e W1 ⟨rfl,hb1⟩;have HB1:=Hi (Vh.trans (hb1.mono Vh.size));have HR1:=Hi (Bp HR.drew hb1);clear hb1))
     clear k1 k2 k3 k4;obtain⟨k1,k2,k3,k4⟩:=KC _ HB1.out;go_wp2_with fail
     go_region_law
      ((refine step_append_lies _ (by rfl) _ _ _ (by rfl) w.heap.size 75 i0 _ 2 32 underlying22 hi0 hz0 hz1 hz2 (by rfl) (by omega) (.slice qo O.length co) O.length (Cj O) (by rfl) ((HR1.alloc _).drew) ⟨W1.heap.size,0,none⟩ 1 1 [.string (bs x.1),.string (bs x.2)] (by rfl) (by rfl) (World.news_of_block (cs:=#[.string (bs x.1),.string (bs x.2)]) (t:=75) (fr:=(0,0)) (Aq W1 _)) (fun u hu=>by simp at hu;rcases hu with rfl|rfl<;>rfl) (by omega) (by have:=HL.out;unfold maxLen;omega) (by have:=HL.out;omega) (by have:=HB1.size;rw[World.size_drew,Ai];omega) (W1.heap.size+1) (by simp) ?_;intro gg cap2 w2 avo asx hat avm))
     all_goals
      have HW2:=Hi (((HB1.alloc HB1.size _).drew).grown asx (by have:=HB1.size;rw[World.size_drew,Ai];omega) (fun k e=>CJ HR1 e));have KT:=Hi avo;clear avo asx hat k1 k2 k3 k4;go_wp2_with fail;go_roundw
      case rel=>
       repeat apply Exists.intro
       refine⟨?_,rfl⟩;exact⟨A'.drop 1,B',O++[x],FT MH JY 1,MI,JY -1,cb',by rw[BA],rfl,Xt.back hla Vg,Xu,(fun e=>by have:=aQ.out;have h1:=Vg.out;unfold FT at e;split at e<;>simp_all<;>omega),aR,by have:=Vg.out;rw[BA];omega,GG,HN,by have:=HL.out;simp only[Aj,Ii,BA];omega,by unfold AP;rw[Aj,NJ];exact KT.out,HW2⟩
      case measure=>
       show(A'.length -1)+B'.length < A'.length+B'.length
       omega
end
theorem aT{w:World}{base g n cap:Nat}{xs:List Value}{e:TypeId}{s:Nat}(h:w.ownsRow base e s (.slice (some ⟨g,0,none⟩) n cap) n xs)(i:Nat):w.frozen? ⟨g,i,none⟩=false:=by
 rcases h.2 with⟨e1,_⟩|⟨g',cap',cur,e1,hb,hg,_⟩
 ·cases e1
 ·injection e1 with e2 _ e3
  injection e2 with e4
  injection e4 with e5
  subst e5;exact Cb w g i _ _ hg
theorem aU{w:World}{base:Nat}{e:TypeId}{s g n cap:Nat}{xs:List Value}(h:w.ownsRow base e s (.slice (some ⟨g,0,none⟩) n cap) n xs)(i:Nat)(v:Value):(w.setCell ⟨g,i,none⟩ v).ownsRow base e s (.slice (some ⟨g,0,none⟩) n cap) n (xs.set i v):=by
 obtain⟨h1,h2⟩:=h;refine⟨by rw[List.length_set];exact h1,?_⟩;rcases h2 with⟨e1,_⟩|⟨g',cap',cur,e1,hb,hg,hn,hm,hcs,ht⟩
 ·cases e1
 ·injection e1 with e2 _ e3
  injection e2 with e4
  injection e4 with e5
  subst e5;subst e3;refine .inr ⟨g,cap,cur.setIfInBounds i v,rfl,hb,Bh w g i _ _ v hg,hn,hm,by rw[Array.size_setIfInBounds];exact hcs,?_⟩;rw[Array.toList_setIfInBounds,←ht,List.take_set]
theorem aaw(a b:T×T):Dp [a,b]=if b.1 < a.1 then[b,a] else[a,b]:=by
 rw[kY (by simp)];have e1:([a,b]:M).take ([a,b].length / 2)=[a]:=by simp
 have e2:([a,b]:M).drop ([a,b].length / 2)=[b]:=by simp
 rw[e1,e2];rw[V7 (by simp),V7 (by simp),Xk,Xj,aB]
theorem akI{q:Option Addr}{cap k:Nat}(h:q=none→cap=0)(e:FT q cap k=none):cap -k=0:=by
 unfold FT at e;split at e
 ·omega
 ·have:=h (by simpa using e);omega
theorem Da{w:World}{base Oy n s:Nat}{e:TypeId}{v:Value}{xs:List Value}(h:w.ownsRow base e s v n xs)(hb:Oy≤base):w.ownsRow Oy e s v n xs:=by
 refine⟨h.1,?_⟩;rcases h.2 with h2|⟨g,cap,cur,e0,hbb,h3⟩
 ·exact .inl h2
 ·exact .inr ⟨g,cap,cur,e0,Ah hb hbb,h3⟩
theorem akJ(w:World)(q:Option Addr)(cap:Nat)(l:M)(h2:l.length < 2)(h:Av w q l)(hq:q=none→cap=0):
  Calls prog 138 #[.slice q l.length cap] w fun e w'=>∃ v,e=.returned v∧AP w' w.heap.size v (Dp l)∧Bw w w':=by
 have HC:=Hi (Ta h hq (by omega));have hi:(l.length:Int) < 2:=by omega
 have HS:=Hi (V7 h2);clear h hq h2;go_enter func138,ntmps138;go_wp2_with fail;refine HC.mono ?_;rintro e w1⟨v,rfl,hr,hb⟩;obtain⟨q1,c1,rfl,hq1,hc1⟩:=Dl hr;have HR:=Hi hr;have HB:=Hi hb;clear hr hb hq1 hc1;go_wp2_with fail;go_ret;exact⟨_,rfl,by rw[HS.out];exact HR.out,HB⟩
theorem aax:∀ (n:Nat) (w:World) (q:Option Addr) (cap:Nat) (l:M),l.length≤n→Av w q l→(q=none→cap=0)→l.length≤1000000→
  Calls prog 138 #[.slice q l.length cap] w fun e w'=>∃ v,e=.returned v∧AP w' w.heap.size v (Dp l)∧Bw w w':=by
 intro n
 induction n with
 |zero=>exact fun w q cap l hn h hq hl=>akJ w q cap l (by omega) h hq
 |succ n ih=>
  intro w q cap l hn h hq hl;have HC:=Hi (Ta h hq (by omega));have IH:=Hi ih;clear h hq ih;obtain⟨L,hL⟩:=ex (l.length);rw[hL] at HC hl hn ⊢;have HL:=Hi hL;clear hL;go_enter func138,ntmps138;go_wp2_with fail;refine HC.mono ?_;rintro e w1⟨v,rfl,hr,hb⟩;obtain⟨q1,c1,rfl,hq1,hc1⟩:=Dl hr;rw[HL.out] at hc1 ⊢;have HR:=Hi hr;have HB:=Hi hb;have HQ:=Hi hq1;clear hr hb hq1;by_cases h2:L < 2
  ·have hi:(L:Int) < 2:=(by omega);have HS:=Hi (V7 (l:=l) (by rw[HL.out];exact h2));clear h2;go_wp2_with fail;go_ret;exact⟨_,rfl,by rw[HS.out];rw[HL.out] at HR;exact HR.out,HB⟩
  ·have hi:¬ (L:Int) < 2:=(by omega);by_cases h3:L=2
   ·subst h3;obtain⟨a,b,rfl⟩:∃ a b,l=[a,b]:=by
     match l,HL.out with
     |[a,b],_=>exact⟨a,b,rfl⟩
    have hr:=HR.out;obtain⟨g,rfl⟩:∃ g,q1=some ⟨g,0,none⟩:=by
     rcases hr.2 with⟨e1,e2⟩|⟨g,cap',cur,e1,_⟩
     ·simp at e2
     ·injection e1 with e2;exact⟨g,e2⟩
    have hx0:∀ W,(Instr.indexAt 22 (.slice (some ⟨g,0,none⟩) 2 c1) (.int .i64 0)).run prog W=.ok (.pointer (some ⟨g,0,none⟩)) W:=fun W=>by
     have:=Fw prog _ 75 underlying22 2 (by kernel_rfl) ⟨g,0,none⟩ 2 c1 0 (by omega) W;rw[add_plain] at this;exact this
    have hx1:∀ W,(Instr.indexAt 22 (.slice (some ⟨g,0,none⟩) 2 c1) (.int .i64 1)).run prog W=.ok (.pointer (some ⟨g,2,none⟩)) W:=fun W=>by
     have:=Fw prog _ 75 underlying22 2 (by kernel_rfl) ⟨g,0,none⟩ 2 c1 1 (by omega) W;rw[add_plain] at this;exact this
    have KC:=Hi (fun(W:World) (hW:Bw w1 W)=>(show W.cell? ⟨g,0,none⟩=some (.string (bs a.1))∧W.cell? ⟨g,1,none⟩=some (.string (bs a.2))∧W.cell? ⟨g,2,none⟩=some (.string (bs b.1))∧W.cell? ⟨g,3,none⟩=some (.string (bs b.2)) from by
     have hcl:=(Bp hr hW).cells (g:=g) rfl;have c0:=hcl 0 (.string (bs a.1)) (by unfold Cj;rfl);have c1:=hcl 1 (.string (bs a.2)) (by unfold Cj;rfl);have c2:=hcl 2 (.string (bs b.1)) (by unfold Cj;rfl);have c3:=hcl 3 (.string (bs b.2)) (by unfold Cj;rfl);rw[add_plain] at c0 c1 c2 c3;exact⟨c0,c1,c2,c3⟩))
    have KF:=Hi (fun(W:World) (hW:Bw w1 W)=>(show W.frozen? ⟨g,0,none⟩=false∧W.frozen? ⟨g,1,none⟩=false∧W.frozen? ⟨g,2,none⟩=false∧W.frozen? ⟨g,3,none⟩=false from
     ⟨aT (Bp hr hW) 0,aT (Bp hr hW) 1,aT (Bp hr hW) 2,aT (Bp hr hW) 3⟩))
    have HD:=Hi ((Ad w1.heap.size w1).drew);obtain⟨k0,k1,k2,k3⟩:=KC _ (Ad _ _);have HR2:=Hi hr;have HG:=Hi (CJ hr (b:=g) rfl);clear hr HR;by_cases hlt:b.1 < a.1
    ·have hd:decide (b.1 < a.1)=true:=Gs hlt;go_wp2_with fail
     go_region_held3 (fun W=>W.cell? ⟨g,0,none⟩=some (.string (bs a.1))∧W.cell? ⟨g,1,none⟩=some (.string (bs a.2))∧W.cell? ⟨g,2,none⟩=some (.string (bs b.1))∧W.cell? ⟨g,3,none⟩=some (.string (bs b.2)))
      (first|exact KC _ HD|exact KC _ HB1)
      (first
       |(go_at_call 147;refine(aO b a _).mono ?_;rw[hd];rintro e W1 ⟨rfl,hb1⟩;have HB1:=Hi (HD.trans (hb1.mono HD.size));clear hb1))
     clear k0 k1 k2 k3;obtain⟨k0,k1,k2,k3⟩:=KC _ HB1.out;obtain⟨f0,f1,f2,f3⟩:=KF _ HB1.out;go_wp2_with fail;go_region;all_goals
      go_wp2_with fail;go_ret;refine⟨_,rfl,?_,(((((HB.trans (HB1.mono HB.size)).setCell (p:=⟨g,0,none⟩) HG _).setCell (p:=⟨g,1,none⟩) HG _).setCell (p:=⟨g,2,none⟩) HG _).setCell (p:=⟨g,3,none⟩) HG _).drew⟩;rw[aaw,Ac hlt];have:=(aU (aU (aU (aU (Bp HR2 HB1) 0 (.string (bs b.1))) 1 (.string (bs b.2))) 2 (.string (bs a.1))) 3 (.string (bs a.2))).drew;have e:(((((Cj [a,b]).set 0 (.string (bs b.1))).set 1 (.string (bs b.2))).set 2 (.string (bs a.1))).set 3 (.string (bs a.2)))=Cj [b,a]:=(by unfold Cj;rfl);rw[e] at this;exact this
    ·have hd:decide (b.1 < a.1)=false:=Ma hlt;go_wp2_with fail
     go_region_held3 (fun W=>W.cell? ⟨g,0,none⟩=some (.string (bs a.1))∧W.cell? ⟨g,1,none⟩=some (.string (bs a.2))∧W.cell? ⟨g,2,none⟩=some (.string (bs b.1))∧W.cell? ⟨g,3,none⟩=some (.string (bs b.2)))
      (first|exact KC _ HD|exact KC _ HB1)
      (first
       |(go_at_call 147;refine(aO b a _).mono ?_;rw[hd];rintro e W1 ⟨rfl,hb1⟩;have HB1:=Hi (HD.trans (hb1.mono HD.size));clear hb1))
     go_wp2_with fail;go_ret;exact⟨_,rfl,by rw[aaw,Aa hlt];exact Bp HR2 HB1,HB.trans (HB1.mono HB.size)⟩
   ·have hi3:¬ (L:Int)=2:=(by omega);obtain⟨k,hk⟩:=ex (L / 2);have aro:(L:Int) / 2=(k:Int):=(by omega);have hr:=HR.out;rw[HL.out] at hr;have hat:=Av.BU hr;have hkl:k≤L:=(by omega);have hfr:=fun W=>lJ W q1 L c1 k hkl hc1
    have hbk:=fun W=>Vf W q1 L c1 k hkl
    have hf:=hat.front k;have hbb:=hat.back (cap:=c1) (k:=k) (by rw[HL.out];exact hkl) (by rw[HL.out];exact hc1);have lf:(l.take k).length=k:=(by rw[Aw,HL.out];omega);have lb:(l.drop k).length=L -k:=(by rw[BA,HL.out]);have C1:=Hi (fun(W:World) (hW:Bw w1 W)=>IH W q1 c1 (l.take k) (by omega) (hf.below hW) HQ (by omega));have C2:=Hi (fun(W:World) (hW:Bw w1 W)=>IH W (FT q1 c1 k) (c1 -k) (l.drop k) (by omega) (hbb.below hW) (akI HQ) (by omega));have lK:=V8 (l.take k);have lL:=V8 (l.drop k);rw[lf] at C1 lK;rw[lb] at C2 lL;have HS:=Hi (kY (l:=l) (by rw[HL.out];exact h2));rw[HL.out,hk] at HS;have HD:=Hi ((Ad w1.heap.size w1).drew);have aV:=Hi lK;have aW:=Hi lL;clear hr hat hf hbb lf lb h2 h3 hk lK lL HC IH HR;go_wp2_with fail
    go_region_held3 (fun _=>True) (exact trivial)
     (first
      |(go_at_call 146;refine Rf.mono ?_;rintro e W3 ⟨v3,rfl,h3,hb3⟩;have H3:=Hi h3;have B3:=Hi (B2.trans (hb3.mono B2.size));clear h3 hb3)
      |(go_at_call 138;refine(C2 _ B1).mono ?_;rintro e W2 ⟨v2,rfl,h2,hb2⟩;obtain⟨q3,c3,rfl,hq3,hc3⟩:=Dl h2;rw[aW.out] at hc3 ⊢;have B2:=Hi (B1.trans (hb2.mono B1.size));have Rf:=Hi (aar (Av.BU (Bp H1 hb2)) (Av.BU h2) iU hq3 (by rw[aV.out];exact JI.out) (by rw[aW.out];exact hc3) (by rw[aV.out,aW.out];omega));rw[aV.out,aW.out] at Rf;clear h2 hb2 hq3 hc3)
      |(go_at_call 138;refine(C1 _ HD).mono ?_;rintro e W1 ⟨v1,rfl,h1,hb1⟩;obtain⟨q2,c2,rfl,hq2,hc2⟩:=Dl h1;rw[aV.out] at hc2 ⊢;have H1:=Hi h1;have iU:=Hi hq2;have JI:=Hi hc2;have B1:=Hi (HD.trans (hb1.mono HD.size));clear h1 hb1 hq2 hc2))
    go_wp2_with fail;go_ret;exact⟨_,rfl,by rw[HS.out];exact(show AP _ w.heap.size _ _ from Da H3 (by have:=B2.size;have:=HB.size;omega)),HB.trans (B3.mono HB.size)⟩
def lM(w:World)(a:Option Addr)(rows:List M):Prop:=∀ i,(h:i < rows.length)→∃ p:Addr,a=some p∧∃ q c,w.cell? (p.add i)=some (.slice q rows[i].length c)∧Av w q rows[i]∧(q=none→c=0)∧rows[i].length≤c
def Hg(rows:List M):M:=rows.foldl (fun o r=>mrg o (Dp r)) []
theorem akK(rows:List M)(r:M):Hg (rows++[r])=mrg (Hg rows) (Dp r):=by unfold Hg;rw[List.foldl_append];rfl
theorem akL(rows:List M):(Hg rows).length=(rows.map List.length).sum:=by
 unfold Hg
 suffices h:∀ (rows:List M) (o:M),(rows.foldl (fun o r=>mrg o (Dp r)) o).length=o.length+(rows.map List.length).sum from by rw[h];simp
 intro rows
 induction rows with
 |nil=>intro o;simp
 |cons r rows ih=>intro o;rw[List.foldl_cons,ih,akh,V8,Bg,Cx];omega
theorem aay(rows:List M)(k:Nat):((rows.take k).map List.length).sum≤(rows.map List.length).sum:=by
 induction rows generalizing k with
 |nil=>simp
 |cons r rows ih=>
  cases k with
  |zero=>simp
  |succ k=>have:=ih k;simp only[List.take_succ_cons,Bg,Cx];omega
theorem aaz{w:World}{a:Option Addr}{cap:Nat}{rows:List M}(h:lM w a rows)(hs:(rows.map List.length).sum≤1000000)(hl:rows.length≤1000000):
  Calls prog 71 #[.slice a rows.length cap] w fun e w'=>∃ v,e=.returned v∧AP w' 0 v (Hg rows)∧Bw w w'∧∀ g,v.ownBlock=some g→w.heap.size≤g:=by
 have HH:=Hi h;clear h;go_enter func71,ntmps71;go_wp2_with fail
 go_loopw [2,7] (fun vo i wr=>∃ k:Nat,k≤rows.length∧i=.int .i64 (k:Int)∧AP wr w.heap.size vo (Hg (rows.take k))∧Bw w wr) (fun _ i _=>rows.length -(intOf i).toNat)
 case atStart=>exact⟨0,Ar _,rfl,by unfold AP Hg;rw[FJ,List.foldl_nil,LQ];exact DJ _ _ _ _,Ad _ _⟩
 case round=>
  obtain⟨k,hk,rfl,ast,hb⟩:=hrel;by_cases hlt:k < rows.length
  ·obtain⟨p,rfl,q,c,atE,hat,hq,hc⟩:=HH k hlt;have hix:∀ W,(Instr.indexAt 223 (.slice (some p) rows.length cap) (.int .i64 (k:Int))).run prog W=.ok (.pointer (some (p.add k))) W:=fun W=>by
    have:=Fw prog 223 22 underlying223 1 (by kernel_rfl) p rows.length cap k hlt W;rwa[Nat.mul_one] at this
   have aBJ:=(hb.cell (Bz atE)).trans atE;have HS:=Hi (aax _ wr q c rows[k] (Ab _) (hat.below hb) hq (by have:=aay rows (k+1);rw[BS hlt,C8,Ht] at this;simp only[Bg,List.map_nil,Cx,List.sum_nil] at this;omega));have HT:=Hi (show Hg (rows.take (k+1))=mrg (Hg (rows.take k)) (Dp rows[k]) from by rw[BS hlt,akK]);have asV:(Hg (rows.take k)).length+(Dp rows[k]).length≤1000000:=by
    have:=aay rows (k+1);rw[BS hlt,C8,Ht] at this;simp only[Bg,List.map_nil,Cx,List.sum_nil] at this;rw[akL,V8];omega
   have hsl:=V8 rows[k];generalize rows[k]=r at*;obtain⟨qo,co,rfl,hqo,hco⟩:=Dl ast;have HR:=Hi ast;have HB:=Hi hb;have aX:=Hi hqo;have Nk:=Hi hco;have JJ:=Hi hsl;have Pm:=Hi asV;clear ast hb hqo hco hsl hat hq hc atE asV;generalize Hg (rows.take k)=o at*;go_wp2_with fail;refine HS.mono ?_;rintro e w1⟨v1,rfl,h1,hb1⟩;obtain⟨q1,c1,rfl,hq1,hc1⟩:=Dl h1;have HM:=Hi (aar (Av.BU (Bp HR hb1)) (Av.BU h1) aX hq1 Nk hc1 Pm);have HB1:=Hi (HB.trans (hb1.mono HB.size));clear h1 hb1 hq1 hc1 aBJ;go_wp2_with fail;refine HM.mono ?_;rintro e w2⟨v2,rfl,h2,hb2⟩;have H2:=Hi h2;have HB2:=Hi (HB1.trans (hb2.mono HB1.size));clear h2 hb2;go_wp2_with fail;go_roundw
   case rel=>exact⟨k+1,by omega,by go_num,by rw[HT.out];exact Da H2 HB1.size,HB2⟩
   case measure=>simp[intOf];omega
  ·obtain rfl:k=rows.length:=(by omega);rw[Ck] at ast;have HR:=Hi ast;have HB:=Hi hb;clear ast hb;go_wp2_with fail;go_ret;exact⟨_,rfl,Da HR (Ar _),HB,fun g hg=>CJ HR hg⟩
theorem aaA{l:M}{k:Nat}(h:BN (l.take k))(h1:1≤k)(hk:k < l.length)(hn:¬ l[k].1 < (l[k -1]'(by omega)).1):BN (l.take (k+1)):=by
 rw[BS hk];refine List.pairwise_append.2 ⟨h,P9 _ _,fun a ha b hb=>?_⟩;rw[DT] at hb;subst hb;obtain⟨i,hi,e⟩:=List.mem_take_iff_getElem.1 ha;have hik:i < k:=by omega
 have h2:(l[i]'(by omega)).1≤(l[k -1]'(by omega)).1:=by
  by_cases e1:i=k -1
  ·subst e1;exact List.le_refl _
  ·have:=(List.pairwise_iff_getElem.1 h) i (k -1) (by rw[Aw];omega) (by rw[Aw];omega) (by omega);rwa[List.getElem_take,List.getElem_take] at this
 rw[←e];exact List.le_trans h2 (V6.1 hn)
theorem aaB{l:M}{k:Nat}(h1:1≤k)(hk:k < l.length)(hn:l[k].1 < (l[k -1]'(by omega)).1):¬ BN l:=fun h=>
 absurd hn (List.not_lt.2 ((List.pairwise_iff_getElem.1 h) (k -1) k (by omega) hk (by omega)))
theorem aaC{w:World}{a:Option Addr}{cap:Nat}{l:M}(h:Av w a l)(hl:l.length≤1000000):
  Calls prog 197 #[.slice a l.length cap] w fun e w'=>e=.returned (.int .i64 (if BN l then 0 else 2))∧Bw w w':=by
 have HH:=Hi h;clear h;go_enter func197,ntmps197;go_wp2_with fail
 go_loopw [3] (fun i wr=>∃ k:Nat,1≤k∧(k≤l.length∨k=1)∧i=.int .i64 (k:Int)∧BN (l.take k)∧Bw w wr) (fun i _=>l.length -(intOf i).toNat)
 case atStart=>exact⟨1,Ab _,.inr rfl,rfl,by
  cases l with
  |nil=>exact List.Pairwise.nil
  |cons x l=>exact P9 _ _,Ad _ _⟩
 case round=>
  obtain⟨k,hk1,hk,rfl,hs,hb⟩:=hrel;by_cases hlt:k < l.length
  ·obtain⟨p,hix,hp,-⟩:=HH.index cap k hlt;obtain⟨p',azB,hp',-⟩:=HH.index cap (k -1) (by omega);have avV:IntKind.i64.wrap ((k:Int) -1)=((k -1:Nat):Int):=(by rw[CZ _ (by omega)];omega);have c1:=(hp.upd (ub hb) (fun f=>f)).key;have c2:=(hp'.upd (ub hb) (fun f=>f)).key;have HT:=Hi (fun hn=>aaA hs hk1 hlt hn);have HN:=Hi (fun hn=>aaB hk1 hlt hn);have HB:=Hi hb;clear hs hb hp hp';generalize l[k]=x at*;generalize l[k -1]'(by omega)=y at*;by_cases hxy:x.1 < y.1
   ·have hbl:Op.bytesLess x.1 y.1=true:=(by rw[Go.Proofs.bytesLess_eq];simpa using hxy);have lN:=Hi (HN hxy);clear HT HN hxy;go_wp2_with fail;go_region;go_wp2_with fail;go_ret;exact⟨by first|rfl|(rw[Aa lN.out];rfl),HB.drew⟩
   ·have hbl:Op.bytesLess x.1 y.1=false:=(by rw[Go.Proofs.bytesLess_eq];simpa using hxy);have O9:=Hi (HT hxy);clear HT HN hxy;go_wp2_with fail;go_region;go_wp2_with fail;go_roundw
    case rel=>exact⟨k+1,by omega,.inl (by omega),by go_num,O9.out,HB.drew⟩
    case measure=>simp[intOf];omega
  ·have HS:=Hi (show BN l from by
    have:=hs;rwa[ET (by omega)] at this)
   have HB:=Hi hb;have Xr:¬ (k:Int) < (l.length:Int):=(by omega);clear hs hb hlt;go_wp2_with fail;go_ret;exact⟨by first|rfl|(rw[Ac HS.out];rfl),HB⟩
end Prs
end Go.Proofs.YtmbbhdebddbhoaaGreat
