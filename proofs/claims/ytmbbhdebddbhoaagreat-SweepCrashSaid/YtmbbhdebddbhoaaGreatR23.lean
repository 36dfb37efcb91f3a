/- PrsW PrsX PrsY -/
import Derived.Test.YtmbbhdebddbhoaaGreatR22
set_option maxHeartbeats 4000000
set_option maxRecDepth 100000
set_option linter.all false
namespace Go.Proofs.YtmbbhdebddbhoaaGreat
open Tryz
namespace Prs
open Go.RowKit Go.Maps
open Fil Man
structure OC(w:World)(q:Addr)(p:T×T):Prop where
 key:w.cell? q=some (.string (bs p.1))
 val:w.cell? ⟨q.block,q.off+1,none⟩=some (.string (bs p.2))
def AO(w:World)(a:Option Addr)(l:M):Prop:=∀ i,(h:i < l.length)→∃ p:Addr,a=some p∧OC w (p.add (i*2)) l[i]
abbrev Bo(w:World)(base:Nat)(v:Value)(l:M):Prop:=w.ownsRow base 75 2 v l.length (Da l)
theorem Qu:(prog.info? 75).map (fun i=>(i.zero,i.size,i.bytes))=some (some (.agg #[.string ByteArray.empty,.string ByteArray.empty]),2,32):=by kernel_rfl
section
variable {w w':World}{a:Option Addr}{l:M}
theorem OC.upd{F:Nat→Prop}{q:Addr}{p:T×T}(h:OC w q p)(hu:A7 F w w')(hF:¬ F q.block):OC w' q p:=by
 have hl:=BS h.key;exact⟨(hu.cell hl hF).trans h.key,(hu.cell (p:=⟨q.block,q.off+1,none⟩) hl hF).trans h.val⟩
theorem AO.upd{F:Nat→Prop}(h:AO w a l)(hu:A7 F w w')(hF:∀ p,a=some p→l≠[]→¬ F p.block):AO w' a l:=fun i hi=>by
 obtain⟨p,e,hp⟩:=h i hi;exact⟨p,e,hp.upd hu (by rw[add_block];exact hF p e (List.ne_nil_of_length_pos (by omega)))⟩
theorem AO.below(h:AO w a l)(hb:Bw w w'):AO w' a l:=h.upd (ub hb) (fun _ _ _ f=>f)
theorem AO.nil(w:World)(a:Option Addr):AO w a []:=fun i hi=>by simp at hi
theorem AO.index(h:AO w a l)(cap k:Nat)(hk:k < l.length):
  ∃ q:Addr,(∀ W,(Instr.indexAt 22 (.slice a l.length cap) (.int .i64 (k:Int))).run prog W=.ok (.pointer (some q)) W)∧OC w q l[k]∧∃ p:Addr,a=some p∧q.block=p.block:=by
 obtain⟨p,rfl,hp⟩:=h k hk;exact⟨_,fun W=>Hr prog _ 75 underlying22 2 (by kernel_rfl) p l.length cap k hk W,hp,p,rfl,add_block _ _⟩
theorem AO.CG{base n:Nat}{c:Nat}{q:Option Addr}(h:Bo w base (.slice q n c) l):AO w q l:=fun i hi=>by
 rcases h.2 with⟨e1,e2⟩|⟨g,cap',cur,e1,_⟩
 ·omega
 ·have e2:q=some ⟨g,0,none⟩:=by injection e1
  subst e2;have hc:∀ j,j < 2→∀ v,([.string (bs l[i].1),.string (bs l[i].2)]:List Value)[j]?=some v→w.cell? (((⟨g,0,none⟩:Addr).add (i*2)).add j)=some v:=fun j hj v hv=>by
   rw[←oL l i hi j hj] at hv;have:=h.cells (g:=g) rfl _ _ hv;rw[add_plain] at this ⊢;rw[WC];exact this
  refine⟨_,rfl,?_,?_⟩
  ·have:=hc 0 (by omega) _ rfl;rwa[add_zero'] at this
  ·have:=hc 1 (by omega) _ rfl;rw[add_plain,WC] at this;rw[add_plain];exact this
theorem ags(a b:M):Da (a++b)=Da a++Da b:=by unfold Da;rw[NA]
theorem bf(l:M):(Da l).length=l.length*2:=by
 unfold Da
 induction l with
 |nil=>rfl
 |cons p l ih=>rw[List.flatMap_cons,Au,ih,Br];simp;omega
theorem agt(l:M):∀ u∈Da l,u.oneCell'=true:=by
 unfold Da;intro u hu;obtain⟨p,_,hp⟩:=MM.1 hu;simp only[Bt,List.not_mem_nil,or_false] at hp;rcases hp with rfl|rfl<;>rfl
theorem AO.cells{p:Addr}(h:AO w (some p) l):∀ j u,(Da l)[j]?=some u→w.cell? (p.add j)=some u:=fun j u hj=>by
 have hlt:j < l.length*2:=by
  have:=(Uw.1 hj).1;rwa[bf] at this
 obtain⟨i,r,hr,rfl⟩:∃ i r,r < 2∧j=i*2+r:=⟨j / 2,j % 2,by omega,by omega⟩;have hi:i < l.length:=by omega
 obtain⟨q,e,hp⟩:=h i hi;cases e;have hg:=oL l i hi r hr;rw[hj] at hg
 match r,hr with
 |0,_=>
  have:u=.string (bs l[i].1):=by simpa using hg
  rw[this];exact hp.key
 |1,_=>
  have:u=.string (bs l[i].2):=by simpa using hg
  rw[this,←Addr.add_add];have e3:(p.add (i*2)).add 1=⟨(p.add (i*2)).block,(p.add (i*2)).off+1,none⟩:=by
   generalize p.add (i*2)=q;unfold Addr.add;simp
  rw[e3];exact hp.val
def amO(v:Value):Nat:=match v with| .slice _ n _=>n|_=>0
def Ii(q:Option Addr)(cap k:Nat):Option Addr:=if cap=k then q else q.map (·.add (k*2))
theorem aco(W:World)(q:Option Addr)(n cap k:Nat)(hk:k≤n)(hc:n≤cap):
  (Instr.slice 22 (.slice q n cap) none (some (.int .i64 (k:Int))) none).run prog W=.ok (.slice q k cap) W:=by
 obtain⟨i,hi,_,hs,_⟩:=Du Qu;cases q<;>simp[Instr.slice,Gp underlying22,Instr.sliceBounds,sizeOf,typeInfo,hi,go_sem]<;>omega
theorem dM(W:World)(q:Option Addr)(n cap k:Nat)(hk:k≤n):
  (Instr.slice 22 (.slice q n cap) (some (.int .i64 (k:Int))) none none).run prog W=.ok (.slice (Ii q cap k) (n -k) (cap -k)) W:=by
 obtain⟨i,hi,_,hs,_⟩:=Du Qu;cases q
 ·simp[Instr.slice,Gp underlying22,Instr.sliceBounds,sizeOf,typeInfo,hi,go_sem,Ii];exact fun h=>absurd h (by omega)
 ·simp[Instr.slice,Gp underlying22,Instr.sliceBounds,sizeOf,typeInfo,hi,hs,go_sem,Ii];exact fun h=>absurd h (by omega)
theorem AO.front(h:AO w a l)(k:Nat):AO w a (l.take k):=fun i hi=>by
 rw[AL] at hi;obtain⟨p,hp,hc⟩:=h i (by omega);exact⟨p,hp,by rw[List.getElem_take];exact hc⟩
theorem AO.back(h:AO w a l){cap k:Nat}(hk:k≤l.length)(hc:l.length≤cap):AO w (Ii a cap k) (l.drop k):=fun i hi=>by
 rw[Ce] at hi;obtain⟨p,hp,BH⟩:=h (k+i) (by omega);refine⟨p.add (k*2),?_,?_⟩
 ·unfold Ii;rw[Aa (by omega),hp];rfl
 ·rw[Addr.add_add,List.getElem_drop,show k*2+i*2=(k+i)*2 by omega];exact BH
end
section
variable {w:World}
theorem ZR{ops:Array Oper}{rest:List Oper}{o:Oper}{a:Act}{Q:Exit→Act→World→Prop}(O4:o.guard=none)(s x:Operand)
  (ho:o.op=.call { callee:=.builtin .append,args:=#[s,x],argTypes:=#[22,22] })
  (base:Nat)(v:Value)(n:Nat)(l k:M)(hs:a.eval s=v)(hown:w.ownsRow base 75 2 v n (Da l))(q:Option Addr)(cap m:Nat)(hx:a.eval x=.slice q m cap)(hm:k.length=m)(hk:AO w q k)(hq:q=none→cap=0)
  (hn:n+m≤1000000000)(Lx:base≤w.heap.size)
  (h:∀ v' w',w'.ownsRow base 75 2 v' (n+m) (Da (l++k))→w.grownBy w' v.ownBlock→(v'.ownBlock=v.ownBlock∨v'.ownBlock=some w.heap.size)→wpList prog ops Q rest (a.put o.dst v') w'):
  wpList prog ops Q (o :: rest) a w:=by
 obtain⟨i0,Ba,AQ,AU,AV⟩:=Du Qu;subst hm;cases q with
 |none=>
  obtain rfl:k=[]:=by
   cases k with
   |nil=>rfl
   |cons y k=>
    obtain⟨p,hp,_⟩:=hk 0 (by simp);cases hp
  rw[hq rfl] at hx;refine wpList_append_own_none O4 s x _ ho base 75 i0 2 underlying22 Ba v n (Da l) hs hown hx ?_;exact h v w (by rw[EH];exact hown) (World.grownBy.refl w _) (.inl rfl)
 |some ad=>
  refine wpList_append_own_at w O4 s x _ ho base 75 i0 _ 2 32 underlying22 Ba AQ AU AV rfl (by decide) v n (Da l) hs hown ad k.length cap (Da k) hx (bf k) hk.cells (agt k) (by unfold maxLen;omega) (by omega) Lx ?_;intro v' w' h1 h2 _ h4;refine h v' w' ?_ h2 h4;rw[ags];exact h1
theorem arv(w:World):Bo (w.alloc (.cells #[] 75)) w.heap.size (.slice (some ⟨w.heap.size,0,none⟩) 0 0) []:=
 ⟨by unfold Da;rfl,.inr ⟨w.heap.size,0,#[],rfl,Ac _,AJ w _,Ac _,AB _,rfl,by unfold Da;rfl⟩⟩
theorem Es{base:Nat}{v:Value}{l:M}(h:Bo w base v l):∃ q cap,v=.slice q l.length cap∧(q=none→cap=0)∧l.length≤cap:=by
 rcases h.2 with⟨e1,e2⟩|⟨g,cap,_,e1,_,_,hn,_⟩
 ·exact⟨none,0,by rw[e1,e2],fun _=>rfl,by omega⟩
 ·exact⟨_,cap,e1,(fun e=>by cases e),hn⟩
theorem rW(p q:T×T)(w:World):
  Calls prog 147 #[.agg #[.string (bs p.1),.string (bs p.2)],.agg #[.string (bs q.1),.string (bs q.2)]] w fun e w'=>e=.returned (.bool (decide (p.1 < q.1)))∧Bw w w':=by
 have hb:=((Af w.heap.size w).alloc (Ac _) (.cells #[.string (bs p.1),.string (bs p.2)] 75)).alloc (by rw[Aq];omega) (.cells #[.string (bs q.1),.string (bs q.2)] 75);have HB:=Hi hb;have HV:=Hi (show Op.bytesLess p.1 q.1=decide (p.1 < q.1) from by rw[Go.Proofs.bytesLess_eq]);clear hb;generalize decide (p.1 < q.1)=r at*;have hv:=HV.out;go_enter func147,ntmps147;go_wp2_with fail;go_ret;exact⟨rfl,HB⟩
theorem ag9(w:World)(p:Option Addr)(n c:Nat):(binOp .eql 22 (.slice p n c) (.slice none 0 0)).run prog w=.ok (.bool p.isNone) w:=by
 have h:∀ d,(Op.equalIn (d+1) 22 (.slice p n c) (.slice none 0 0)).run prog w=.ok p.isNone w:=fun d=>by
  cases p<;>simp[Op.equalIn,Gp underlying22]
 simp only[binOp];simp[show Op.equal 22 (.slice p n c) (.slice none 0 0)=Op.equalIn (9999+1) 22 (.slice p n c) (.slice none 0 0) from rfl,h 9999]
theorem ZC{q:Option Addr}{cap:Nat}{l:M}(h:AO w q l)(hq:q=none→cap=0)(hl:l.length≤1000000000):
  Calls prog 69 #[.slice q l.length cap] w fun e w'=>∃ v,e=.returned v∧Bo w' w.heap.size v l∧Bw w w':=by
 cases q with
 |none=>
  obtain rfl:cap=0:=hq rfl;have LD:l=[]:=by
   cases l with
   |nil=>rfl
   |cons x l=>obtain⟨p,e,_⟩:=h 0 (by simp);cases e
  subst LD;have hqe:=fun w=>ag9 w none 0 0
  clear h;go_enter func69,ntmps69;go_wp2_with fail;go_ret;exact⟨_,rfl,by unfold Bo;rw[PV];exact EI _ _ _ _,Af _ _⟩
 |some p=>
  have HH:=Hi h;have hqe:=fun w=>ag9 w (some p) l.length cap
  clear h hq;go_enter func69,ntmps69;go_wp2_with (at_builtin;refine ZR rfl _ _ rfl w.heap.size _ 0 [] l rfl (arv w) (some p) cap l.length rfl rfl (HH.below (Aw w _)) (fun e=>by cases e) (by simpa using hl) (by rw[Aq];omega) ?_;intro v' w1 hown Az hat);go_ret;refine⟨v',rfl,by rw[GJ,Eu] at hown;exact hown,(Aw w _).grown Az (by rw[Aq];omega) (fun k e=>?_)⟩;have e':some w.heap.size=some k:=e;have:=G7 e';omega
def apH(w:World)(A B:M)(va vb vo:Value)(wr:World):Prop:=∃ (A' B' O:M) (Ri Rj:Option Addr) (NV cb':Nat),va=.slice Ri A'.length NV∧vb=.slice Rj B'.length cb'∧AO w Ri A'∧AO w Rj B'∧(Ri=none→NV=0)∧(Rj=none→cb'=0)∧A'.length≤NV∧B'.length≤cb'∧
   O++mrg A' B'=mrg A B∧O.length+A'.length+B'.length=A.length+B.length∧Bo wr w.heap.size vo O∧Bw w wr
theorem al4{qa qb:Option Addr}{ca cb:Nat}{A B:M}(hA:AO w qa A)(hB:AO w qb B)(ha:qa=none→ca=0)(hb:qb=none→cb=0)(bF:A.length≤ca)(hbc:B.length≤cb)(hl:A.length+B.length≤1000000):
  Calls prog 146 #[.slice qa A.length ca,.slice qb B.length cb,.func (.func 147) #[] #[]] w fun e w'=>∃ v,e=.returned v∧Bo w' w.heap.size v (mrg A B)∧Bw w w':=by
 obtain⟨i0,Ba,AQ,AU,AV⟩:=Du Qu;obtain⟨w1,Il,Ah,Sq⟩:=run_make_own (P:=prog) w w.heap.size 22 75 i0 _ 2 underlying22 Ba AQ AU .i64 .i64 (A.length+B.length) (by rw[AV];omega) (by unfold maxLen;omega) (Ac _);rw[Int.natCast_add] at Il;have CB:((A.length:Int)+(B.length:Int))≤1000000:=by omega
 have HA:=Hi hA;have HB:=Hi hB;have CZ:=Hi (show Bo w1 w.heap.size (.slice (some ⟨w.heap.size,0,none⟩) 0 (A.length+B.length)) [] from by unfold Bo;rw[PV];exact Ah);have mF:=Hi ((Af w.heap.size w).grown Sq (Ac _) (fun k e=>by cases e));have HQA:=Hi ha;have HQB:=Hi hb;clear hA hB Ah Sq ha hb;go_enter func146,ntmps146;go_wp2_with fail
 go_loopw [0,1,7] (fun va vb vo wr=>apH w A B va vb vo wr) (fun va vb _ _=>amO va+amO vb)
 case atStart=>exact⟨A,B,[],qa,qb,ca,cb,rfl,rfl,HA,HB,HQA,HQB,bF,hbc,rfl,by simp,CZ,mF⟩
 case round=>
  obtain⟨A',B',O,Ri,Rj,NV,cb',rfl,rfl,hA',hB',ha',hb',ahI,ahU,hm,hlen,Ah,qw⟩:=hrel;obtain⟨qo,co,rfl⟩:=Bg Ah;have eZ:=Hi hA';have fq:=Hi hB';have mY:=Hi ha';have mZ:=Hi hb';have HM:=Hi hm;have HL:=Hi hlen;have HR:=Hi Ah;have HW:=Hi qw;have ZX:=Hi ahI;have Jj:=Hi ahU;clear hA' hB' ha' hb' hm hlen Ah qw HA HB CZ mF HQA HQB bF hbc ahI ahU Il CB;by_cases hA0:A'=[]
  ·have HE:=Hi (show(O++A')++B'=mrg A B from by rw[←HM.out,hA0,kM,EH]);have hza:¬ (0:Int) < (A'.length:Int):=(by rw[hA0];simp);clear hA0
   go_wp2_with (at_builtin;first
    |(refine ZR rfl _ _ rfl w.heap.size (.slice qo O.length co) O.length O A' rfl HR Ri NV A'.length rfl rfl (eZ.below HW) mY (by have:=HL.out;omega) HW.size ?_;intro v1 w1 h1 g1 _;obtain⟨q1,c1,rfl⟩:=Bg h1;have H1:=Hi h1;have W1:=Hi (HW.grown g1 HW.size (fun k e=>DC HR e));clear h1 g1)
    |(refine ZR rfl _ _ rfl w.heap.size (.slice q1 (O.length+A'.length) c1) (O.length+A'.length) (O++A') B' rfl H1 Rj cb' B'.length rfl rfl (fq.below W1) mZ (by have:=HL.out;omega) W1.size ?_;intro v2 w2 h2 g2 _;have H2:=Hi h2;have W2:=Hi (W1.grown g2 W1.size (fun k e=>DC H1 e));clear h2 g2))
   go_ret;exact⟨v2,rfl,by unfold Bo;rw[←HE.out,Au,Au];exact H2.out,W2⟩
  ·by_cases OJ:B'=[]
   ·have HE:=Hi (show(O++A')++B'=mrg A B from by rw[←HM.out,OJ,sH,EH]);have hza:(0:Int) < (A'.length:Int):=(by have:=List.length_pos_iff.2 hA0;omega);have hzb:¬ (0:Int) < (B'.length:Int):=(by rw[OJ];simp);clear hA0 OJ
    go_wp2_with (at_builtin;first
     |(refine ZR rfl _ _ rfl w.heap.size (.slice qo O.length co) O.length O A' rfl HR Ri NV A'.length rfl rfl (eZ.below HW) mY (by have:=HL.out;omega) HW.size ?_;intro v1 w1 h1 g1 _;obtain⟨q1,c1,rfl⟩:=Bg h1;have H1:=Hi h1;have W1:=Hi (HW.grown g1 HW.size (fun k e=>DC HR e));clear h1 g1)
     |(refine ZR rfl _ _ rfl w.heap.size (.slice q1 (O.length+A'.length) c1) (O.length+A'.length) (O++A') B' rfl H1 Rj cb' B'.length rfl rfl (fq.below W1) mZ (by have:=HL.out;omega) W1.size ?_;intro v2 w2 h2 g2 _;have H2:=Hi h2;have W2:=Hi (W1.grown g2 W1.size (fun k e=>DC H1 e));clear h2 g2))
    go_ret;exact⟨v2,rfl,by unfold Bo;rw[←HE.out,Au,Au];exact H2.out,W2⟩
   ·have qP:=List.length_pos_iff.2 hA0;have O7:=List.length_pos_iff.2 OJ;have hza:(0:Int) < (A'.length:Int):=(by omega);have hzb:(0:Int) < (B'.length:Int):=(by omega);obtain⟨pa,hia,qX,-⟩:=eZ.index NV 0 qP;obtain⟨pb,hib,Qg,-⟩:=fq.index cb' 0 O7;have aBU:∀ W,(Instr.indexAt 22 (.slice Ri A'.length NV) (.int .i64 0)).run prog W=.ok (.pointer (some pa)) W:=hia;have aBV:∀ W,(Instr.indexAt 22 (.slice Rj B'.length cb') (.int .i64 0)).run prog W=.ok (.pointer (some pb)) W:=hib;have Vv:∀ W,(Instr.slice 22 (.slice Ri A'.length NV) (some (.int .i64 1)) none none).run prog W=.ok (.slice (Ii Ri NV 1) (A'.length -1) (NV -1)) W:=fun W=>dM W Ri A'.length NV 1 qP
    have Od:∀ W,(Instr.slice 22 (.slice Rj B'.length cb') (some (.int .i64 1)) none none).run prog W=.ok (.slice (Ii Rj cb' 1) (B'.length -1) (cb' -1)) W:=fun W=>dM W Rj B'.length cb' 1 O7
    have Q9:=Qz qP;have X5:=Qz O7;rw[List.drop_zero] at Q9 X5;obtain⟨x,hx⟩:=ex (A'[0]);obtain⟨y,hy⟩:=ex (B'[0]);rw[hx] at qX Q9;rw[hy] at Qg X5
    have KC:=Hi (fun(W:World) (hW:Bw w W)=>(show W.cell? pa=some (.string (bs x.1))∧W.cell? ⟨pa.block,pa.off+1,none⟩=some (.string (bs x.2))∧W.cell? pb=some (.string (bs y.1))∧W.cell? ⟨pb.block,pb.off+1,none⟩=some (.string (bs y.2)) from
     ⟨(qX.upd (ub hW) (fun f=>f)).key,(qX.upd (ub hW) (fun f=>f)).val,(Qg.upd (ub hW) (fun f=>f)).key,(Qg.upd (ub hW) (fun f=>f)).val⟩))
    have JL:=Hi Q9;have fE:=Hi X5;obtain⟨k1,k2,k3,k4⟩:=KC _ HW.out;have aL:=Hi HW.drew;clear hia hib qX Qg hx hy Q9 X5 hA0 OJ;by_cases hlt:y.1 < x.1
    ·have hd:decide (y.1 < x.1)=true:=Kr hlt
     have HN:=Hi (show(O++[y])++mrg A' (B'.drop 1)=mrg A B from by
      rw[←HM.out]
      conv=>rhs;rw[JL.out,fE.out,kJ,Ab hlt]
      rw[Dp,←JL.out];rfl)
     clear hlt;go_wp2_with fail
     go_region_held3 (fun W=>W.cell? pa=some (.string (bs x.1))∧W.cell? ⟨pa.block,pa.off+1,none⟩=some (.string (bs x.2))∧W.cell? pb=some (.string (bs y.1))∧W.cell? ⟨pb.block,pb.off+1,none⟩=some (.string (bs y.2)))
      (first|exact KC _ aL|exact KC _ HB1)
      (first
       |(go_at_call 147;refine(rW y x _).mono ?_;rw[hd];rintro e W1 ⟨rfl,Ad⟩;have HB1:=Hi (aL.trans (Ad.mono aL.size));have Ew:=Hi (C9 HR.drew Ad);clear Ad))
     clear k1 k2 k3 k4;obtain⟨k1,k2,k3,k4⟩:=KC _ HB1.out;go_wp2_with fail
     go_region_law
      ((refine step_append_lies _ (by rfl) _ _ _ (by rfl) w.heap.size 75 i0 _ 2 32 underlying22 Ba AQ AU AV (by rfl) (by omega) (.slice qo O.length co) O.length (Da O) (by rfl) ((Ew.alloc _).drew) ⟨W1.heap.size,0,none⟩ 1 1 [.string (bs y.1),.string (bs y.2)] (by rfl) (by rfl) (World.news_of_block (cs:=#[.string (bs y.1),.string (bs y.2)]) (t:=75) (fr:=(0,0)) (AJ W1 _)) (fun u hu=>by simp at hu;rcases hu with rfl|rfl<;>rfl) (by omega) (by have:=HL.out;unfold maxLen;omega) (by have:=HL.out;omega) (by have:=HB1.size;rw[World.size_drew,Aq];omega) (W1.heap.size+1) (by simp) ?_;intro gg cap2 w2 Ob Az hat O8))
     all_goals
      have QS:=Hi (((HB1.alloc HB1.size _).drew).grown Az (by have:=HB1.size;rw[World.size_drew,Aq];omega) (fun k e=>DC Ew e));have Ou:=Hi Ob;clear Ob Az hat k1 k2 k3 k4;go_wp2_with fail;go_roundw
      case rel=>
       repeat apply Exists.intro
       refine⟨?_,rfl⟩;exact⟨A',B'.drop 1,O++[y],Ri,Ii Rj cb' 1,NV,cb' -1,rfl,by rw[Ce],eZ,fq.back O7 Jj,mY,(fun e=>by have:=mZ.out;have h1:=Jj.out;unfold Ii at e;split at e<;>simp_all<;>omega),ZX,by have:=Jj.out;rw[Ce];omega,HN,by have:=HL.out;simp only[Au,Kq,Ce];omega,by unfold Bo;rw[Au,RY];exact Ou.out,QS⟩
      case measure=>
       show A'.length+(B'.length -1) < A'.length+B'.length
       omega
    ·have hd:decide (y.1 < x.1)=false:=Pp hlt
     have HN:=Hi (show(O++[x])++mrg (A'.drop 1) B'=mrg A B from by
      rw[←HM.out]
      conv=>rhs;rw[JL.out,fE.out,kJ,Aa hlt]
      rw[Dp,←fE.out];rfl)
     clear hlt;go_wp2_with fail
     go_region_held3 (fun W=>W.cell? pa=some (.string (bs x.1))∧W.cell? ⟨pa.block,pa.off+1,none⟩=some (.string (bs x.2))∧W.cell? pb=some (.string (bs y.1))∧W.cell? ⟨pb.block,pb.off+1,none⟩=some (.string (bs y.2)))
      (first|exact KC _ aL|exact KC _ HB1)
      (first
       |(go_at_call 147;refine(rW y x _).mono ?_;rw[hd];rintro e W1 ⟨rfl,Ad⟩;have HB1:=Hi (aL.trans (Ad.mono aL.size));have Ew:=Hi (C9 HR.drew Ad);clear Ad))
     clear k1 k2 k3 k4;obtain⟨k1,k2,k3,k4⟩:=KC _ HB1.out;go_wp2_with fail
     go_region_law
      ((refine step_append_lies _ (by rfl) _ _ _ (by rfl) w.heap.size 75 i0 _ 2 32 underlying22 Ba AQ AU AV (by rfl) (by omega) (.slice qo O.length co) O.length (Da O) (by rfl) ((Ew.alloc _).drew) ⟨W1.heap.size,0,none⟩ 1 1 [.string (bs x.1),.string (bs x.2)] (by rfl) (by rfl) (World.news_of_block (cs:=#[.string (bs x.1),.string (bs x.2)]) (t:=75) (fr:=(0,0)) (AJ W1 _)) (fun u hu=>by simp at hu;rcases hu with rfl|rfl<;>rfl) (by omega) (by have:=HL.out;unfold maxLen;omega) (by have:=HL.out;omega) (by have:=HB1.size;rw[World.size_drew,Aq];omega) (W1.heap.size+1) (by simp) ?_;intro gg cap2 w2 Ob Az hat O8))
     all_goals
      have QS:=Hi (((HB1.alloc HB1.size _).drew).grown Az (by have:=HB1.size;rw[World.size_drew,Aq];omega) (fun k e=>DC Ew e));have Ou:=Hi Ob;clear Ob Az hat k1 k2 k3 k4;go_wp2_with fail;go_roundw
      case rel=>
       repeat apply Exists.intro
       refine⟨?_,rfl⟩;exact⟨A'.drop 1,B',O++[x],Ii Ri NV 1,Rj,NV -1,cb',by rw[Ce],rfl,eZ.back qP ZX,fq,(fun e=>by have:=mY.out;have h1:=ZX.out;unfold Ii at e;split at e<;>simp_all<;>omega),mZ,by have:=ZX.out;rw[Ce];omega,Jj,HN,by have:=HL.out;simp only[Au,Kq,Ce];omega,by unfold Bo;rw[Au,RY];exact Ou.out,QS⟩
      case measure=>
       show(A'.length -1)+B'.length < A'.length+B'.length
       omega
end
theorem sZ{w:World}{base g n cap:Nat}{xs:List Value}{e:TypeId}{s:Nat}(h:w.ownsRow base e s (.slice (some ⟨g,0,none⟩) n cap) n xs)(i:Nat):w.frozen? ⟨g,i,none⟩=false:=by
 rcases h.2 with⟨e1,_⟩|⟨g',cap',cur,e1,hb,hg,_⟩
 ·cases e1
 ·injection e1 with e2 _ e3
  injection e2 with e4
  injection e4 with e5
  subst e5;exact CJ w g i _ _ hg
theorem sW{w:World}{base:Nat}{e:TypeId}{s g n cap:Nat}{xs:List Value}(h:w.ownsRow base e s (.slice (some ⟨g,0,none⟩) n cap) n xs)(i:Nat)(v:Value):(w.setCell ⟨g,i,none⟩ v).ownsRow base e s (.slice (some ⟨g,0,none⟩) n cap) n (xs.set i v):=by
 obtain⟨h1,h2⟩:=h;refine⟨by rw[List.length_set];exact h1,?_⟩;rcases h2 with⟨e1,_⟩|⟨g',cap',cur,e1,hb,hg,hn,hm,Dv,ht⟩
 ·cases e1
 ·injection e1 with e2 _ e3
  injection e2 with e4
  injection e4 with e5
  subst e5;subst e3;refine .inr ⟨g,cap,cur.setIfInBounds i v,rfl,hb,BU w g i _ _ v hg,hn,hm,by rw[Array.size_setIfInBounds];exact Dv,?_⟩;rw[Array.toList_setIfInBounds,←ht,List.take_set]
theorem amY(a b:T×T):EG [a,b]=if b.1 < a.1 then[b,a] else[a,b]:=by
 rw[acY (by simp)];have e1:([a,b]:M).take ([a,b].length / 2)=[a]:=by simp
 have e2:([a,b]:M).drop ([a,b].length / 2)=[b]:=by simp
 rw[e1,e2];rw[ed (by simp),ed (by simp),kJ,kM,sH]
theorem apQ{q:Option Addr}{cap k:Nat}(h:q=none→cap=0)(e:Ii q cap k=none):cap -k=0:=by
 unfold Ii at e;split at e
 ·omega
 ·have:=h (by simpa using e);omega
theorem E9{w:World}{base TJ n s:Nat}{e:TypeId}{v:Value}{xs:List Value}(h:w.ownsRow base e s v n xs)(hb:TJ≤base):w.ownsRow TJ e s v n xs:=by
 refine⟨h.1,?_⟩;rcases h.2 with h2|⟨g,cap,cur,e0,GR,h3⟩
 ·exact .inl h2
 ·exact .inr ⟨g,cap,cur,e0,Ap hb GR,h3⟩
theorem az1(w:World)(q:Option Addr)(cap:Nat)(l:M)(h2:l.length < 2)(h:AO w q l)(hq:q=none→cap=0):
  Calls prog 138 #[.slice q l.length cap] w fun e w'=>∃ v,e=.returned v∧Bo w' w.heap.size v (EG l)∧Bw w w':=by
 have HC:=Hi (ZC h hq (by omega));have hi:(l.length:Int) < 2:=by omega
 have HS:=Hi (ed h2);clear h hq h2;go_enter func138,ntmps138;go_wp2_with fail;refine HC.mono ?_;rintro e w1⟨v,rfl,hr,hb⟩;obtain⟨q1,c1,rfl,Ef,Gw⟩:=Es hr;have HR:=Hi hr;have HB:=Hi hb;clear hr hb Ef Gw;go_wp2_with fail;go_ret;exact⟨_,rfl,by rw[HS.out];exact HR.out,HB⟩
theorem amU:∀ (n:Nat) (w:World) (q:Option Addr) (cap:Nat) (l:M),l.length≤n→AO w q l→(q=none→cap=0)→l.length≤1000000→
  Calls prog 138 #[.slice q l.length cap] w fun e w'=>∃ v,e=.returned v∧Bo w' w.heap.size v (EG l)∧Bw w w':=by
 intro n
 induction n with
 |zero=>exact fun w q cap l hn h hq hl=>az1 w q cap l (by omega) h hq
 |succ n ih=>
  intro w q cap l hn h hq hl;have HC:=Hi (ZC h hq (by omega));have IH:=Hi ih;clear h hq ih;obtain⟨L,hL⟩:=ex (l.length);rw[hL] at HC hl hn ⊢;have HL:=Hi hL;clear hL;go_enter func138,ntmps138;go_wp2_with fail;refine HC.mono ?_;rintro e w1⟨v,rfl,hr,hb⟩;obtain⟨q1,c1,rfl,Ef,Gw⟩:=Es hr;rw[HL.out] at Gw ⊢;have HR:=Hi hr;have HB:=Hi hb;have HQ:=Hi Ef;clear hr hb Ef;by_cases h2:L < 2
  ·have hi:(L:Int) < 2:=(by omega);have HS:=Hi (ed (l:=l) (by rw[HL.out];exact h2));clear h2;go_wp2_with fail;go_ret;exact⟨_,rfl,by rw[HS.out];rw[HL.out] at HR;exact HR.out,HB⟩
  ·have hi:¬ (L:Int) < 2:=(by omega);by_cases h3:L=2
   ·subst h3;obtain⟨a,b,rfl⟩:∃ a b,l=[a,b]:=by
     match l,HL.out with
     |[a,b],_=>exact⟨a,b,rfl⟩
    have hr:=HR.out;obtain⟨g,rfl⟩:∃ g,q1=some ⟨g,0,none⟩:=by
     rcases hr.2 with⟨e1,e2⟩|⟨g,cap',cur,e1,_⟩
     ·simp at e2
     ·injection e1 with e2;exact⟨g,e2⟩
    have Rb:∀ W,(Instr.indexAt 22 (.slice (some ⟨g,0,none⟩) 2 c1) (.int .i64 0)).run prog W=.ok (.pointer (some ⟨g,0,none⟩)) W:=fun W=>by
     have:=Hr prog _ 75 underlying22 2 (by kernel_rfl) ⟨g,0,none⟩ 2 c1 0 (by omega) W;rw[add_plain] at this;exact this
    have EE:∀ W,(Instr.indexAt 22 (.slice (some ⟨g,0,none⟩) 2 c1) (.int .i64 1)).run prog W=.ok (.pointer (some ⟨g,2,none⟩)) W:=fun W=>by
     have:=Hr prog _ 75 underlying22 2 (by kernel_rfl) ⟨g,0,none⟩ 2 c1 1 (by omega) W;rw[add_plain] at this;exact this
    have KC:=Hi (fun(W:World) (hW:Bw w1 W)=>(show W.cell? ⟨g,0,none⟩=some (.string (bs a.1))∧W.cell? ⟨g,1,none⟩=some (.string (bs a.2))∧W.cell? ⟨g,2,none⟩=some (.string (bs b.1))∧W.cell? ⟨g,3,none⟩=some (.string (bs b.2)) from by
     have BH:=(C9 hr hW).cells (g:=g) rfl;have c0:=BH 0 (.string (bs a.1)) (by unfold Da;rfl);have c1:=BH 1 (.string (bs a.2)) (by unfold Da;rfl);have c2:=BH 2 (.string (bs b.1)) (by unfold Da;rfl);have c3:=BH 3 (.string (bs b.2)) (by unfold Da;rfl);rw[add_plain] at c0 c1 c2 c3;exact⟨c0,c1,c2,c3⟩))
    have KF:=Hi (fun(W:World) (hW:Bw w1 W)=>(show W.frozen? ⟨g,0,none⟩=false∧W.frozen? ⟨g,1,none⟩=false∧W.frozen? ⟨g,2,none⟩=false∧W.frozen? ⟨g,3,none⟩=false from
     ⟨sZ (C9 hr hW) 0,sZ (C9 hr hW) 1,sZ (C9 hr hW) 2,sZ (C9 hr hW) 3⟩))
    have HD:=Hi ((Af w1.heap.size w1).drew);obtain⟨k0,k1,k2,k3⟩:=KC _ (Af _ _);have BI:=Hi hr;have HG:=Hi (DC hr (b:=g) rfl);clear hr HR;by_cases hlt:b.1 < a.1
    ·have hd:decide (b.1 < a.1)=true:=Kr hlt;go_wp2_with fail
     go_region_held3 (fun W=>W.cell? ⟨g,0,none⟩=some (.string (bs a.1))∧W.cell? ⟨g,1,none⟩=some (.string (bs a.2))∧W.cell? ⟨g,2,none⟩=some (.string (bs b.1))∧W.cell? ⟨g,3,none⟩=some (.string (bs b.2)))
      (first|exact KC _ HD|exact KC _ HB1)
      (first
       |(go_at_call 147;refine(rW b a _).mono ?_;rw[hd];rintro e W1 ⟨rfl,Ad⟩;have HB1:=Hi (HD.trans (Ad.mono HD.size));clear Ad))
     clear k0 k1 k2 k3;obtain⟨k0,k1,k2,k3⟩:=KC _ HB1.out;obtain⟨f0,f1,f2,f3⟩:=KF _ HB1.out;go_wp2_with fail;go_region;all_goals
      go_wp2_with fail;go_ret;refine⟨_,rfl,?_,(((((HB.trans (HB1.mono HB.size)).setCell (p:=⟨g,0,none⟩) HG _).setCell (p:=⟨g,1,none⟩) HG _).setCell (p:=⟨g,2,none⟩) HG _).setCell (p:=⟨g,3,none⟩) HG _).drew⟩;rw[amY,Ab hlt];have:=(sW (sW (sW (sW (C9 BI HB1) 0 (.string (bs b.1))) 1 (.string (bs b.2))) 2 (.string (bs a.1))) 3 (.string (bs a.2))).drew;have e:(((((Da [a,b]).set 0 (.string (bs b.1))).set 1 (.string (bs b.2))).set 2 (.string (bs a.1))).set 3 (.string (bs a.2)))=Da [b,a]:=(by unfold Da;rfl);rw[e] at this;exact this
    ·have hd:decide (b.1 < a.1)=false:=Pp hlt;go_wp2_with fail
     go_region_held3 (fun W=>W.cell? ⟨g,0,none⟩=some (.string (bs a.1))∧W.cell? ⟨g,1,none⟩=some (.string (bs a.2))∧W.cell? ⟨g,2,none⟩=some (.string (bs b.1))∧W.cell? ⟨g,3,none⟩=some (.string (bs b.2)))
      (first|exact KC _ HD|exact KC _ HB1)
      (first
       |(go_at_call 147;refine(rW b a _).mono ?_;rw[hd];rintro e W1 ⟨rfl,Ad⟩;have HB1:=Hi (HD.trans (Ad.mono HD.size));clear Ad))
     go_wp2_with fail;go_ret;exact⟨_,rfl,by rw[amY,Aa hlt];exact C9 BI HB1,HB.trans (HB1.mono HB.size)⟩
   ·have hi3:¬ (L:Int)=2:=(by omega);obtain⟨k,hk⟩:=ex (L / 2);have aCe:(L:Int) / 2=(k:Int):=(by omega);have hr:=HR.out;rw[HL.out] at hr;have hat:=AO.CG hr;have Db:k≤L:=(by omega);have jo:=fun W=>aco W q1 L c1 k Db Gw
    have NY:=fun W=>dM W q1 L c1 k Db
    have hf:=hat.front k;have GR:=hat.back (cap:=c1) (k:=k) (by rw[HL.out];exact Db) (by rw[HL.out];exact Gw);have lf:(l.take k).length=k:=(by rw[AL,HL.out];omega);have lb:(l.drop k).length=L -k:=(by rw[Ce,HL.out]);have C1:=Hi (fun(W:World) (hW:Bw w1 W)=>IH W q1 c1 (l.take k) (by omega) (hf.below hW) HQ (by omega));have C2:=Hi (fun(W:World) (hW:Bw w1 W)=>IH W (Ii q1 c1 k) (c1 -k) (l.drop k) (by omega) (GR.below hW) (apQ HQ) (by omega));have ls1:=dZ (l.take k);have ls2:=dZ (l.drop k);rw[lf] at C1 ls1;rw[lb] at C2 ls2;have HS:=Hi (acY (l:=l) (by rw[HL.out];exact h2));rw[HL.out,hk] at HS;have HD:=Hi ((Af w1.heap.size w1).drew);have nL:=Hi ls1;have nM:=Hi ls2;clear hr hat hf GR lf lb h2 h3 hk ls1 ls2 HC IH HR;go_wp2_with fail
    go_region_held3 (fun _=>True) (exact trivial)
     (first
      |(go_at_call 146;refine Wn.mono ?_;rintro e W3 ⟨v3,rfl,h3,Ak⟩;have H3:=Hi h3;have B3:=Hi (B2.trans (Ak.mono B2.size));clear h3 Ak)
      |(go_at_call 138;refine(C2 _ B1).mono ?_;rintro e W2 ⟨v2,rfl,h2,A8⟩;obtain⟨q3,c3,rfl,LF,Js⟩:=Es h2;rw[nM.out] at Js ⊢;have B2:=Hi (B1.trans (A8.mono B1.size));have Wn:=Hi (al4 (AO.CG (C9 H1 A8)) (AO.CG h2) wZ LF (by rw[nL.out];exact NG.out) (by rw[nM.out];exact Js) (by rw[nL.out,nM.out];omega));rw[nL.out,nM.out] at Wn;clear h2 A8 LF Js)
      |(go_at_call 138;refine(C1 _ HD).mono ?_;rintro e W1 ⟨v1,rfl,h1,Ad⟩;obtain⟨q2,c2,rfl,CV,Gf⟩:=Es h1;rw[nL.out] at Gf ⊢;have H1:=Hi h1;have wZ:=Hi CV;have NG:=Hi Gf;have B1:=Hi (HD.trans (Ad.mono HD.size));clear h1 Ad CV Gf))
    go_wp2_with fail;go_ret;exact⟨_,rfl,by rw[HS.out];exact(show Bo _ w.heap.size _ _ from E9 H3 (by have:=B2.size;have:=HB.size;omega)),HB.trans (B3.mono HB.size)⟩
def y9(w:World)(a:Option Addr)(rows:List M):Prop:=∀ i,(h:i < rows.length)→∃ p:Addr,a=some p∧∃ q c,w.cell? (p.add i)=some (.slice q rows[i].length c)∧AO w q rows[i]∧(q=none→c=0)∧rows[i].length≤c
def Kn(rows:List M):M:=rows.foldl (fun o r=>mrg o (EG r)) []
theorem awz(rows:List M)(r:M):Kn (rows++[r])=mrg (Kn rows) (EG r):=by unfold Kn;rw[List.foldl_append];rfl
theorem awy(rows:List M):(Kn rows).length=(rows.map List.length).sum:=by
 unfold Kn
 suffices h:∀ (rows:List M) (o:M),(rows.foldl (fun o r=>mrg o (EG r)) o).length=o.length+(rows.map List.length).sum from by rw[h];simp
 intro rows
 induction rows with
 |nil=>intro o;simp
 |cons r rows ih=>intro o;rw[List.foldl_cons,ih,awC,dZ,BL,Dq];omega
theorem an3(rows:List M)(k:Nat):((rows.take k).map List.length).sum≤(rows.map List.length).sum:=by
 induction rows generalizing k with
 |nil=>simp
 |cons r rows ih=>
  cases k with
  |zero=>simp
  |succ k=>have:=ih k;simp only[List.take_succ_cons,BL,Dq];omega
theorem al3{w:World}{a:Option Addr}{cap:Nat}{rows:List M}(h:y9 w a rows)(hs:(rows.map List.length).sum≤1000000)(hl:rows.length≤1000000):
  Calls prog 71 #[.slice a rows.length cap] w fun e w'=>∃ v,e=.returned v∧Bo w' 0 v (Kn rows)∧Bw w w'∧∀ g,v.ownBlock=some g→w.heap.size≤g:=by
 have HH:=Hi h;clear h;go_enter func71,ntmps71;go_wp2_with fail
 go_loopw [2,7] (fun vo i wr=>∃ k:Nat,k≤rows.length∧i=.int .i64 (k:Int)∧Bo wr w.heap.size vo (Kn (rows.take k))∧Bw w wr) (fun _ i _=>rows.length -(intOf i).toNat)
 case atStart=>exact⟨0,AB _,rfl,by unfold Bo Kn;rw[GZ,List.foldl_nil,PV];exact EI _ _ _ _,Af _ _⟩
 case round=>
  obtain⟨k,hk,rfl,Ah,hb⟩:=hrel;by_cases hlt:k < rows.length
  ·obtain⟨p,rfl,q,c,FE,hat,hq,hc⟩:=HH k hlt;have Cu:∀ W,(Instr.indexAt 223 (.slice (some p) rows.length cap) (.int .i64 (k:Int))).run prog W=.ok (.pointer (some (p.add k))) W:=fun W=>by
    have:=Hr prog 223 22 underlying223 1 (by kernel_rfl) p rows.length cap k hlt W;rwa[Nat.mul_one] at this
   have atK:=(hb.cell (BS FE)).trans FE;have HS:=Hi (amU _ wr q c rows[k] (Ac _) (hat.below hb) hq (by have:=an3 rows (k+1);rw[Cw hlt,CF,JH] at this;simp only[BL,List.map_nil,Dq,List.sum_nil] at this;omega));have HT:=Hi (show Kn (rows.take (k+1))=mrg (Kn (rows.take k)) (EG rows[k]) from by rw[Cw hlt,awz]);have CB:(Kn (rows.take k)).length+(EG rows[k]).length≤1000000:=by
    have:=an3 rows (k+1);rw[Cw hlt,CF,JH] at this;simp only[BL,List.map_nil,Dq,List.sum_nil] at this;rw[awy,dZ];omega
   have Cz:=dZ rows[k];generalize rows[k]=r at*;obtain⟨qo,co,rfl,Zf,YN⟩:=Es Ah;have HR:=Hi Ah;have HB:=Hi hb;have nk:=Hi Zf;have Ry:=Hi YN;have NQ:=Hi Cz;have UN:=Hi CB;clear Ah hb Zf YN Cz hat hq hc FE CB;generalize Kn (rows.take k)=o at*;go_wp2_with fail;refine HS.mono ?_;rintro e w1⟨v1,rfl,h1,Ad⟩;obtain⟨q1,c1,rfl,Ef,Gw⟩:=Es h1;have HM:=Hi (al4 (AO.CG (C9 HR Ad)) (AO.CG h1) nk Ef Ry Gw UN);have HB1:=Hi (HB.trans (Ad.mono HB.size));clear h1 Ad Ef Gw atK;go_wp2_with fail;refine HM.mono ?_;rintro e w2⟨v2,rfl,h2,A8⟩;have H2:=Hi h2;have Ag:=Hi (HB1.trans (A8.mono HB1.size));clear h2 A8;go_wp2_with fail;go_roundw
   case rel=>exact⟨k+1,by omega,by go_num,by rw[HT.out];exact E9 H2 HB1.size,Ag⟩
   case measure=>simp[intOf];omega
  ·obtain rfl:k=rows.length:=(by omega);rw[CY] at Ah;have HR:=Hi Ah;have HB:=Hi hb;clear Ah hb;go_wp2_with fail;go_ret;exact⟨_,rfl,E9 HR (AB _),HB,fun g hg=>DC HR hg⟩
theorem amX{l:M}{k:Nat}(h:Cr (l.take k))(h1:1≤k)(hk:k < l.length)(hn:¬ l[k].1 < (l[k -1]'(by omega)).1):Cr (l.take (k+1)):=by
 rw[Cw hk];refine List.pairwise_append.2 ⟨h,Tf _ _,fun a ha b hb=>?_⟩;rw[EX] at hb;subst hb;obtain⟨i,hi,e⟩:=List.mem_take_iff_getElem.1 ha;have hik:i < k:=by omega
 have h2:(l[i]'(by omega)).1≤(l[k -1]'(by omega)).1:=by
  by_cases e1:i=k -1
  ·subst e1;exact List.le_refl _
  ·have:=(List.pairwise_iff_getElem.1 h) i (k -1) (by rw[AL];omega) (by rw[AL];omega) (by omega);rwa[List.getElem_take,List.getElem_take] at this
 rw[←e];exact List.le_trans h2 (dJ.1 hn)
theorem ale{l:M}{k:Nat}(h1:1≤k)(hk:k < l.length)(hn:l[k].1 < (l[k -1]'(by omega)).1):¬ Cr l:=fun h=>
 absurd hn (List.not_lt.2 ((List.pairwise_iff_getElem.1 h) (k -1) k (by omega) hk (by omega)))
theorem alq{w:World}{a:Option Addr}{cap:Nat}{l:M}(h:AO w a l)(hl:l.length≤1000000):
  Calls prog 197 #[.slice a l.length cap] w fun e w'=>e=.returned (.int .i64 (if Cr l then 0 else 2))∧Bw w w':=by
 have HH:=Hi h;clear h;go_enter func197,ntmps197;go_wp2_with fail
 go_loopw [3] (fun i wr=>∃ k:Nat,1≤k∧(k≤l.length∨k=1)∧i=.int .i64 (k:Int)∧Cr (l.take k)∧Bw w wr) (fun i _=>l.length -(intOf i).toNat)
 case atStart=>exact⟨1,Ac _,.inr rfl,rfl,by
  cases l with
  |nil=>exact List.Pairwise.nil
  |cons x l=>exact Tf _ _,Af _ _⟩
 case round=>
  obtain⟨k,hk1,hk,rfl,hs,hb⟩:=hrel;by_cases hlt:k < l.length
  ·obtain⟨p,Cu,hp,-⟩:=HH.index cap k hlt;obtain⟨p',aaz,Mw,-⟩:=HH.index cap (k -1) (by omega);have Qj:IntKind.i64.wrap ((k:Int) -1)=((k -1:Nat):Int):=(by rw[Ei _ (by omega)];omega);have c1:=(hp.upd (ub hb) (fun f=>f)).key;have c2:=(Mw.upd (ub hb) (fun f=>f)).key;have HT:=Hi (fun hn=>amX hs hk1 hlt hn);have HN:=Hi (fun hn=>ale hk1 hlt hn);have HB:=Hi hb;clear hs hb hp Mw;generalize l[k]=x at*;generalize l[k -1]'(by omega)=y at*;by_cases Io:x.1 < y.1
   ·have De:Op.bytesLess x.1 y.1=true:=(by rw[Go.Proofs.bytesLess_eq];simpa using Io);have wT:=Hi (HN Io);clear HT HN Io;go_wp2_with fail;go_region;go_wp2_with fail;go_ret;exact⟨by first|rfl|(rw[Aa wT.out];rfl),HB.drew⟩
   ·have De:Op.bytesLess x.1 y.1=false:=(by rw[Go.Proofs.bytesLess_eq];simpa using Io);have TD:=Hi (HT Io);clear HT HN Io;go_wp2_with fail;go_region;go_wp2_with fail;go_roundw
    case rel=>exact⟨k+1,by omega,.inl (by omega),by go_num,TD.out,HB.drew⟩
    case measure=>simp[intOf];omega
  ·have HS:=Hi (show Cr l from by
    have:=hs;rwa[Gn (by omega)] at this)
   have HB:=Hi hb;have jF:¬ (k:Int) < (l.length:Int):=(by omega);clear hs hb hlt;go_wp2_with fail;go_ret;exact⟨by first|rfl|(rw[Ab HS.out];rfl),HB⟩
end Prs
end Go.Proofs.YtmbbhdebddbhoaaGreat
