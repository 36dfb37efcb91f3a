/- PrsW PrsX PrsY PrsPut PrsGet SameT RefOct RefPut RefCom -/
import Derived.Test.YtkmninbcgipliaaGreatDoorQ10
set_option maxHeartbeats 4000000
set_option maxRecDepth 100000
set_option linter.all false
namespace Go.Proofs.YtkmninbcgipliaaGreatDoor
open Tryz
open Go.RowKit
namespace Bu
open Go.Maps
open Af Ap
structure Rn(w:World)(q:Addr)(p:T×T):Prop where
 key:w.cell? q=some (.string (bs p.1))
 val:w.cell? ⟨q.block,q.off+1,none⟩=some (.string (bs p.2))
def Bj(w:World)(a:Option Addr)(l:M):Prop:=∀ i,(h:i < l.length)→∃ p:Addr,a=some p∧Rn w (p.add (i*2)) l[i]
abbrev BK(w:World)(base:Nat)(v:Value)(l:M):Prop:=w.ownsRow base 51 2 v l.length (Dn l)
theorem RO:(prog.info? 51).map (fun i=>(i.zero,i.size,i.bytes))=some (some (.agg #[.string ByteArray.empty,.string ByteArray.empty]),2,32):=by kernel_rfl
section
variable {w w':World}{a:Option Addr}{l:M}
theorem Rn.upd{F:Nat→Prop}{q:Addr}{p:T×T}(h:Rn w q p)(hu:A7 F w w')(hF:¬ F q.block):Rn w' q p:=by
 have hl:=D7 h.key;exact⟨(hu.cell hl hF).trans h.key,(hu.cell (p:=⟨q.block,q.off+1,none⟩) hl hF).trans h.val⟩
theorem Bj.upd{F:Nat→Prop}(h:Bj w a l)(hu:A7 F w w')(hF:∀ p,a=some p→l≠[]→¬ F p.block):Bj w' a l:=fun i hi=>by
 obtain⟨p,e,hp⟩:=h i hi;exact⟨p,e,hp.upd hu (by rw[add_block];exact hF p e (List.ne_nil_of_length_pos (by omega)))⟩
theorem Bj.below(h:Bj w a l)(hb:Bw w w'):Bj w' a l:=h.upd (ub hb) (fun _ _ _ f=>f)
theorem Bj.nil(w:World)(a:Option Addr):Bj w a []:=fun i hi=>by simp at hi
theorem Bj.index(h:Bj w a l)(cap k:Nat)(hk:k < l.length):
  ∃ q:Addr,(∀ W,(Instr.indexAt 30 (.slice a l.length cap) (.int .i64 (k:Int))).run prog W=.ok (.pointer (some q)) W)∧Rn w q l[k]∧∃ p:Addr,a=some p∧q.block=p.block:=by
 obtain⟨p,rfl,hp⟩:=h k hk;exact⟨_,fun W=>IM prog _ 51 underlying30 2 (by kernel_rfl) p l.length cap k hk W,hp,p,rfl,add_block _ _⟩
theorem Bj.D9{base n:Nat}{c:Nat}{q:Option Addr}(h:BK w base (.slice q n c) l):Bj w q l:=fun i hi=>by
 rcases h.2 with⟨e1,e2⟩|⟨g,cap',cur,e1,_⟩
 ·omega
 ·have e2:q=some ⟨g,0,none⟩:=by injection e1
  subst e2;have hc:∀ j,j < 2→∀ v,([.string (bs l[i].1),.string (bs l[i].2)]:List Value)[j]?=some v→w.cell? (((⟨g,0,none⟩:Addr).add (i*2)).add j)=some v:=fun j hj v hv=>by
   rw[←oV l i hi j hj] at hv;have:=h.cells (g:=g) rfl _ _ hv;rw[add_plain] at this ⊢;rw[Vs];exact this
  refine⟨_,rfl,?_,?_⟩
  ·have:=hc 0 (by omega) _ rfl;rwa[add_zero'] at this
  ·have:=hc 1 (by omega) _ rfl;rw[add_plain,Vs] at this;rw[add_plain];exact this
theorem ag8(a b:M):Dn (a++b)=Dn a++Dn b:=by unfold Dn;rw[Nk]
theorem bD(l:M):(Dn l).length=l.length*2:=by
 unfold Dn
 induction l with
 |nil=>rfl
 |cons p l ih=>rw[Q0,Az,ih,BN];simp;omega
theorem ag9(l:M):∀ u∈Dn l,u.oneCell'=true:=by
 unfold Dn;intro u hu;obtain⟨p,_,hp⟩:=Nl.1 hu;simp only[BZ,List.not_mem_nil,or_false] at hp;rcases hp with rfl|rfl<;>rfl
theorem Bj.cells{p:Addr}(h:Bj w (some p) l):∀ j u,(Dn l)[j]?=some u→w.cell? (p.add j)=some u:=fun j u hj=>by
 have hlt:j < l.length*2:=by
  have:=(TK.1 hj).1;rwa[bD] at this
 obtain⟨i,r,hr,rfl⟩:∃ i r,r < 2∧j=i*2+r:=⟨j / 2,j % 2,by omega,by omega⟩;have hi:i < l.length:=by omega
 obtain⟨q,e,hp⟩:=h i hi;cases e;have hg:=oV l i hi r hr;rw[hj] at hg
 match r,hr with
 |0,_=>
  have:u=.string (bs l[i].1):=by simpa using hg
  rw[this];exact hp.key
 |1,_=>
  have:u=.string (bs l[i].2):=by simpa using hg
  rw[this,←Addr.add_add];have e3:(p.add (i*2)).add 1=⟨(p.add (i*2)).block,(p.add (i*2)).off+1,none⟩:=by
   generalize p.add (i*2)=q;unfold Addr.add;simp
  rw[e3];exact hp.val
def amN(v:Value):Nat:=match v with| .slice _ n _=>n|_=>0
def IW(q:Option Addr)(cap k:Nat):Option Addr:=if cap=k then q else q.map (·.add (k*2))
theorem acf(W:World)(q:Option Addr)(n cap k:Nat)(hk:k≤n)(hc:n≤cap):
  (Instr.slice 30 (.slice q n cap) none (some (.int .i64 (k:Int))) none).run prog W=.ok (.slice q k cap) W:=by
 obtain⟨i,hi,_,hs,_⟩:=DI RO;cases q<;>simp[Instr.slice,GK underlying30,Instr.sliceBounds,sizeOf,typeInfo,hi,go_sem]<;>omega
theorem eG(W:World)(q:Option Addr)(n cap k:Nat)(hk:k≤n):
  (Instr.slice 30 (.slice q n cap) (some (.int .i64 (k:Int))) none none).run prog W=.ok (.slice (IW q cap k) (n -k) (cap -k)) W:=by
 obtain⟨i,hi,_,hs,_⟩:=DI RO;cases q
 ·simp[Instr.slice,GK underlying30,Instr.sliceBounds,sizeOf,typeInfo,hi,go_sem,IW];exact fun h=>absurd h (by omega)
 ·simp[Instr.slice,GK underlying30,Instr.sliceBounds,sizeOf,typeInfo,hi,hs,go_sem,IW];exact fun h=>absurd h (by omega)
theorem Bj.front(h:Bj w a l)(k:Nat):Bj w a (l.take k):=fun i hi=>by
 rw[Be] at hi;obtain⟨p,hp,hc⟩:=h i (by omega);exact⟨p,hp,by rw[List.getElem_take];exact hc⟩
theorem Bj.back(h:Bj w a l){cap k:Nat}(hk:k≤l.length)(hc:l.length≤cap):Bj w (IW a cap k) (l.drop k):=fun i hi=>by
 rw[Cs] at hi;obtain⟨p,hp,BJ⟩:=h (k+i) (by omega);refine⟨p.add (k*2),?_,?_⟩
 ·unfold IW;rw[Aa (by omega),hp];rfl
 ·rw[Addr.add_add,List.getElem_drop,show k*2+i*2=(k+i)*2 by omega];exact BJ
end
section
variable {w:World}
theorem ai{ops:Array Oper}{rest:List Oper}{o:Oper}{a:Act}{Q:Exit→Act→World→Prop}(PO:o.guard=none)(s x:Operand)
  (ho:o.op=.call { callee:=.builtin .append,args:=#[s,x],argTypes:=#[30,30] })
  (base:Nat)(v:Value)(n:Nat)(l k:M)(hs:a.eval s=v)(hown:w.ownsRow base 51 2 v n (Dn l))(q:Option Addr)(cap m:Nat)(hx:a.eval x=.slice q m cap)(hm:k.length=m)(hk:Bj w q k)(hq:q=none→cap=0)
  (hn:n+m≤1000000000)(Mc:base≤w.heap.size)
  (h:∀ v' w',w'.ownsRow base 51 2 v' (n+m) (Dn (l++k))→w.grownBy w' v.ownBlock→(v'.ownBlock=v.ownBlock∨v'.ownBlock=some w.heap.size)→wpList prog ops Q rest (a.put o.dst v') w'):
  wpList prog ops Q (o :: rest) a w:=by
 obtain⟨i0,Bg,AX,AY,Ba⟩:=DI RO;subst hm;cases q with
 |none=>
  obtain rfl:k=[]:=by
   cases k with
   |nil=>rfl
   |cons y k=>
    obtain⟨p,hp,_⟩:=hk 0 (by simp);cases hp
  rw[hq rfl] at hx;refine wpList_append_own_none PO s x _ ho base 51 i0 2 underlying30 Bg v n (Dn l) hs hown hx ?_;exact h v w (by rw[En];exact hown) (World.grownBy.refl w _) (.inl rfl)
 |some ad=>
  refine wpList_append_own_at w PO s x _ ho base 51 i0 _ 2 32 underlying30 Bg AX AY Ba rfl (by decide) v n (Dn l) hs hown ad k.length cap (Dn k) hx (bD k) hk.cells (ag9 k) (by unfold maxLen;omega) (by omega) Mc ?_;intro v' w' h1 h2 _ h4;refine h v' w' ?_ h2 h4;rw[ag8];exact h1
theorem aro(w:World):BK (w.alloc (.cells #[] 51)) w.heap.size (.slice (some ⟨w.heap.size,0,none⟩) 0 0) []:=
 ⟨by unfold Dn;rfl,.inr ⟨w.heap.size,0,#[],rfl,Ae _,AP w _,Ae _,AZ _,rfl,by unfold Dn;rfl⟩⟩
theorem Fz{base:Nat}{v:Value}{l:M}(h:BK w base v l):∃ q cap,v=.slice q l.length cap∧(q=none→cap=0)∧l.length≤cap:=by
 rcases h.2 with⟨e1,e2⟩|⟨g,cap,_,e1,_,_,hn,_⟩
 ·exact⟨none,0,by rw[e1,e2],fun _=>rfl,by omega⟩
 ·exact⟨_,cap,e1,(fun e=>by cases e),hn⟩
theorem sG(p q:T×T)(w:World):
  Calls prog 179 #[.agg #[.string (bs p.1),.string (bs p.2)],.agg #[.string (bs q.1),.string (bs q.2)]] w fun e w'=>e=.returned (.bool (decide (p.1 < q.1)))∧Bw w w':=by
 have hb:=((Ah w.heap.size w).alloc (Ae _) (.cells #[.string (bs p.1),.string (bs p.2)] 51)).alloc (by rw[Ar];omega) (.cells #[.string (bs q.1),.string (bs q.2)] 51);have HB:=Hi hb;have HV:=Hi (show Op.bytesLess p.1 q.1=decide (p.1 < q.1) from by rw[Go.Proofs.bytesLess_eq]);clear hb;generalize decide (p.1 < q.1)=r at*;have hv:=HV.out
 go_in
 go_wp2;go_ret;exact⟨rfl,HB⟩
theorem afZ(w:World)(p:Option Addr)(n c:Nat):(binOp .eql 30 (.slice p n c) (.slice none 0 0)).run prog w=.ok (.bool p.isNone) w:=by
 have h:∀ d,(Op.equalIn (d+1) 30 (.slice p n c) (.slice none 0 0)).run prog w=.ok p.isNone w:=fun d=>by
  cases p<;>simp[Op.equalIn,GK underlying30]
 simp only[binOp];simp[show Op.equal 30 (.slice p n c) (.slice none 0 0)=Op.equalIn (9999+1) 30 (.slice p n c) (.slice none 0 0) from rfl,h 9999]
theorem l5{q:Option Addr}{cap:Nat}{l:M}(h:Bj w q l)(hq:q=none→cap=0)(hl:l.length≤1000000000):
  Calls prog 95 #[.slice q l.length cap] w fun e w'=>∃ v,e=.returned v∧BK w' w.heap.size v l∧Bw w w':=by
 cases q with
 |none=>
  obtain rfl:cap=0:=hq rfl;have Me:l=[]:=by
   cases l with
   |nil=>rfl
   |cons x l=>obtain⟨p,e,_⟩:=h 0 (by simp);cases e
  subst Me;have hqe:=fun w=>afZ w none 0 0
  clear h
  go_in
  go_wp2;go_ret;exact⟨_,rfl,by unfold BK;rw[Rp];exact E5 _ _ _ _,Ah _ _⟩
 |some p=>
  have HH:=Hi h;have hqe:=fun w=>afZ w (some p) l.length cap
  clear h hq
  go_in
  go_wp2_with (at_builtin;refine ai rfl _ _ rfl w.heap.size _ 0 [] l rfl (aro w) (some p) cap l.length rfl rfl (HH.below (AV w _)) (fun e=>by cases e) (by simpa using hl) (by rw[Ar];omega) ?_;intro v' w1 hown AJ hat);go_ret;refine⟨v',rfl,by rw[GJ,Ev] at hown;exact hown,(AV w _).grown AJ (by rw[Ar];omega) (fun k e=>?_)⟩;have e':some w.heap.size=some k:=e;have:=Gu e';omega
def apt(w:World)(A B:M)(va vb vo:Value)(wr:World):Prop:=∃ (A' B' O:M) (RQ RS:Option Addr) (Oj cb':Nat),va=.slice RQ A'.length Oj∧vb=.slice RS B'.length cb'∧Bj w RQ A'∧Bj w RS B'∧(RQ=none→Oj=0)∧(RS=none→cb'=0)∧A'.length≤Oj∧B'.length≤cb'∧
   O++G9 A' B'=G9 A B∧O.length+A'.length+B'.length=A.length+B.length∧BK wr w.heap.size vo O∧Bw w wr
theorem akP{qa qb:Option Addr}{ca cb:Nat}{A B:M}(hA:Bj w qa A)(hB:Bj w qb B)(ha:qa=none→ca=0)(hb:qb=none→cb=0)(bQ:A.length≤ca)(Xk:B.length≤cb)(hl:A.length+B.length≤1000000):
  Calls prog 177 #[.slice qa A.length ca,.slice qb B.length cb,.func (.func 179) #[] #[]] w fun e w'=>∃ v,e=.returned v∧BK w' w.heap.size v (G9 A B)∧Bw w w':=by
 obtain⟨i0,Bg,AX,AY,Ba⟩:=DI RO;obtain⟨w1,NS,Ag,Ta⟩:=run_make_own (P:=prog) w w.heap.size 30 51 i0 _ 2 underlying30 Bg AX AY .i64 .i64 (A.length+B.length) (by rw[Ba];omega) (by unfold maxLen;omega) (Ae _);rw[Int.natCast_add] at NS;have DC:((A.length:Int)+(B.length:Int))≤1000000:=by omega
 have HA:=Hi hA;have HB:=Hi hB;have Co:=Hi (show BK w1 w.heap.size (.slice (some ⟨w.heap.size,0,none⟩) 0 (A.length+B.length)) [] from by unfold BK;rw[Rp];exact Ag);have P5:=Hi ((Ah w.heap.size w).grown Ta (Ae _) (fun k e=>by cases e));have HQA:=Hi ha;have HQB:=Hi hb;clear hA hB Ag Ta ha hb
 go_in
 go_wp2
 go_loopw [0,1,7] (fun va vb vo wr=>apt w A B va vb vo wr) (fun va vb _ _=>amN va+amN vb)
 case atStart=>exact⟨A,B,[],qa,qb,ca,cb,rfl,rfl,HA,HB,HQA,HQB,bQ,Xk,rfl,by simp,Co,P5⟩
 case round=>
  obtain⟨A',B',O,RQ,RS,Oj,cb',rfl,rfl,hA',hB',ha',hb',ahy,ahG,hm,hlen,Ag,ahH⟩:=hrel;obtain⟨qo,co,rfl⟩:=Bp Ag;have fT:=Hi hA';have fV:=Hi hB';have nH:=Hi ha';have nI:=Hi hb';have HM:=Hi hm;have HL:=Hi hlen;have HR:=Hi Ag;have HW:=Hi ahH;have ax:=Hi ahy;have AO:=Hi ahG;clear hA' hB' ha' hb' hm hlen Ag ahH HA HB Co P5 HQA HQB bQ Xk ahy ahG NS DC;by_cases Rq:A'=[]
  ·have HE:=Hi (show(O++A')++B'=G9 A B from by rw[←HM.out,Rq,kW,En]);have hza:¬ (0:Int) < (A'.length:Int):=(by rw[Rq];simp);clear Rq
   go_wp2_with (at_builtin;first
    |(refine ai rfl _ _ rfl w.heap.size (.slice qo O.length co) O.length O A' rfl HR RQ Oj A'.length rfl rfl (fT.below HW) nH (by have:=HL.out;omega) HW.size ?_;intro v1 w1 h1 g1 _;obtain⟨q1,c1,rfl⟩:=Bp h1;have H1:=Hi h1;have W1:=Hi (HW.grown g1 HW.size (fun k e=>Ec HR e));clear h1 g1)
    |(refine ai rfl _ _ rfl w.heap.size (.slice q1 (O.length+A'.length) c1) (O.length+A'.length) (O++A') B' rfl H1 RS cb' B'.length rfl rfl (fV.below W1) nI (by have:=HL.out;omega) W1.size ?_;intro v2 w2 h2 g2 _;have H2:=Hi h2;have W2:=Hi (W1.grown g2 W1.size (fun k e=>Ec H1 e));clear h2 g2))
   go_ret;exact⟨v2,rfl,by unfold BK;rw[←HE.out,Az,Az];exact H2.out,W2⟩
  ·by_cases Pv:B'=[]
   ·have HE:=Hi (show(O++A')++B'=G9 A B from by rw[←HM.out,Pv,sW,En]);have hza:(0:Int) < (A'.length:Int):=(by have:=List.length_pos_iff.2 Rq;omega);have hzb:¬ (0:Int) < (B'.length:Int):=(by rw[Pv];simp);clear Rq Pv
    go_wp2_with (at_builtin;first
     |(refine ai rfl _ _ rfl w.heap.size (.slice qo O.length co) O.length O A' rfl HR RQ Oj A'.length rfl rfl (fT.below HW) nH (by have:=HL.out;omega) HW.size ?_;intro v1 w1 h1 g1 _;obtain⟨q1,c1,rfl⟩:=Bp h1;have H1:=Hi h1;have W1:=Hi (HW.grown g1 HW.size (fun k e=>Ec HR e));clear h1 g1)
     |(refine ai rfl _ _ rfl w.heap.size (.slice q1 (O.length+A'.length) c1) (O.length+A'.length) (O++A') B' rfl H1 RS cb' B'.length rfl rfl (fV.below W1) nI (by have:=HL.out;omega) W1.size ?_;intro v2 w2 h2 g2 _;have H2:=Hi h2;have W2:=Hi (W1.grown g2 W1.size (fun k e=>Ec H1 e));clear h2 g2))
    go_ret;exact⟨v2,rfl,by unfold BK;rw[←HE.out,Az,Az];exact H2.out,W2⟩
   ·have qZ:=List.length_pos_iff.2 Rq;have MS:=List.length_pos_iff.2 Pv;have hza:(0:Int) < (A'.length:Int):=(by omega);have hzb:(0:Int) < (B'.length:Int):=(by omega);obtain⟨pa,hia,rE,-⟩:=fT.index Oj 0 qZ;obtain⟨pb,hib,QE,-⟩:=fV.index cb' 0 MS;have aCO:∀ W,(Instr.indexAt 30 (.slice RQ A'.length Oj) (.int .i64 0)).run prog W=.ok (.pointer (some pa)) W:=hia;have aCP:∀ W,(Instr.indexAt 30 (.slice RS B'.length cb') (.int .i64 0)).run prog W=.ok (.pointer (some pb)) W:=hib;have VP:∀ W,(Instr.slice 30 (.slice RQ A'.length Oj) (some (.int .i64 1)) none none).run prog W=.ok (.slice (IW RQ Oj 1) (A'.length -1) (Oj -1)) W:=fun W=>eG W RQ A'.length Oj 1 qZ
    have OE:∀ W,(Instr.slice 30 (.slice RS B'.length cb') (some (.int .i64 1)) none none).run prog W=.ok (.slice (IW RS cb' 1) (B'.length -1) (cb' -1)) W:=fun W=>eG W RS B'.length cb' 1 MS
    have Qv:=QY qZ;have qG:=QY MS;rw[List.drop_zero] at Qv qG;obtain⟨x,hx⟩:=ex (A'[0]);obtain⟨y,hy⟩:=ex (B'[0]);rw[hx] at rE Qv;rw[hy] at QE qG
    have KC:=Hi (fun(W:World) (hW:Bw w W)=>(show W.cell? pa=some (.string (bs x.1))∧W.cell? ⟨pa.block,pa.off+1,none⟩=some (.string (bs x.2))∧W.cell? pb=some (.string (bs y.1))∧W.cell? ⟨pb.block,pb.off+1,none⟩=some (.string (bs y.2)) from
     ⟨(rE.upd (ub hW) (fun f=>f)).key,(rE.upd (ub hW) (fun f=>f)).val,(QE.upd (ub hW) (fun f=>f)).key,(QE.upd (ub hW) (fun f=>f)).val⟩))
    have Ky:=Hi Qv;have gB:=Hi qG;obtain⟨k1,k2,k3,k4⟩:=KC _ HW.out;have Rk:=Hi HW.drew;clear hia hib rE QE hx hy Qv qG Rq Pv;by_cases hlt:y.1 < x.1
    ·have hd:decide (y.1 < x.1)=true:=OT hlt
     have HN:=Hi (show(O++[y])++G9 A' (B'.drop 1)=G9 A B from by
      rw[←HM.out]
      conv=>rhs;rw[Ky.out,gB.out,kT,Ac hlt]
      rw[Dy,←Ky.out];rfl)
     clear hlt;go_wp2
     go_region_held3 (fun W=>W.cell? pa=some (.string (bs x.1))∧W.cell? ⟨pa.block,pa.off+1,none⟩=some (.string (bs x.2))∧W.cell? pb=some (.string (bs y.1))∧W.cell? ⟨pb.block,pb.off+1,none⟩=some (.string (bs y.2)))
      (first|exact KC _ Rk|exact KC _ HB1)
      (first
       |(go_at_call 179;refine(sG y x _).mono ?_;rw[hd];rintro e W1 ⟨rfl,Ai⟩;have HB1:=bH Rk Ai;have FD:=Hi (Ch HR.drew Ai);clear Ai))
     clear k1 k2 k3 k4;obtain⟨k1,k2,k3,k4⟩:=KC _ HB1.out;go_wp2_with fail
     go_region_law
      ((refine step_append_lies _ (by rfl) _ _ _ (by rfl) w.heap.size 51 i0 _ 2 32 underlying30 Bg AX AY Ba (by rfl) (by omega) (.slice qo O.length co) O.length (Dn O) (by rfl) ((FD.alloc _).drew) ⟨W1.heap.size,0,none⟩ 1 1 [.string (bs y.1),.string (bs y.2)] (by rfl) (by rfl) (World.news_of_block (cs:=#[.string (bs y.1),.string (bs y.2)]) (t:=51) (fr:=(0,0)) (AP W1 _)) (fun u hu=>by simp at hu;rcases hu with rfl|rfl<;>rfl) (by omega) (by have:=HL.out;unfold maxLen;omega) (by have:=HL.out;omega) (by have:=HB1.size;rw[World.size_drew,Ar];omega) (W1.heap.size+1) (by simp) ?_;intro gg cap2 w2 OD AJ hat OA))
     all_goals
      have Rj:=Hi (((HB1.alloc HB1.size _).drew).grown AJ (by have:=HB1.size;rw[World.size_drew,Ar];omega) (fun k e=>Ec FD e));have P9:=Hi OD;clear OD AJ hat k1 k2 k3 k4;go_wp2;go_roundw
      case rel=>
       repeat apply Exists.intro
       refine⟨?_,rfl⟩;exact⟨A',B'.drop 1,O++[y],RQ,IW RS cb' 1,Oj,cb' -1,rfl,by rw[Cs],fT,fV.back MS AO,nH,(fun e=>by have:=nI.out;have h1:=AO.out;unfold IW at e;split at e<;>simp_all<;>omega),ax,by have:=AO.out;rw[Cs];omega,HN,by have:=HL.out;simp only[Az,Kn,Cs];omega,by unfold BK;rw[Az,Uf];exact P9.out,Rj⟩
      case measure=>
       show A'.length+(B'.length -1) < A'.length+B'.length
       omega
    ·have hd:decide (y.1 < x.1)=false:=decide_eq_false hlt
     have HN:=Hi (show(O++[x])++G9 (A'.drop 1) B'=G9 A B from by
      rw[←HM.out]
      conv=>rhs;rw[Ky.out,gB.out,kT,Aa hlt]
      rw[Dy,←gB.out];rfl)
     clear hlt;go_wp2
     go_region_held3 (fun W=>W.cell? pa=some (.string (bs x.1))∧W.cell? ⟨pa.block,pa.off+1,none⟩=some (.string (bs x.2))∧W.cell? pb=some (.string (bs y.1))∧W.cell? ⟨pb.block,pb.off+1,none⟩=some (.string (bs y.2)))
      (first|exact KC _ Rk|exact KC _ HB1)
      (first
       |(go_at_call 179;refine(sG y x _).mono ?_;rw[hd];rintro e W1 ⟨rfl,Ai⟩;have HB1:=bH Rk Ai;have FD:=Hi (Ch HR.drew Ai);clear Ai))
     clear k1 k2 k3 k4;obtain⟨k1,k2,k3,k4⟩:=KC _ HB1.out;go_wp2_with fail
     go_region_law
      ((refine step_append_lies _ (by rfl) _ _ _ (by rfl) w.heap.size 51 i0 _ 2 32 underlying30 Bg AX AY Ba (by rfl) (by omega) (.slice qo O.length co) O.length (Dn O) (by rfl) ((FD.alloc _).drew) ⟨W1.heap.size,0,none⟩ 1 1 [.string (bs x.1),.string (bs x.2)] (by rfl) (by rfl) (World.news_of_block (cs:=#[.string (bs x.1),.string (bs x.2)]) (t:=51) (fr:=(0,0)) (AP W1 _)) (fun u hu=>by simp at hu;rcases hu with rfl|rfl<;>rfl) (by omega) (by have:=HL.out;unfold maxLen;omega) (by have:=HL.out;omega) (by have:=HB1.size;rw[World.size_drew,Ar];omega) (W1.heap.size+1) (by simp) ?_;intro gg cap2 w2 OD AJ hat OA))
     all_goals
      have Rj:=Hi (((HB1.alloc HB1.size _).drew).grown AJ (by have:=HB1.size;rw[World.size_drew,Ar];omega) (fun k e=>Ec FD e));have P9:=Hi OD;clear OD AJ hat k1 k2 k3 k4;go_wp2;go_roundw
      case rel=>
       repeat apply Exists.intro
       refine⟨?_,rfl⟩;exact⟨A'.drop 1,B',O++[x],IW RQ Oj 1,RS,Oj -1,cb',by rw[Cs],rfl,fT.back qZ ax,fV,(fun e=>by have:=nH.out;have h1:=ax.out;unfold IW at e;split at e<;>simp_all<;>omega),nI,by have:=ax.out;rw[Cs];omega,AO,HN,by have:=HL.out;simp only[Az,Kn,Cs];omega,by unfold BK;rw[Az,Uf];exact P9.out,Rj⟩
      case measure=>
       show(A'.length -1)+B'.length < A'.length+B'.length
       omega
end
theorem tV{w:World}{base g n cap:Nat}{xs:List Value}{e:TypeId}{s:Nat}(h:w.ownsRow base e s (.slice (some ⟨g,0,none⟩) n cap) n xs)(i:Nat):w.frozen? ⟨g,i,none⟩=false:=by
 rcases h.2 with⟨e1,_⟩|⟨g',cap',cur,e1,hb,hg,_⟩
 ·cases e1
 ·injection e1 with e2 _ e3
  injection e2 with e4
  injection e4 with e5
  subst e5;exact Cu w g i _ _ hg
theorem tT{w:World}{base:Nat}{e:TypeId}{s g n cap:Nat}{xs:List Value}(h:w.ownsRow base e s (.slice (some ⟨g,0,none⟩) n cap) n xs)(i:Nat)(v:Value):(w.setCell ⟨g,i,none⟩ v).ownsRow base e s (.slice (some ⟨g,0,none⟩) n cap) n (xs.set i v):=by
 obtain⟨h1,h2⟩:=h;refine⟨by rw[List.length_set];exact h1,?_⟩;rcases h2 with⟨e1,_⟩|⟨g',cap',cur,e1,hb,hg,hn,hm,DK,ht⟩
 ·cases e1
 ·injection e1 with e2 _ e3
  injection e2 with e4
  injection e4 with e5
  subst e5;subst e3;refine .inr ⟨g,cap,cur.setIfInBounds i v,rfl,hb,Cf w g i _ _ v hg,hn,hm,by rw[Array.size_setIfInBounds];exact DK,?_⟩;rw[Array.toList_setIfInBounds,←ht,List.take_set]
theorem amZ(a b:T×T):F6 [a,b]=if b.1 < a.1 then[b,a] else[a,b]:=by
 rw[acO (by simp)];have e1:([a,b]:M).take ([a,b].length / 2)=[a]:=by simp
 have e2:([a,b]:M).drop ([a,b].length / 2)=[b]:=by simp
 rw[e1,e2];rw[fq (by simp),fq (by simp),kT,kW,sW]
theorem apE{q:Option Addr}{cap k:Nat}(h:q=none→cap=0)(e:IW q cap k=none):cap -k=0:=by
 unfold IW at e;split at e
 ·omega
 ·have:=h (by simpa using e);omega
theorem Fu{w:World}{base Ub n s:Nat}{e:TypeId}{v:Value}{xs:List Value}(h:w.ownsRow base e s v n xs)(hb:Ub≤base):w.ownsRow Ub e s v n xs:=by
 refine⟨h.1,?_⟩;rcases h.2 with h2|⟨g,cap,cur,e0,Gh,h3⟩
 ·exact .inl h2
 ·exact .inr ⟨g,cap,cur,e0,Ay hb Gh,h3⟩
theorem azM(w:World)(q:Option Addr)(cap:Nat)(l:M)(h2:l.length < 2)(h:Bj w q l)(hq:q=none→cap=0):
  Calls prog 178 #[.slice q l.length cap] w fun e w'=>∃ v,e=.returned v∧BK w' w.heap.size v (F6 l)∧Bw w w':=by
 have HC:=Hi (l5 h hq (by omega));have hi:(l.length:Int) < 2:=by omega
 have HS:=Hi (fq h2);clear h hq h2
 go_in
 go_wp2_with fail;refine HC.mono ?_;rintro e w1⟨v,rfl,hr,hb⟩;obtain⟨q1,c1,rfl,GX,Gi⟩:=Fz hr;have HR:=Hi hr;have HB:=Hi hb;clear hr hb GX Gi;go_wp2;go_ret;exact⟨_,rfl,by rw[HS.out];exact HR.out,HB⟩
theorem amT:∀ (n:Nat) (w:World) (q:Option Addr) (cap:Nat) (l:M),l.length≤n→Bj w q l→(q=none→cap=0)→l.length≤1000000→
  Calls prog 178 #[.slice q l.length cap] w fun e w'=>∃ v,e=.returned v∧BK w' w.heap.size v (F6 l)∧Bw w w':=by
 intro n
 induction n with
 |zero=>exact fun w q cap l hn h hq hl=>azM w q cap l (by omega) h hq
 |succ n ih=>
  intro w q cap l hn h hq hl;have HC:=Hi (l5 h hq (by omega));have IH:=Hi ih;clear h hq ih;obtain⟨L,hL⟩:=ex (l.length);rw[hL] at HC hl hn ⊢;have HL:=Hi hL;clear hL
  go_in
  go_wp2_with fail;refine HC.mono ?_;rintro e w1⟨v,rfl,hr,hb⟩;obtain⟨q1,c1,rfl,GX,Gi⟩:=Fz hr;rw[HL.out] at Gi ⊢;have HR:=Hi hr;have HB:=Hi hb;have HQ:=Hi GX;clear hr hb GX;by_cases h2:L < 2
  ·have hi:(L:Int) < 2:=(by omega);have HS:=Hi (fq (l:=l) (by rw[HL.out];exact h2));clear h2;go_wp2;go_ret;exact⟨_,rfl,by rw[HS.out];rw[HL.out] at HR;exact HR.out,HB⟩
  ·have hi:¬ (L:Int) < 2:=(by omega);by_cases h3:L=2
   ·subst h3;obtain⟨a,b,rfl⟩:∃ a b,l=[a,b]:=by
     match l,HL.out with
     |[a,b],_=>exact⟨a,b,rfl⟩
    have hr:=HR.out;obtain⟨g,rfl⟩:∃ g,q1=some ⟨g,0,none⟩:=by
     rcases hr.2 with⟨e1,e2⟩|⟨g,cap',cur,e1,_⟩
     ·simp at e2
     ·injection e1 with e2;exact⟨g,e2⟩
    have RI:∀ W,(Instr.indexAt 30 (.slice (some ⟨g,0,none⟩) 2 c1) (.int .i64 0)).run prog W=.ok (.pointer (some ⟨g,0,none⟩)) W:=fun W=>by
     have:=IM prog _ 51 underlying30 2 (by kernel_rfl) ⟨g,0,none⟩ 2 c1 0 (by omega) W;rw[add_plain] at this;exact this
    have Ee:∀ W,(Instr.indexAt 30 (.slice (some ⟨g,0,none⟩) 2 c1) (.int .i64 1)).run prog W=.ok (.pointer (some ⟨g,2,none⟩)) W:=fun W=>by
     have:=IM prog _ 51 underlying30 2 (by kernel_rfl) ⟨g,0,none⟩ 2 c1 1 (by omega) W;rw[add_plain] at this;exact this
    have KC:=Hi (fun(W:World) (hW:Bw w1 W)=>(show W.cell? ⟨g,0,none⟩=some (.string (bs a.1))∧W.cell? ⟨g,1,none⟩=some (.string (bs a.2))∧W.cell? ⟨g,2,none⟩=some (.string (bs b.1))∧W.cell? ⟨g,3,none⟩=some (.string (bs b.2)) from by
     have BJ:=(Ch hr hW).cells (g:=g) rfl;have c0:=BJ 0 (.string (bs a.1)) (by unfold Dn;rfl);have c1:=BJ 1 (.string (bs a.2)) (by unfold Dn;rfl);have c2:=BJ 2 (.string (bs b.1)) (by unfold Dn;rfl);have c3:=BJ 3 (.string (bs b.2)) (by unfold Dn;rfl);rw[add_plain] at c0 c1 c2 c3;exact⟨c0,c1,c2,c3⟩))
    have KF:=Hi (fun(W:World) (hW:Bw w1 W)=>(show W.frozen? ⟨g,0,none⟩=false∧W.frozen? ⟨g,1,none⟩=false∧W.frozen? ⟨g,2,none⟩=false∧W.frozen? ⟨g,3,none⟩=false from
     ⟨tV (Ch hr hW) 0,tV (Ch hr hW) 1,tV (Ch hr hW) 2,tV (Ch hr hW) 3⟩))
    have HD:=Hi ((Ah w1.heap.size w1).drew);obtain⟨k0,k1,k2,k3⟩:=KC _ (Ah _ _);have BU:=Hi hr;have HG:=Hi (Ec hr (b:=g) rfl);clear hr HR;by_cases hlt:b.1 < a.1
    ·have hd:decide (b.1 < a.1)=true:=OT hlt;go_wp2
     go_region_held3 (fun W=>W.cell? ⟨g,0,none⟩=some (.string (bs a.1))∧W.cell? ⟨g,1,none⟩=some (.string (bs a.2))∧W.cell? ⟨g,2,none⟩=some (.string (bs b.1))∧W.cell? ⟨g,3,none⟩=some (.string (bs b.2)))
      (first|exact KC _ HD|exact KC _ HB1)
      (first
       |(go_at_call 179;refine(sG b a _).mono ?_;rw[hd];rintro e W1 ⟨rfl,Ai⟩;have HB1:=bH HD Ai;clear Ai))
     clear k0 k1 k2 k3;obtain⟨k0,k1,k2,k3⟩:=KC _ HB1.out;obtain⟨f0,f1,f2,f3⟩:=KF _ HB1.out;go_wp2;go_region;all_goals
      go_wp2;go_ret;refine⟨_,rfl,?_,(((((bT HB HB1).setCell (p:=⟨g,0,none⟩) HG _).setCell (p:=⟨g,1,none⟩) HG _).setCell (p:=⟨g,2,none⟩) HG _).setCell (p:=⟨g,3,none⟩) HG _).drew⟩;rw[amZ,Ac hlt];have:=(tT (tT (tT (tT (Ch BU HB1) 0 (.string (bs b.1))) 1 (.string (bs b.2))) 2 (.string (bs a.1))) 3 (.string (bs a.2))).drew;have e:(((((Dn [a,b]).set 0 (.string (bs b.1))).set 1 (.string (bs b.2))).set 2 (.string (bs a.1))).set 3 (.string (bs a.2)))=Dn [b,a]:=(by unfold Dn;rfl);rw[e] at this;exact this
    ·have hd:decide (b.1 < a.1)=false:=decide_eq_false hlt;go_wp2
     go_region_held3 (fun W=>W.cell? ⟨g,0,none⟩=some (.string (bs a.1))∧W.cell? ⟨g,1,none⟩=some (.string (bs a.2))∧W.cell? ⟨g,2,none⟩=some (.string (bs b.1))∧W.cell? ⟨g,3,none⟩=some (.string (bs b.2)))
      (first|exact KC _ HD|exact KC _ HB1)
      (first
       |(go_at_call 179;refine(sG b a _).mono ?_;rw[hd];rintro e W1 ⟨rfl,Ai⟩;have HB1:=bH HD Ai;clear Ai))
     go_wp2;go_ret;exact⟨_,rfl,by rw[amZ,Aa hlt];exact Ch BU HB1.out,HB.trans (HB1.mono HB.size)⟩
   ·have hi3:¬ (L:Int)=2:=(by omega);obtain⟨k,hk⟩:=ex (L / 2);have aD3:(L:Int) / 2=(k:Int):=(by omega);have hr:=HR.out;rw[HL.out] at hr;have hat:=Bj.D9 hr;have DX:k≤L:=(by omega);have jL:=fun W=>acf W q1 L c1 k DX Gi
    have Oo:=fun W=>eG W q1 L c1 k DX
    have hf:=hat.front k;have Gh:=hat.back (cap:=c1) (k:=k) (by rw[HL.out];exact DX) (by rw[HL.out];exact Gi);have lf:(l.take k).length=k:=(by rw[Be,HL.out];omega);have lb:(l.drop k).length=L -k:=(by rw[Cs,HL.out]);have C1:=Hi (fun(W:World) (hW:Bw w1 W)=>IH W q1 c1 (l.take k) (by omega) (hf.below hW) HQ (by omega));have C2:=Hi (fun(W:World) (hW:Bw w1 W)=>IH W (IW q1 c1 k) (c1 -k) (l.drop k) (by omega) (Gh.below hW) (apE HQ) (by omega));have ls1:=fo (l.take k);have ls2:=fo (l.drop k);rw[lf] at C1 ls1;rw[lb] at C2 ls2;have HS:=Hi (acO (l:=l) (by rw[HL.out];exact h2));rw[HL.out,hk] at HS;have HD:=Hi ((Ah w1.heap.size w1).drew);have nV:=Hi ls1;have nW:=Hi ls2;clear hr hat hf Gh lf lb h2 h3 hk ls1 ls2 HC IH HR;go_wp2
    go_region_held3 (fun _=>True) (exact trivial)
     (first
      |(go_at_call 177;refine WH.mono ?_;rintro e W3 ⟨v3,rfl,h3,Aw⟩;have H3:=Hi h3;have B3:=bH B2 Aw;clear h3 Aw)
      |(go_at_call 178;refine(C2 _ B1).mono ?_;rintro e W2 ⟨v2,rfl,h2,Ad⟩;obtain⟨q3,c3,rfl,Tk,KO⟩:=Fz h2;rw[nW.out] at KO ⊢;have B2:=bH B1 Ad;have WH:=Hi (akP (Bj.D9 (Ch H1 Ad)) (Bj.D9 h2) xe Tk (by rw[nV.out];exact Q9.out) (by rw[nW.out];exact KO) (by rw[nV.out,nW.out];omega));rw[nV.out,nW.out] at WH;clear h2 Ad Tk KO)
      |(go_at_call 178;refine(C1 _ HD).mono ?_;rintro e W1 ⟨v1,rfl,h1,Ai⟩;obtain⟨q2,c2,rfl,Fp,Gz⟩:=Fz h1;rw[nV.out] at Gz ⊢;have H1:=Hi h1;have xe:=Hi Fp;have Q9:=Hi Gz;have B1:=bH HD Ai;clear h1 Ai Fp Gz))
    go_wp2;go_ret;exact⟨_,rfl,by rw[HS.out];exact(show BK _ w.heap.size _ _ from Fu H3 (by have:=B2.size;have:=HB.size;omega)),HB.trans (B3.mono HB.size)⟩
def y7(w:World)(a:Option Addr)(rows:List M):Prop:=∀ i,(h:i < rows.length)→∃ p:Addr,a=some p∧∃ q c,w.cell? (p.add i)=some (.slice q rows[i].length c)∧Bj w q rows[i]∧(q=none→c=0)∧rows[i].length≤c
def KX(rows:List M):M:=rows.foldl (fun o r=>G9 o (F6 r)) []
theorem axc(rows:List M)(r:M):KX (rows++[r])=G9 (KX rows) (F6 r):=by unfold KX;rw[List.foldl_append];rfl
theorem axb(rows:List M):(KX rows).length=(rows.map List.length).sum:=by
 unfold KX
 suffices h:∀ (rows:List M) (o:M),(rows.foldl (fun o r=>G9 o (F6 r)) o).length=o.length+(rows.map List.length).sum from by rw[h];simp
 intro rows
 induction rows with
 |nil=>intro o;simp
 |cons r rows ih=>intro o;rw[List.foldl_cons,ih,axd,fo,Ce,Eo];omega
theorem an4(rows:List M)(k:Nat):((rows.take k).map List.length).sum≤(rows.map List.length).sum:=by
 induction rows generalizing k with
 |nil=>simp
 |cons r rows ih=>
  cases k with
  |zero=>simp
  |succ k=>have:=ih k;simp only[List.take_succ_cons,Ce,Eo];omega
theorem akO{w:World}{a:Option Addr}{cap:Nat}{rows:List M}(h:y7 w a rows)(hs:(rows.map List.length).sum≤1000000)(hl:rows.length≤1000000):
  Calls prog 97 #[.slice a rows.length cap] w fun e w'=>∃ v,e=.returned v∧BK w' 0 v (KX rows)∧Bw w w'∧∀ g,v.ownBlock=some g→w.heap.size≤g:=by
 have HH:=Hi h;clear h
 go_in
 go_wp2
 go_loopw [2,7] (fun vo i wr=>∃ k:Nat,k≤rows.length∧i=.int .i64 (k:Int)∧BK wr w.heap.size vo (KX (rows.take k))∧Bw w wr) (fun _ i _=>rows.length -(intOf i).toNat)
 case atStart=>exact⟨0,AZ _,rfl,by unfold BK KX;rw[I8,List.foldl_nil,Rp];exact E5 _ _ _ _,Ah _ _⟩
 case round=>
  obtain⟨k,hk,rfl,Ag,hb⟩:=hrel;by_cases hlt:k < rows.length
  ·obtain⟨p,rfl,q,c,FW,hat,hq,hc⟩:=HH k hlt;have Cx:∀ W,(Instr.indexAt 263 (.slice (some p) rows.length cap) (.int .i64 (k:Int))).run prog W=.ok (.pointer (some (p.add k))) W:=fun W=>by
    have:=IM prog 263 30 underlying263 1 (by kernel_rfl) p rows.length cap k hlt W;rwa[Nat.mul_one] at this
   have au2:=(hb.cell (D7 FW)).trans FW;have HS:=Hi (amT _ wr q c rows[k] (Ae _) (hat.below hb) hq (by have:=an4 rows (k+1);rw[CQ hlt,D6,OQ] at this;simp only[Ce,Kq,Eo,List.sum_nil] at this;omega));have HT:=Hi (show KX (rows.take (k+1))=G9 (KX (rows.take k)) (F6 rows[k]) from by rw[CQ hlt,axc]);have DC:(KX (rows.take k)).length+(F6 rows[k]).length≤1000000:=by
    have:=an4 rows (k+1);rw[CQ hlt,D6,OQ] at this;simp only[Ce,Kq,Eo,List.sum_nil] at this;rw[axb,fo];omega
   have CZ:=fo rows[k];generalize rows[k]=r at*;obtain⟨qo,co,rfl,Zv,Z9⟩:=Fz Ag;have HR:=Hi Ag;have HB:=Hi hb;have nK:=Hi Zv;have Qa:=Hi Z9;have MH:=Hi CZ;have Vk:=Hi DC;clear Ag hb Zv Z9 CZ hat hq hc FW DC;generalize KX (rows.take k)=o at*;go_wp2_with fail;refine HS.mono ?_;rintro e w1⟨v1,rfl,h1,Ai⟩;obtain⟨q1,c1,rfl,GX,Gi⟩:=Fz h1;have HM:=Hi (akP (Bj.D9 (Ch HR Ai)) (Bj.D9 h1) nK GX Qa Gi Vk);have HB1:=bH HB Ai;clear h1 Ai GX Gi au2;go_wp2_with fail;refine HM.mono ?_;rintro e w2⟨v2,rfl,h2,Ad⟩;have H2:=Hi h2;have Ak:=bH HB1 Ad;clear h2 Ad;go_wp2;go_roundw
   case rel=>exact⟨k+1,by omega,by go_num,by rw[HT.out];exact Fu H2 HB1.size,Ak⟩
   case measure=>simp[intOf];omega
  ·obtain rfl:k=rows.length:=(by omega);rw[Dq] at Ag;have HR:=Hi Ag;have HB:=Hi hb;clear Ag hb;go_wp2;go_ret;exact⟨_,rfl,Fu HR (AZ _),HB,fun g hg=>Ec HR hg⟩
theorem amY{l:M}{k:Nat}(h:CR (l.take k))(h1:1≤k)(hk:k < l.length)(hn:¬ l[k].1 < (l[k -1]'(by omega)).1):CR (l.take (k+1)):=by
 rw[CQ hk];refine List.pairwise_append.2 ⟨h,Sb _ _,fun a ha b hb=>?_⟩;rw[FC] at hb;subst hb;obtain⟨i,hi,e⟩:=List.mem_take_iff_getElem.1 ha;have hik:i < k:=by omega
 have h2:(l[i]'(by omega)).1≤(l[k -1]'(by omega)).1:=by
  by_cases e1:i=k -1
  ·subst e1;exact List.le_refl _
  ·have:=(List.pairwise_iff_getElem.1 h) i (k -1) (by rw[Be];omega) (by rw[Be];omega) (by omega);rwa[List.getElem_take,List.getElem_take] at this
 rw[←e];exact List.le_trans h2 (eu.1 hn)
theorem al2{l:M}{k:Nat}(h1:1≤k)(hk:k < l.length)(hn:l[k].1 < (l[k -1]'(by omega)).1):¬ CR l:=fun h=>
 absurd hn (List.not_lt.2 ((List.pairwise_iff_getElem.1 h) (k -1) k (by omega) hk (by omega)))
theorem alg{w:World}{a:Option Addr}{cap:Nat}{l:M}(h:Bj w a l)(hl:l.length≤1000000):
  Calls prog 237 #[.slice a l.length cap] w fun e w'=>e=.returned (.int .i64 (if CR l then 0 else 2))∧Bw w w':=by
 have HH:=Hi h;clear h
 go_in
 go_wp2
 go_loopw [3] (fun i wr=>∃ k:Nat,1≤k∧(k≤l.length∨k=1)∧i=.int .i64 (k:Int)∧CR (l.take k)∧Bw w wr) (fun i _=>l.length -(intOf i).toNat)
 case atStart=>exact⟨1,Ae _,.inr rfl,rfl,by
  cases l with
  |nil=>exact List.Pairwise.nil
  |cons x l=>exact Sb _ _,Ah _ _⟩
 case round=>
  obtain⟨k,EX,hk,rfl,hs,hb⟩:=hrel;by_cases hlt:k < l.length
  ·obtain⟨p,Cx,hp,-⟩:=HH.index cap k hlt;obtain⟨p',aaC,MU,-⟩:=HH.index cap (k -1) (by omega);have QI:IntKind.i64.wrap ((k:Int) -1)=((k -1:Nat):Int):=(by rw[Eh _ (by omega)];omega);have c1:=(hp.upd (ub hb) (fun f=>f)).key;have c2:=(MU.upd (ub hb) (fun f=>f)).key;have HT:=Hi (fun hn=>amY hs EX hlt hn);have HN:=Hi (fun hn=>al2 EX hlt hn);have HB:=Hi hb;clear hs hb hp MU;generalize l[k]=x at*;generalize l[k -1]'(by omega)=y at*;by_cases J5:x.1 < y.1
   ·have Ct:Op.bytesLess x.1 y.1=true:=(by rw[Go.Proofs.bytesLess_eq];simpa using J5);have wU:=Hi (HN J5);clear HT HN J5;go_wp2;go_region;go_wp2;go_ret;exact⟨by first|rfl|(rw[Aa wU.out];rfl),HB.drew⟩
   ·have Ct:Op.bytesLess x.1 y.1=false:=(by rw[Go.Proofs.bytesLess_eq];simpa using J5);have U3:=Hi (HT J5);clear HT HN J5;go_wp2;go_region;go_wp2;go_roundw
    case rel=>exact⟨k+1,by omega,.inl (by omega),by go_num,U3.out,HB.drew⟩
    case measure=>simp[intOf];omega
  ·have HS:=Hi (show CR l from by
    have:=hs;rwa[I7 (by omega)] at this)
   have HB:=Hi hb;have dD:¬ (k:Int) < (l.length:Int):=(by omega);clear hs hb hlt;go_wp2;go_ret;exact⟨by first|rfl|(rw[Ac HS.out];rfl),HB.out⟩
end Bu
namespace Bu
open Go.Maps
open Af Ap Aq
theorem Ep.kind{w:World}{b:Nat}{l:List UInt8}{fp:Nat→Prop}(h:Ep w b l fp)(k:Nat)(hk:fp k):Bf w k 210∨Bf w k 5:=by
 obtain⟨p,v,h1,_,h3,_,_,rfl⟩:=h;rcases hk with rfl|hk
 ·exact .inl ⟨_,_,h1⟩
 ·exact .inr (CB h3 hk)
theorem Ep.axw{w:World}{b:Nat}{l:List UInt8}{fp:Nat→Prop}(h:Ep w b l fp){g:Nat}{cs:Array Value}{fr:Nat×Nat}(hg:w.heap[g]?=some (.cells cs 9 fr)):¬ fp g:=fun e=>by
 rcases Ep.kind h g e with e|e
 ·exact Bf.ne e ⟨cs,fr,hg⟩ (by decide) rfl
 ·exact Bf.ne e ⟨cs,fr,hg⟩ (by decide) rfl
def Ef(l:M):T×Int:=match FI l with|none=>([],5)|some s=>(s,0)
theorem acV{L:List T}{S:T}(h:BB L=some S)(t:T):BB (L++[t])=(Em t).map (S++ ·):=by
 rw[anf,h];simp only[CF,BB];cases Em t with
 |none=>rfl
 |some x=>simp
theorem acW{L:List T}{t:T}(h:t∈L)(ht:65535 < t.length):BB L=none:=by
 obtain⟨k,hk,rfl⟩:=List.getElem_of_mem h;exact uL hk ht
theorem zu{l:M}{k:Nat}(h:k < l.length):flat (l.take (k+1))=flat (l.take k)++[l[k].1,l[k].2]:=by
 rw[CQ h,zt];rfl
theorem iU{l:M}{k:Nat}(h:k < l.length){t:T}(ht:t∈[l[k].1,l[k].2]):t∈flat l:=Nl.2 ⟨l[k],Dc h,ht⟩
theorem amh(l:M)(k:Nat):rowLen (flat (l.take k))≤rowLen (flat l):=by
 have:flat (l.take k)=(flat l).take (2*k):=by
  induction l generalizing k with
  |nil=>simp[flat]
  |cons p l ih=>
   cases k with
   |zero=>simp[flat]
   |succ k=>
    rw[List.take_succ_cons,X6,X6,ih k,show 2*(k+1)=2*k+1+1 by omega,List.take_succ_cons,List.take_succ_cons]
 rw[this];exact acC _ _
theorem amg(a b:List T):rowLen (a++b)+2=rowLen a+rowLen b:=by
 unfold rowLen;rw[D6,OQ];omega
theorem aAf(A B:List T)(j:Nat):A++B.take j=(A++B).take (A.length+j):=by
 induction A with
 |nil=>simp
 |cons a A ih=>rw[Hf,BN,show A.length+1+j=(A.length+j)+1 by omega,Hf,List.take_succ_cons,ih]
structure EM(w:World)(L:Nat)(T0:List T)(fp:Nat→Prop)(S:T)(wr:World):Prop where
 text:BB T0=some S
 built:Ep wr w.heap.size (A9.le 2 L++S) fp
 low:∀ q,fp q→w.heap.size≤q
 AQ:Bw w wr
def apw(w:World)(L:Nat)(T0:List T)(x:T×T)(g:Nat)(i:Value)(wr:World):Prop:=
 ∃ (j:Nat) (S2:T) (fp':Nat→Prop),j≤2∧i=.int .i64 (j:Int)∧EM w L (T0++[x.1,x.2].take j) fp' S2 wr∧wr.heap[g]?=some (.cells #[.string (bs x.1),.string (bs x.2)] 9)
def apx(w:World)(l:M)(i:Value)(wr:World):Prop:=∃ (k:Nat) (S:T) (fp:Nat→Prop),k≤l.length∧i=.int .i64 (k:Int)∧EM w l.length (flat (l.take k)) fp S wr
theorem alp{w:World}{a:Option Addr}{cap:Nat}{l:M}(h:Bj w a l)(hs:CR l)(hl:l.length≤1000000)(DC:rowLen (flat l)≤1000000000):
  Calls prog 181 #[.slice a l.length cap] w fun e w'=>e=.returned (.tuple #[.string (bs (Ef l).1),.int .i64 (Ef l).2])∧Bw w w':=by
 by_cases bW:65535 < l.length
 ·have hR:Hid (Ef l=([],5)):=Hi (by unfold Ef FI;rw[Aa (by omega)]);rw[hR.out];clear h hs
  go_in
  go_wp2;go_ret2;exact⟨rfl,Ah _ _⟩
 ·have HH:=Hi h;have HS:=Hi hs;have Vk:=Hi DC;have AR:=Hi ((Ah w.heap.size w).alloc (Ae _) (.cells #[.pointer none,.slice none 0 0] 210));have De:=Hi (Ep.made w);clear h hs DC
  go_in
  go_wp2_with fail;refine(ZR l.length 2 _ (by omega) (by decide) (by decide)).mono ?_;rintro e w1⟨rfl,hb⟩;have Q8:=Hi (De.upd (ub hb) (fun _ _ f=>f));have HB1:=Hi (AR.trans (hb.mono (by rw[Ar];omega)));clear hb;go_wp2_with fail;refine(WY Q8 (A9.le 2 l.length) (by simp[A9.BV])).mono ?_;rintro e w2⟨rfl,fp2,h1,h2,h3⟩;rw[Ev] at h1
  have Bi:=Hi (show EM w l.length (flat (l.take 0)) fp2 [] w2 from⟨rfl,by rw[En];exact h1,fun q hq=>by
   rcases h3 q hq with h|h
   ·rcases h with h|h
    ·omega
    ·simp[Value.ownBlock] at h
   ·have:=HB1.size;omega,Cq HB1 h2 (fun i hi=>by rcases hi with h|h;omega;simp[Value.ownBlock] at h) HB1.size⟩)
  clear h1 h2 h3 De Q8 AR HB1;go_wp2
  go_loopw [28] (fun i wr=>apx w l i wr) (fun i _=>l.length -(intOf i).toNat)
  case atStart=>exact⟨0,[],fp2,by omega,rfl,Bi⟩
  case round=>
   clear Bi;obtain⟨k,S,fp,hk,rfl,Bl⟩:=hrel;by_cases hlt:k < l.length
   ·obtain⟨p,Cx,hp,-⟩:=(HH.below Bl.AQ).index cap k hlt;have c1:=hp.key;have c2:=hp.val;have TS:=Hi (fun t ht=>iU (t:=t) hlt ht);have L9:=Hi (zu hlt);have Ga:=Hi (amh l (k+1));rw[L9.out] at Ga;obtain⟨x,hx⟩:=ex (l[k]);rw[hx] at c1 c2 TS L9 Ga;have Bi:=Hi Bl;clear hx hp Bl;go_wp2_with fail;obtain⟨g,hg⟩:=ex (wr.heap.size+1)
    have TV:=Hi (show ∀ (j:Nat),j < 2→∀ W,(Instr.indexAt 61 (.slice (some ⟨wr.heap.size+1,0,none⟩) 2 2) (.int .i64 (j:Int))).run prog W=.ok (.pointer (some ⟨g,j,none⟩)) W from fun j Qy W=>by
     have:=IM prog _ 9 underlying61 1 (by kernel_rfl) ⟨wr.heap.size+1,0,none⟩ 2 2 j Qy W;rw[Nat.mul_one,add_plain,hg] at this;rw[hg];exact this)
    have Qe:=Hi hg;clear hg
    go_loopw [38] (fun i wr2=>apw w l.length (flat (l.take k)) x g i wr2) (fun i _=>2 -(intOf i).toNat)
    case atStart=>
     have Ad:=((Ah wr.heap.size wr).alloc (Ae _) (.cells #[.string (bs x.1),.string (bs x.2)] 51)).alloc (by rw[Ar];omega) (.cells #[.string (bs x.1),.string (bs x.2)] 9);refine⟨0,S,fp,by omega,rfl,⟨by rw[I8,En];exact Bi.text,Bi.built.upd (ub Ad) (fun _ _ f=>f),Bi.low,Bi.AQ.trans (Ad.mono Bi.AQ.size)⟩,?_⟩;have:=AP (wr.alloc (.cells #[.string (bs x.1),.string (bs x.2)] 51)) (.cells #[.string (bs x.1),.string (bs x.2)] 9);rw[Ar,Qe.out] at this;exact this
    case round=>
     obtain⟨j,S2,fp',hj,rfl,Bl,bX⟩:=hrel;by_cases Qy:j < 2
     ·obtain⟨t,ht⟩:=ex ([x.1,x.2][j]'(by simpa using Qy));have FW:wr.cell? ⟨g,j,none⟩=some (.string (bs t)):=by
       rw[BF _ _ _ _ _ _ bX,←ht]
       match j,Qy with
       |0,_=>rfl
       |1,_=>rfl
      have aCR:=TV j Qy;have HTM:=Hi (show t∈[x.1,x.2] from by rw[←ht];exact Dc _);have HTT:=Hi (show[x.1,x.2].take (j+1)=[x.1,x.2].take j++[t] from by rw[CQ (by simpa using Qy),ht]);have HLS:=Hi (Wo Bl.text);have Ib:=Hi (amg (flat (l.take k)++[x.1,x.2].take j) [t])
      have Pb:=Hi (show rowLen ((flat (l.take k)++[x.1,x.2].take j)++[t])≤1000000000 from by
       have h1:rowLen ((flat (l.take k)++[x.1,x.2].take j)++[t])≤rowLen (flat (l.take k)++[x.1,x.2]):=by
        rw[Dy,←HTT.out];have e:=aAf (flat (l.take k)) [x.1,x.2] (j+1);rw[e];exact acC _ _
       have h2:=Ga.out;have h3:=Vk.out;omega)
      have HI:=Hi Bl;have R7:=Hi bX;clear ht Bl bX;by_cases Om:65535 < t.length
      ·have hR:Hid (Ef l=([],5)):=Hi (by unfold Ef FI;rw[Ac (by omega),acW (TS t HTM) Om];rfl);go_wp2_with fail;refine(ac8 t _ Om).mono ?_;rintro e w3⟨rfl,rfl⟩;go_wp2;go_ret2;rw[hR.out];exact⟨rfl,HI.AQ⟩
      ·have IK:t.length≤65535:=(by omega);clear Om;go_wp2_with fail;refine(ac9 t _ IK).mono ?_;rintro e w3⟨rfl,Aw⟩;have TN:=Hi (HI.built.upd (ub Aw) (fun _ _ f=>f));have AA:=Hi (HI.AQ.trans (Aw.mono HI.AQ.size));have vL:=Hi ((Aw.block g (Ao R7)).trans R7);clear Aw FW;go_wp2_with fail
       refine(WY TN (A9.le 2 t.length++t) (by
        have h1:=HLS.out;have h2:=Ib.out;have h3:=Pb.out;have h4:rowLen [t]=4+t.length:=(by unfold rowLen;simp;omega);simp[A9.BV];omega)).mono ?_
       rintro e w4⟨rfl,Pt,h1,h2,h3⟩
       have YA:=Hi (show EM w l.length (flat (l.take k)++[x.1,x.2].take (j+1)) Pt (S2++(A9.le 2 t.length++t)) w4 from⟨by rw[HTT.out,←Dy,acV HI.text];unfold Em;rw[Ac IK];rfl,by rw[←Dy];exact h1,fun q hq=>by
        rcases h3 q hq with h|h
        ·exact HI.low q h
        ·exact Ay AA.size h,Cq AA h2 HI.low AA.size⟩)
       have aoh:=Hi ((h2.block g (Ao vL) (Ep.axw TN vL)).trans vL);clear h1 h2 h3;go_wp2;go_roundw
       case rel=>exact⟨j+1,_,Pt,by omega,by go_num,YA,aoh⟩
       case measure=>simp[intOf];omega
     ·obtain rfl:j=2:=(by omega);have HI:=Hi (show EM w l.length (flat (l.take (k+1))) fp' S2 wr from by rw[L9.out];exact Bl);clear Bl bX;go_wp2;go_roundw
      case rel=>exact⟨k+1,S2,fp',by omega,by go_num,HI⟩
      case measure=>simp[intOf];omega
   ·obtain rfl:k=l.length:=(by omega);rw[Dq] at Bl;have Bi:=Hi Bl;have hR:Hid (Ef l=(A9.le 2 l.length++S,0)):=Hi (by unfold Ef FI;rw[Ac (by omega),Bl.text];rfl);have HC:=Hi (alg (cap:=cap) (HH.below Bl.AQ) hl);rw[Ac HS.out] at HC;clear Bl;go_wp2_with fail;refine HC.mono ?_;rintro e w3⟨rfl,Aw⟩;have TN:=Hi (Bi.built.upd (ub Aw) (fun _ _ f=>f));have AA:=Hi (Bi.AQ.trans (Aw.mono Bi.AQ.size));clear Aw;go_wp2_with fail;refine(WX TN).mono ?_;rintro e w4⟨rfl,hu⟩;have AU:=Hi (Cq AA hu Bi.low AA.size);clear hu;go_wp2;go_ret2;rw[hR.out];exact⟨rfl,AU⟩
def Vq(w:World)(s:T)(e:Ending)(w':World):Prop:=match Ht s with
 |none=>e=.returned (.tuple #[.slice none 0 0,.int .i64 7])∧Bw w w'
 |some l=>∃ v,e=.returned (.tuple #[v,.int .i64 0])∧BK w' w.heap.size v l∧Bw w w'
theorem l6{w w':World}{s:T}{e:Ending}(h:Ht s=none)(he:e=.returned (.tuple #[.slice none 0 0,.int .i64 7]))(hb:Bw w w'):Vq w s e w':=by
 unfold Vq;rw[h];exact⟨he,hb⟩
theorem axP{w w':World}{s:T}{e:Ending}{v:Value}{l:M}(h:Ht s=some l)(he:e=.returned (.tuple #[v,.int .i64 0]))(ho:BK w' w.heap.size v l)(hb:Bw w w'):Vq w s e w':=by
 unfold Vq;rw[h];exact⟨v,he,ho,hb⟩
structure mG(w:World)(s:T)(n:Nat)(i:Nat)(S:T)(l:M)(v:Value)(wr:World):Prop where
 le:i≤n
 len:l.length=i
 short:S.length≤s.length
 read:EF (2*n) (s.drop 2)=(EF (2*n -2*i) S).map fun q=>(flat l++q.1,q.2)
 row:BK wr w.heap.size v l
 AQ:Bw w wr
def ao6(w:World)(s:T)(n:Nat)(sv lv iv:Value)(wr:World):Prop:=∃ (i:Nat) (S:T) (l:M),sv=.string (bs S)∧iv=.int .u64 (i:Int)∧mG w s n i S l lv wr
theorem alm(s:T)(w:World)(hs:s.length≤1000000000):Calls prog 229 #[.string (bs s)] w fun e w'=>Vq w s e w':=by
 obtain⟨i0,Bg,AX,AY,Ba⟩:=DI RO;by_cases h2:s.length < 2
 ·have hR:Hid (Ht s=none):=Hi (by unfold Ht;rw[Ac h2])
  go_in
  go_wp2_with fail;exact EI (v:=.tuple #[.slice none 0 0,.int .i64 7]) (by simp[results,results229,go_sem]) rfl (l6 hR.out rfl (Ah _ _))
 ·have Gz:∀ W,(Instr.slice 9 (.string (bs s)) none (some (.int .i64 2)) none).run prog W=.ok (.string (bs (s.take 2))) W:=fun W=>O1 prog W 9 underlying9 s 2 (by omega)
  have Xn:∀ W,(Instr.slice 9 (.string (bs s)) (some (.int .i64 2)) none none).run prog W=.ok (.string (bs (s.drop 2))) W:=fun W=>Mk prog W 9 underlying9 s 2 (by omega)
  have hlt:(s.take 2).length=2:=by rw[Be];omega
  have hv:=A9.Jb (s.take 2);rw[hlt] at hv;have La:=Hi (fun(W:World)=>X9 (s.take 2) W (by omega) (by omega));obtain⟨n,hn⟩:=ex (A9.val (s.take 2));have DT:=Hi (show Ht s=(EF (2*n) (s.drop 2)).bind fun q=>if q.2=[]∧CR (RZ q.1) then some (RZ q.1) else none from by unfold Ht;rw[Aa h2,hn]);rw[hn] at La hv;have JH:n < 65536:=hv;have hsi:¬ (s.length:Int) < 2:=by omega
  clear hn hlt hv
  go_in
  go_wp2_with fail;refine(La _).mono ?_;rintro e w1⟨rfl,rfl⟩;go_wp2
  go_loopw [0,2,23] (fun sv lv iv wr=>ao6 w s n sv lv iv wr) (fun _ _ iv _=>n -(intOf iv).toNat)
  case atStart=>exact⟨0,s.drop 2,[],rfl,rfl,AZ _,rfl,by rw[Cs];omega,by simp[flat],by unfold BK;rw[Rp];exact E5 _ _ _ _,Ah _ _⟩
  case round=>
   obtain⟨i,S,l,rfl,rfl,Bl⟩:=hrel;have Bi:=Hi Bl;have Px:=Bl.short;have hle:=Bl.le;by_cases hlt:i < n
   ·cases hr:DF S with
    |none=>
     have hV:Fs S=([],0,6):=(by unfold Fs;rw[hr]);have Ic:=Hi (fun(W:World)=>eD S W (by omega));rw[hV] at Ic;have hR:Hid (Ht s=none):=Hi (by rw[DT.out,eO (j:=2*i) (by omega) Bl.read hr];rfl);clear Bl hV hr;go_wp2_with fail;refine(Ic _).mono ?_;rintro e w2⟨rfl,hb⟩;have HB:=Hi hb;clear hb;go_wp2_with fail;exact EI (v:=.tuple #[.slice none 0 0,.int .i64 7]) (by simp[results,results229,go_sem]) rfl (l6 hR.out rfl (Bi.AQ.trans (HB.mono Bi.AQ.size)))
    |some r=>
     obtain⟨k,n1⟩:=r;obtain⟨_,Et,_⟩:=ZV hr;have hV:Fs S=(k,n1,0):=(by unfold Fs;rw[hr]);have Ic:=Hi (fun(W:World)=>eD S W (by omega));rw[hV] at Ic;have Ej:=Hi (eQ (j:=2*i) (by omega) Bl.read hr);have hcut:∀ W,(Instr.slice 9 (.string (bs S)) (some (.int .i64 (n1:Int))) none none).run prog W=.ok (.string (bs (S.drop n1))) W:=fun W=>Mk prog W 9 underlying9 S n1 Et
     cases DN:DF (S.drop n1) with
     |none=>
      have Lj:Fs (S.drop n1)=([],0,6):=(by unfold Fs;rw[DN]);have Re:=Hi (fun(W:World)=>eD (S.drop n1) W (by rw[Cs];omega));rw[Lj] at Re;have hR:Hid (Ht s=none):=Hi (by rw[DT.out,eO (j:=2*i+1) (by omega) Ej DN];rfl);clear Bl hV hr Lj DN;go_wp2_with fail;refine(Ic _).mono ?_;rintro e w2⟨rfl,hb⟩;have HB:=Hi (Bi.AQ.trans (hb.mono Bi.AQ.size));clear hb;go_wp2_with fail;refine(Re _).mono ?_;rintro e w3⟨rfl,hb⟩;have AA:=bH HB hb;clear hb;go_wp2_with fail;exact EI (v:=.tuple #[.slice none 0 0,.int .i64 7]) (by simp[results,results229,go_sem]) rfl (l6 hR.out rfl AA)
     |some r2=>
      obtain⟨v,n2⟩:=r2;obtain⟨_,Gm,_⟩:=ZV DN;rw[Cs] at Gm;have Lj:Fs (S.drop n1)=(v,n2,0):=(by unfold Fs;rw[DN]);have Re:=Hi (fun(W:World)=>eD (S.drop n1) W (by rw[Cs];omega));rw[Lj] at Re;have YE:=Hi (eQ (j:=2*i+1) (by omega) Ej DN);have au8:∀ W,(Instr.slice 9 (.string (bs S)) (some (.int .i64 ((n1:Int)+(n2:Int)))) none none).run prog W=.ok (.string (bs (S.drop (n1+n2)))) W:=fun W=>by
       have:=Mk prog W 9 underlying9 S (n1+n2) (by omega);rwa[Int.natCast_add] at this
      have ZE:IntKind.i64.wrap ((n1:Int)+(n2:Int))=(n1:Int)+(n2:Int):=Eh _ (by omega);have DC:(n1:Int)+(n2:Int)≤1000000000:=(by omega);have avg:(n1:Int)+(n2:Int)≤(S.length:Int):=(by omega);have avh:((n1:Int)+(n2:Int)).toNat=n1+n2:=(by omega);have P7:=Hi Et;have LZ:=Hi Gm;obtain⟨qo,co,rfl⟩:=Bp Bl.row;clear Bl hV hr Lj DN Et Gm;go_wp2_with fail;refine(Ic _).mono ?_;rintro e w2⟨rfl,hb⟩;have BU:=Hi (Ch Bi.row hb);have HB:=Hi (Bi.AQ.trans (hb.mono Bi.AQ.size));clear hb;go_wp2_with fail;refine(Re _).mono ?_;rintro e w3⟨rfl,hb⟩;have MG:=Hi (Ch BU hb);have AA:=bH HB hb;clear hb;go_wp2_with fail
      go_region_law
       ((refine step_append_lies _ (by rfl) _ _ _ (by rfl) w.heap.size 51 i0 _ 2 32 underlying30 Bg AX AY Ba (by rfl) (by omega) (.slice qo l.length co) l.length (Dn l) (by rfl) ((MG.alloc _).drew) ⟨w3.heap.size,0,none⟩ 1 1 [.string (bs k),.string (bs v)] (by rfl) (by rfl) (World.news_of_block (cs:=#[.string (bs k),.string (bs v)]) (t:=51) (fr:=(0,0)) (AP w3 _)) (fun u hu=>by simp at hu;rcases hu with rfl|rfl<;>rfl) (by omega) (by have:=Bi.len;have:=Bi.le;unfold maxLen;omega) (by have:=Bi.len;have:=Bi.le;omega) (by have:=AA.size;rw[World.size_drew,Ar];omega) (w3.heap.size+1) (by simp) ?_;intro gg cap2 w4 OD AJ hat OA))
      all_goals
       have YA:=Hi (show mG w s n (i+1) (S.drop (n1+n2)) (l++[(k,v)]) (.slice (some ⟨gg,0,none⟩) (l.length+1) cap2) w4 from
        ⟨by omega,by rw[Az,Bi.len];rfl,by rw[Cs];omega,by
         have:=YE.out;rw[show 2*n -(2*i+1+1)=2*n -2*(i+1) by omega,List.drop_drop] at this;rw[this,zt]
         congr 1
         funext q
         simp[flat],by unfold BK;rw[Az,Uf];exact OD,
         ((AA.alloc AA.size _).drew).grown AJ (by have:=AA.size;rw[World.size_drew,Ar];omega) (fun k e=>Ec MG e)⟩)
       clear OD AJ hat;go_wp2;go_roundw
       case rel=>
        first
        |exact⟨i+1,S.drop (n1+n2),l++[(k,v)],rfl,by go_num,YA⟩
        |(repeat apply Exists.intro
          refine⟨?_,rfl⟩;exact⟨i+1,S.drop (n1+n2),l++[(k,v)],rfl,by go_num,YA⟩)
       case measure=>
        show n -((i:Int)+1).toNat < n -((i:Int)).toNat
        omega
   ·obtain rfl:i=n:=(by omega);have Mh:EF (2*i) (s.drop 2)=some (flat l,S):=by
     rw[Bl.read,Nat.sub_self];simp[EF]
    have YD:=Hi (show Ht s=if S=[]∧CR l then some l else none from by rw[DT.out,Mh];simp only[CF];rw[uQ]);obtain⟨qo,co,rfl,Zv,Z9⟩:=Fz Bl.row;have Yl:=Hi (alg (cap:=co) (Bj.D9 Bl.row) (by have:=Bl.len;omega));clear Bl Mh;by_cases hS:S=[]
    ·subst hS;by_cases UC:CR l
     ·have hR:Hid (Ht s=some l):=Hi (by rw[YD.out,Ac ⟨rfl,UC⟩]);rw[Ac UC] at Yl;clear UC;go_wp2_with fail;refine Yl.mono ?_;rintro e w2⟨rfl,hb⟩;have BU:=Hi (Ch Bi.row hb);have HB:=Hi (Bi.AQ.trans (hb.mono Bi.AQ.size));clear hb;go_wp2_with fail;exact EI (v:=.tuple #[.slice qo l.length co,.int .i64 0]) (by simp[results,results229,go_sem]) rfl (axP hR.out rfl BU HB)
     ·have hR:Hid (Ht s=none):=Hi (by rw[YD.out,Aa (fun h=>UC h.2)]);rw[Aa UC] at Yl;clear UC;go_wp2_with fail;refine Yl.mono ?_;rintro e w2⟨rfl,hb⟩;have HB:=Hi (Bi.AQ.trans (hb.mono Bi.AQ.size));clear hb;go_wp2_with fail;exact EI (v:=.tuple #[.slice none 0 0,.int .i64 7]) (by simp[results,results229,go_sem]) rfl (l6 hR.out rfl HB)
    ·have hR:Hid (Ht s=none):=Hi (by rw[YD.out,Aa (fun h=>hS h.1)]);have hne:S.isEmpty=false:=by
      cases S with
      |nil=>exact absurd rfl hS
      |cons=>rfl
     clear hS;go_wp2_with fail;exact EI (v:=.tuple #[.slice none 0 0,.int .i64 7]) (by simp[results,results229,go_sem]) rfl (l6 hR.out rfl Bi.AQ)
end Bu
section
open Go.Maps
theorem amo(l m:List (List UInt8))(a a':Option Addr)(cap cap':Nat)(w:World)(hl:Dv w a l)(hm:Dv w a' m)(h1:l.length≤maxLen)(h2:m.length≤maxLen):
  Calls prog 251 #[.slice a l.length cap,.slice a' m.length cap'] w fun e w'=>e=.returned (.bool (decide (l=m)))∧Bw w w':=by
 unfold maxLen at h1 h2;by_cases hlen:l.length=m.length
 ·have HL:=Hi hl;have HM:=Hi hm;have Gx:=Hi hlen;have bV:((l.length:Int) == (m.length:Int))=true:=by simp[hlen]
  have JF:((l.length:Int) != (m.length:Int))=false:=by simp[hlen]
  clear hl hm hlen
  go_in
  go_wp2
  go_loopw [5] (fun i wr=>∃ k:Nat,k≤l.length∧i=.int .i64 k∧l.take k=m.take k∧Bw w wr) (fun i _=>l.length -(intOf i).toNat)
  case atStart=>exact⟨0,by omega,rfl,rfl,Ah _ _⟩
  case round=>
   obtain⟨k,hk,rfl,ht,hb⟩:=hrel;have HT:=Hi ht;have HB:=Hi hb;clear ht hb;by_cases hlt:k < l.length
   ·have aiN:k < m.length:=(by rw[←Gx.out];exact hlt);obtain⟨q,Jm,hq⟩:=(HL.below HB).index cap k hlt;obtain⟨q',qQ,hq'⟩:=(HM.below HB).index cap' k aiN;have ajE:l.take (k+1)=l.take k++[l[k]]:=CQ hlt;have ajF:m.take (k+1)=m.take k++[m[k]]:=CQ aiN;have hne:l[k]≠m[k]→l≠m:=fun h e=>h (by subst e;rfl)
    have U3:=Hi (Cr ajE ajF);have wS:=Hi hne;clear ajE ajF hne;generalize l[k]=x at*;generalize m[k]=y at*;by_cases J5:x=y
    ·subst J5;have HR:=Hi (show l.take (k+1)=m.take (k+1) by rw[U3.1,U3.2,HT.out]);go_wp2
     go_quiet (fail)
     go_wp2;go_roundw
     case rel=>exact⟨k+1,by omega,by go_num,HR,HB.trans ((FM wr _).mono HB.size)⟩
     case measure=>simp[intOf];omega
    ·have Ai:(x == y)=false:=(by simp[J5]);have Ad:(x != y)=true:=(by simp[J5]);have HR:=Hi (show decide (l=m)=false by simpa using wS J5);clear J5;go_wp2
     go_quiet (fail)
     go_wp2;go_ret;rw[HR.out];exact⟨rfl,HB.trans ((FM wr _).mono HB.size)⟩
   ·obtain rfl:k=l.length:=by omega
    have HR:=Hi (show decide (l=m)=true by
     have h:=HT.out;rw[I7 (Ae _),I7 (by rw[Gx.out];exact Ae _)] at h;simpa using h)
    go_wp2;go_ret;rw[HR.out];exact⟨rfl,HB⟩
 ·have bV:((l.length:Int) == (m.length:Int))=false:=by simp;omega
  have JF:((l.length:Int) != (m.length:Int))=true:=by simp;omega
  have HR:=Hi (show decide (l=m)=false by simp;exact fun e=>hlen (by rw[e]));clear hl hm hlen
  go_in
  go_wp2;go_ret;rw[HR.out];exact⟨rfl,Ah _ _⟩
end
section
open Go.WideShapes Go.ChangeShapes Go.Deep
end
section
open Go.Maps
open Aq
theorem aAZ{s:List UInt8}{j:Nat}(h:j < s.length):A9.val (s.drop j)=s[j].toNat+256*A9.val (s.drop (j+1)):=by
 rw[QY h];rfl
theorem aB0(s:List UInt8)(j:Nat)(h:s.length≤8)(hj:j+1≤s.length):256*A9.val (s.drop (j+1))+256≤18446744073709551616:=by
 have h1:=A9.Jb (s.drop (j+1));have h2:256 ^ (s.drop (j+1)).length≤256 ^ 7:=Nat.pow_le_pow_right (by decide) (by rw[Cs];omega);have h3:(256:Nat) ^ 7=72057594037927936:=by decide
 omega
theorem adk(s:List UInt8)(w:World)(h8:s.length≤8):
  Calls prog 276 #[.string (bs s)] w fun e w'=>e=.returned (.int .u64 (A9.val s:Nat))∧w=w':=by
 go_in
 go_wp2
 go_loop [3,4] (fun v i=>∃ j:Nat,j≤s.length∧i=.int .i64 ((j:Int) -1)∧v=.int .u64 (A9.val (s.drop j):Nat)) (fun _ i=>(intOf i+1).toNat)
 case atStart=>exact⟨s.length,by omega,rfl,by rw[List.drop_length];rfl⟩
 case round=>
  obtain⟨j,hj,rfl,rfl⟩:=hrel;cases j with
  |zero=>
   rw[List.drop_zero];go_wp2;go_ret;exact⟨rfl,rfl⟩
  |succ j=>
   have e:((j+1:Nat):Int) -1=(j:Int):=(by omega);have hlt:j < s.length:=(by omega);have hv:=aAZ hlt;have hb:=aB0 s j h8 (by omega);have hc:=s[j].toNat_lt;simp only[e];clear e;have HV:=Hi hv;generalize A9.val (s.drop (j+1))=V at*;have w1:IntKind.u64.wrap ((V:Int)*256)=(V:Int)*256:=IntWalk.u64_in _ (by omega);have w2:IntKind.u64.wrap ((s[j].toNat:Int))=(s[j].toNat:Int):=IntWalk.u64_in _ (by omega);have w3:IntKind.u64.wrap ((V:Int)*256+(s[j].toNat:Int))=(V:Int)*256+(s[j].toNat:Int):=IntWalk.u64_in _ (by omega);clear hv hb;go_wp2
   go_round
   case rel=>exact⟨j,by omega,rfl,by rw[HV.out];congr 1;omega⟩
   case measure=>simp[intOf]
theorem lG(s:List UInt8)(w:World)(h:s.length≤65535):
  Calls prog 244 #[.string (bs s)] w fun e w'=>e=.returned (.tuple #[.string (bs (A9.le 2 s.length++s)),.int .i64 0])∧Bw w w':=by
 go_in
 go_wp2_with fail;refine(tJ s.length 2 _ (by omega) (by decide)).mono ?_;rintro e w1⟨rfl,hb⟩;go_wp2;go_ret2;exact⟨rfl,hb⟩
theorem lF(s:List UInt8)(w:World)(h:65535 < s.length):
  Calls prog 244 #[.string (bs s)] w fun e w'=>e=.returned (.tuple #[.string (bs []),.int .i64 5])∧w=w':=by
 go_in
 go_wp2;go_ret2;exact⟨rfl,rfl⟩
theorem uw(s:List UInt8)(w:World)(hl:s.length≤1099511627776):
  Calls prog 277 #[.string (bs s)] w fun e w'=>e=.returned (.tuple #[.string (bs (Fs s).1),.int .i64 ((Fs s).2.1:Nat),.int .i64 (Fs s).2.2])∧w=w':=by
 by_cases h2:s.length < 2
 ·have hR:Hid (Fs s=([],0,6)):=Hi (by unfold Fs DF;rw[Ac h2]);rw[hR.out]
  go_in
  go_wp2;go_ret3;exact⟨rfl,rfl⟩
 ·have Gz:∀ W,(Instr.slice 9 (.string (bs s)) none (some (.int .i64 2)) none).run prog W=.ok (.string (bs (s.take 2))) W:=fun W=>O1 prog W 9 underlying9 s 2 (by omega)
  have OA:(s.take 2).length=2:=by rw[Be];omega
  have Gr:=A9.Jb (s.take 2);rw[OA] at Gr;have Tv:=fun(W:World)=>adk (s.take 2) W (by omega)
  have hR:Fs s=if 2+A9.val (s.take 2)≤s.length then((s.take (2+A9.val (s.take 2))).drop 2,2+A9.val (s.take 2),0) else([],0,6):=by
   unfold Fs DF;rw[Aa h2];by_cases hq:2+A9.val (s.take 2)≤s.length
   ·rw[Ac hq,Ac hq]
   ·rw[Aa hq,Aa hq]
  generalize A9.val (s.take 2)=v at*;have hv3:v < 65536:=Gr;have YN:=Hi Tv;have HR:=Hi hR;have e2:IntKind.i64.wrap (v:Int)=(v:Int):=Eh _ (by omega);clear OA Gr Tv hR;by_cases h3:2+v≤s.length
  ·have hcu:∀ W,(Instr.slice 9 (.string (bs s)) (some (.int .i64 2)) (some (.int .i64 (2+(v:Int)))) none).run prog W=.ok (.string (bs ((s.take (2+v)).drop 2))) W:=fun W=>by
    have:=Y4 prog W 9 underlying9 s 2 (2+v) (by omega) h3;rw[Int.natCast_add] at this;exact this
   have BU:=Hi (HR.trans (Ac h3))
   go_in
   go_wp2_with fail;refine(YN _).mono ?_;rintro e w1⟨rfl,rfl⟩;go_wp2;go_ret3;rw[BU.out];exact⟨rfl,rfl⟩
  ·have BU:=Hi (HR.trans (Aa h3))
   go_in
   go_wp2_with fail;refine(YN _).mono ?_;rintro e w1⟨rfl,rfl⟩;go_wp2;go_ret3;rw[BU.out];exact⟨rfl,rfl⟩
def nZ(l:List (List UInt8))(k:Nat)(v:Value):Prop:=∃ S,v=.string (bs (A9.le 2 l.length++S))∧BB (l.take k)=some S
theorem nZ.next{l:List (List UInt8)}{k:Nat}{S x:List UInt8}(h:BB (l.take (k+1))=(Em x).map (S++ ·))(hx:x.length≤65535){v:Value}(hv:v=.string (bs (A9.le 2 l.length++(S++(A9.le 2 x.length++x))))):nZ l (k+1) v:=
 ⟨S++(A9.le 2 x.length++x),hv,by rw[h];unfold Em;rw[Ac hx];rfl⟩
theorem ayX(s:List UInt8)(w:World)(hs:s.length≤1000000000):
  Calls prog 250 #[.string (bs s)] w fun e w'=>M7 w s e w':=by
 by_cases h2:s.length < 2
 ·have hR:Hid (Dl s=none):=Hi (by unfold Dl;rw[Ac h2])
  go_in
  go_wp2;go_ret2;exact LC hR.out rfl (Ah _ _)
 ·have Gz:∀ W,(Instr.slice 9 (.string (bs s)) none (some (.int .i64 2)) none).run prog W=.ok (.string (bs (s.take 2))) W:=fun W=>O1 prog W 9 underlying9 s 2 (by omega)
  have KO:∀ W,(Instr.slice 9 (.string (bs s)) (some (.int .i64 2)) none none).run prog W=.ok (.string (bs (s.drop 2))) W:=fun W=>Mk prog W 9 underlying9 s 2 (by omega)
  have OA:(s.take 2).length=2:=by rw[Be];omega
  have Gr:=A9.Jb (s.take 2);rw[OA] at Gr;have Tv:=fun(W:World)=>adk (s.take 2) W (by omega)
  have FP:Dl s=(EF (A9.val (s.take 2)) (s.drop 2)).bind fun q=>if q.2=[] then some q.1 else none:=by unfold Dl;rw[Aa h2]
  generalize A9.val (s.take 2)=n at*;have hn3:n < 65536:=Gr;have YN:=Hi Tv;have DT:=Hi FP;have e2:IntKind.i64.wrap (n:Int)=(n:Int):=Eh _ (by omega);clear OA Gr Tv FP
  go_in
  go_wp2_with fail;refine(YN _).mono ?_;rintro e w1⟨rfl,rfl⟩;go_wp2
  go_loopw [0,5,6] (fun sv lv i wr=>∃ (j:Nat) (S:List UInt8) (l:List (List UInt8)),j≤n∧i=.int .i64 j∧sv=.string (bs S)∧wr.ownsRow 0 9 1 lv l.length (strCells l)∧l.length=j∧S.length≤s.length∧Bw w wr∧(∀ g,lv.ownBlock=some g→w.heap.size≤g)∧EF n (s.drop 2)=(EF (n -j) S).map fun q=>(l++q.1,q.2)) (fun _ _ i _=>n -(intOf i).toNat)
  case atStart=>exact⟨0,s.drop 2,[],by omega,rfl,rfl,by rw[lK];exact E5 _ _ _ _,rfl,by rw[Cs];omega,Ah _ _,fun g e=>by simp[Value.ownBlock] at e,by simp⟩
  case round=>
   obtain⟨j,S,l,hj,rfl,rfl,hown,FN,Px,hb,OB,Mh⟩:=hrel;have HO:=Hi hown;have HB:=Hi hb;have HN:=Hi OB;have Ej:=Hi Mh;have Nt:=Hi FN;obtain⟨qv,cv,rfl⟩:=Bp hown;clear hown hb OB Mh FN Gz KO;by_cases hlt:j < n
   ·cases hr:DF S with
    |none=>
     have hR:Hid (Dl s=none):=Hi (by rw[DT.out,eO hlt Ej hr];rfl);have hRV:Hid (Fs S=([],0,6)):=Hi (by unfold Fs;rw[hr]);clear hr;go_wp2_with fail;refine(uw S _ (by omega)).mono ?_;rw[hRV.out];rintro e w2⟨rfl,rfl⟩;go_wp2;go_ret2;exact LC hR.out rfl HB.out
    |some r=>
     obtain⟨t,m⟩:=r;have hRV:Hid (Fs S=(t,m,0)):=Hi (by unfold Fs;rw[hr]);have YE:=Hi (eQ hlt Ej hr);obtain⟨_,hmS,_⟩:=ZV hr;have hcut:∀ W,(Instr.slice 9 (.string (bs S)) (some (.int .i64 (m:Int))) none none).run prog W=.ok (.string (bs (S.drop m))) W:=fun W=>Mk prog W 9 underlying9 S m hmS
     obtain⟨i0,Bg,AX,AY,Ba⟩:=DI RX;have MS:l.length≤65536:=(by have:=Nt.out;omega);clear hr;go_wp2_with fail;refine(uw S _ (by omega)).mono ?_;rw[hRV.out];rintro e w2⟨rfl,rfl⟩
     go_wp2_with (
      at_builtin
      refine wpList_append_own_at _ rfl _ _ _ rfl 0 9 i0 _ 1 16 underlying61 Bg AX AY Ba rfl (by omega) (.slice qv l.length cv) l.length (strCells l) rfl (HO.alloc _) ⟨wr.heap.size,0,none⟩ 1 1 [.string (bs t)] rfl rfl (World.news_of_block (cs:=#[.string (bs t)]) (t:=9) (fr:=(0,0)) (AP wr _)) (fun u hu=>by rw[FC] at hu;subst hu;rfl) (by unfold maxLen;omega) (by omega) (AZ _) ?_;intro v' w6 hown AJ _ hat;have HO6:=Hi (show w6.ownsRow 0 9 1 v' (l++[t]).length (strCells (l++[t])) by rw[RV,Az];exact hown);have EJ:=Hi ((HB.alloc HB.size (.cells #[.string (bs t)] 9)).grown AJ (Ay HB.size (by rw[Ar];omega)) HN)
      have HN6:=Hi (show ∀ g,v'.ownBlock=some g→w.heap.size≤g from fun g hg=>by
       rcases hat with hat|hat
       ·rw[hat] at hg;exact HN g hg
       ·rw[hat] at hg;have:=Gu hg;rw[Ar] at this;have:=HB.size;omega)
      clear hown AJ hat)
     go_roundw
     case rel=>exact⟨j+1,S.drop m,l++[t],by omega,by go_num,rfl,HO6,by rw[Az,Nt.out];rfl,by rw[Cs];omega,EJ,HN6,YE⟩
     case measure=>simp[intOf];omega
   ·obtain rfl:j=n:=(by omega);by_cases hS:S=[]
    ·subst hS;have hR:Hid (Dl s=some l):=Hi (by rw[DT.out,Ej.out,Nat.sub_self];simp[EF]);go_wp2;go_ret2;exact lu hR.out rfl HO HB HN.out
    ·have hR:Hid (Dl s=none):=Hi (by rw[DT.out,Ej.out,Nat.sub_self];simp[EF,hS]);have hne:S.isEmpty=false:=by
      cases S with
      |nil=>exact absurd rfl hS
      |cons=>rfl
     clear hS;go_wp2;go_ret2;exact LC hR.out rfl HB.out
end
section
open Go.Maps
open Af Ap
section
variable {w w':World}
structure EM(w W:World)(ov:Value)(m:Nat)(o:M)(c:Am)(gn:Bool):Prop where
 row:W.ownsRow (w.heap.size+1) 274 2 ov m (Dn o)
 AQ:Bw w W
 box:W.heap[w.heap.size]?=some (.cells #[.string (bs c.name),.string (bs c.data),.bool gn] 57)
theorem EM.drew{W:World}{ov:Value}{m:Nat}{o:M}{c:Am}{gn:Bool}(h:EM w W ov m o c gn):EM w W.drew ov m o c gn:=⟨h.row.drew,h.AQ.drew,h.box⟩
theorem EM.add{W W2:World}{ov v2:Value}{m:Nat}{o:M}{c:Am}{gn:Bool}{ob:Obj}{a b:T}(h:EM w W ov m o c gn)(hg:(W.alloc ob).grownBy W2 ov.ownBlock)(ho:W2.ownsRow (w.heap.size+1) 274 2 v2 (m+1) (Dn o++[.string (bs a),.string (bs b)])):EM w W2 v2 (m+1) (o++[(a,b)]) c gn:=by
 have hlt:=Ao h.box;have BL:(W.alloc ob).heap.size=W.heap.size+1:=Ar _ _;refine⟨by rw[Uf];exact ho,(h.AQ.alloc h.AQ.size ob).grown hg (by omega) (fun j hj=>by have:=Ec h.row hj;omega),?_⟩;exact(hg.block w.heap.size (by omega) (row_ne_low h.row (Nat.lt_succ_self w.heap.size))).trans (((AV W ob).block _ hlt).trans h.box)
theorem alz(c:Am)(d:Bool)(p:T×T)(l:M):FB c d (p :: l)=(if d=false∧¬ p.1 < c.name then[(c.name,c.data)] else[])++((if p.1=c.name then[] else[p])++FB c (d || !decide (p.1 < c.name)) l):=rfl
theorem ayW{q:Option Addr}{cap:Nat}{A:M}(c:Am)(h:LU w 0 (.slice q A.length cap) A)(hu:Up A)(hl:A.length≤1000000):
  Calls prog 197 #[.slice q A.length cap,.agg #[.string (bs c.name),.string (bs c.data),.bool c.gone]] w fun e w'=>∃ v,e=.returned v∧LU w' w.heap.size v (Am.on A c)∧Bw w w':=by
 obtain⟨i0,Bg,AX,AY,Ba⟩:=DI arK;have HR:=Hi h;have HE:=Hi (alB (c:=c) hu);have EK:=Hi (AV w (.cells #[.string (bs c.name),.string (bs c.data),.bool c.gone] 57));have Wy:=Hi (AP w (.cells #[.string (bs c.name),.string (bs c.data),.bool c.gone] 57));obtain⟨gn,Zf⟩:=ex (c.gone);rw[Zf] at HE EK Wy ⊢;clear h hu Zf
 go_in
 go_wp2
 go_loopw [5,6,7] (fun ov dv i wr=>∃ (k m:Nat) (o:M) (d:Bool),k≤A.length∧o.length=m∧m≤2*k∧i=.int .i64 (k:Int)∧dv=.bool d∧o++FB c d (A.drop k)=FB c gn A∧EM w wr ov m o c gn)
  (fun _ _ i _=>A.length -(intOf i).toNat)
 case atStart=>exact⟨0,0,[],gn,AZ _,rfl,AZ _,rfl,rfl,by rw[List.drop_zero];rfl,⟨by rw[Rp];exact E5 _ _ _ _,EK,Wy⟩⟩
 case round=>
  obtain⟨k,m,o,d,hk,jX,Kb,rfl,rfl,Gp,Bl⟩:=hrel;obtain⟨oq,Ha,rfl⟩:=Bp Bl.row;have Ie:=Hi Bl;have MF:=Hi jX;clear EK Wy jX;by_cases hlt:k < A.length
  ·obtain⟨p,Jm,Lt,EC⟩:=(LU.index (BH HR (ub Bl.AQ) (fun _ _ f=>f)) hlt)
   have HP:=Hi (fun(W:World) (hW:Bw w W)=>(show W.cell? p=some (.string (bs A[k].1))∧W.cell? ⟨p.block,p.off+1,none⟩=some (.string (bs A[k].2)) from by
    obtain⟨p',qQ,aaS,aaT⟩:=(LU.index (BH HR (ub hW) (fun _ _ f=>f)) hlt);have e:=Jm W;rw[qQ W] at e;injection e with e
    injection e with e
    injection e with e
    subst e;exact⟨aaS,aaT⟩))
   obtain⟨b0,b1,b2,_,_,_⟩:=O0 Bl.box;have hd:=QY hlt;rw[hd,alz] at Gp;obtain⟨x1,Ee⟩:=ex (A[k].1);obtain⟨x2,Ea⟩:=ex (A[k].2);rw[show A[k]=(x1,x2) from Prod.ext Ee Ea] at Gp;rw[Ee] at Lt HP;rw[Ea] at EC HP;have IV:=Hi Gp;clear hd Ee Ea Gp Bl;by_cases h1:x1 < c.name
   ·
    cases d with
    |false=>
     have Ct:Op.bytesLess x1 c.name=true:=(by rw[Go.Proofs.bytesLess_eq];simpa using h1);have hne:(x1 == c.name)=false:=(by simpa using KV h1);have HN:=Hi (show(o++[(x1,x2)])++FB c false (A.drop (k+1))=FB c gn A by rw[←IV.out];simp[h1,KV h1]);clear h1;go_wp2;go_region;have BQ:=Hi Ie.drew;clear b0 b1 b2 Lt EC;generalize wr.drew=W1 at BQ ⊢;obtain⟨b0,b1,b2,_,_,_⟩:=O0 BQ.box;obtain⟨p0,p1⟩:=HP _ BQ.AQ;go_wp2;go_region;have BO:=Hi BQ.drew;clear b0 b1 b2 p0 p1;generalize W1.drew=W2 at BO ⊢;obtain⟨b0,b1,b2,_,_,_⟩:=O0 BO.box;obtain⟨p0,p1⟩:=HP _ BO.AQ;go_wp2_with (at_builtin;refine wpList_append_own_at _ rfl _ _ 172 rfl (w.heap.size+1) 274 i0 _ 2 32 underlying172 Bg AX AY Ba rfl (by decide) (.slice oq m Ha) m _ rfl (BO.row.alloc _) ⟨W2.heap.size,0,none⟩ 1 1 [.string (bs x1),.string (bs x2)] rfl rfl (by intro j u hj;rw[add_plain,E8];exact(Dx▸hj)) (by simp[Value.oneCell']) (by unfold maxLen;omega) (by omega) (by rw[Ar];have:=Ao BO.box;omega) ?_;intro v2 w2 Dj El _ _;obtain⟨g2,cap2,rfl⟩:=ownsRow_succ Dj;have GM:=Hi (BO.add El Dj);clear Dj El);go_roundw
     case rel=>exact⟨k+1,m+1,o++[(x1,x2)],false,by omega,by simp[MF.out],by omega,by go_num,rfl,HN,GM⟩
     case measure=>simp[intOf];omega
    |true=>
     have Ct:Op.bytesLess x1 c.name=true:=(by rw[Go.Proofs.bytesLess_eq];simpa using h1);have hne:(x1 == c.name)=false:=(by simpa using KV h1);have HN:=Hi (show(o++[(x1,x2)])++FB c true (A.drop (k+1))=FB c gn A by rw[←IV.out];simp[h1,KV h1]);clear h1;go_wp2;go_region;have BQ:=Hi Ie.drew;clear b0 b1 b2 Lt EC;generalize wr.drew=W1 at BQ ⊢;obtain⟨b0,b1,b2,_,_,_⟩:=O0 BQ.box;obtain⟨p0,p1⟩:=HP _ BQ.AQ;go_wp2;go_region;have BO:=Hi BQ.drew;clear b0 b1 b2 p0 p1;generalize W1.drew=W2 at BO ⊢;obtain⟨b0,b1,b2,_,_,_⟩:=O0 BO.box;obtain⟨p0,p1⟩:=HP _ BO.AQ;go_wp2_with (at_builtin;refine wpList_append_own_at _ rfl _ _ 172 rfl (w.heap.size+1) 274 i0 _ 2 32 underlying172 Bg AX AY Ba rfl (by decide) (.slice oq m Ha) m _ rfl (BO.row.alloc _) ⟨W2.heap.size,0,none⟩ 1 1 [.string (bs x1),.string (bs x2)] rfl rfl (by intro j u hj;rw[add_plain,E8];exact(Dx▸hj)) (by simp[Value.oneCell']) (by unfold maxLen;omega) (by omega) (by rw[Ar];have:=Ao BO.box;omega) ?_;intro v2 w2 Dj El _ _;obtain⟨g2,cap2,rfl⟩:=ownsRow_succ Dj;have GM:=Hi (BO.add El Dj);clear Dj El);go_roundw
     case rel=>exact⟨k+1,m+1,o++[(x1,x2)],true,by omega,by simp[MF.out],by omega,by go_num,rfl,HN,GM⟩
     case measure=>simp[intOf];omega
   ·by_cases h2:x1=c.name
    ·
     cases d with
     |false=>
      have Ct:Op.bytesLess x1 c.name=false:=(by rw[Go.Proofs.bytesLess_eq];simpa using h1);have hne:(x1 == c.name)=true:=(by simpa using h2);have HN:=Hi (show(o++[(c.name,c.data)])++FB c true (A.drop (k+1))=FB c gn A by rw[←IV.out];simp[h2,RL]);clear h1 h2;go_wp2;go_region;have BQ:=Hi Ie.drew;clear b0 b1 b2 Lt EC;generalize wr.drew=W1 at BQ ⊢;obtain⟨b0,b1,b2,_,_,_⟩:=O0 BQ.box;obtain⟨p0,p1⟩:=HP _ BQ.AQ;go_wp2_with (at_builtin;refine wpList_append_own_at _ rfl _ _ 172 rfl (w.heap.size+1) 274 i0 _ 2 32 underlying172 Bg AX AY Ba rfl (by decide) (.slice oq m Ha) m _ rfl (BQ.row.alloc _) ⟨W1.heap.size,0,none⟩ 1 1 [.string (bs c.name),.string (bs c.data)] rfl rfl (by intro j u hj;rw[add_plain,E8];exact(Dx▸hj)) (by simp[Value.oneCell']) (by unfold maxLen;omega) (by omega) (by rw[Ar];have:=Ao BQ.box;omega) ?_;intro v1 w1 DL MQ _ _;obtain⟨g1,Vu,rfl⟩:=ownsRow_succ DL;have Jg:=Hi (BQ.add MQ DL);clear DL MQ);have BO:=Hi Jg.drew;obtain⟨e0,e1,e2,_,_,_⟩:=O0 Jg.box;obtain⟨r0,r1⟩:=HP _ Jg.AQ;go_wp2;go_region;clear b0 b1 b2 p0 p1 e0 e1 e2 r0 r1;generalize w1.drew=W2 at BO ⊢;obtain⟨b0,b1,b2,_,_,_⟩:=O0 BO.box;obtain⟨p0,p1⟩:=HP _ BO.AQ;go_wp2;go_roundw
      case rel=>exact⟨k+1,m+1,o++[(c.name,c.data)],true,by omega,by simp[MF.out],by omega,by go_num,rfl,HN,BO⟩
      case measure=>simp[intOf];omega
     |true=>
      have Ct:Op.bytesLess x1 c.name=false:=(by rw[Go.Proofs.bytesLess_eq];simpa using h1);have hne:(x1 == c.name)=true:=(by simpa using h2);have HN:=Hi (show(o)++FB c true (A.drop (k+1))=FB c gn A by rw[←IV.out];simp[h2]);clear h1 h2;go_wp2;go_region;have BQ:=Hi Ie.drew;clear b0 b1 b2 Lt EC;generalize wr.drew=W1 at BQ ⊢;obtain⟨b0,b1,b2,_,_,_⟩:=O0 BQ.box;obtain⟨p0,p1⟩:=HP _ BQ.AQ;go_wp2;go_region;have BO:=Hi BQ.drew;clear b0 b1 b2 p0 p1;generalize W1.drew=W2 at BO ⊢;obtain⟨b0,b1,b2,_,_,_⟩:=O0 BO.box;obtain⟨p0,p1⟩:=HP _ BO.AQ;go_wp2;go_roundw
      case rel=>exact⟨k+1,m,o,true,by omega,by simp[MF.out],by omega,by go_num,rfl,HN,BO⟩
      case measure=>simp[intOf];omega
    ·
     cases d with
     |false=>
      have Ct:Op.bytesLess x1 c.name=false:=(by rw[Go.Proofs.bytesLess_eq];simpa using h1);have hne:(x1 == c.name)=false:=(by simpa using h2);have HN:=Hi (show((o++[(c.name,c.data)])++[(x1,x2)])++FB c true (A.drop (k+1))=FB c gn A by rw[←IV.out];simp[h1,h2]);clear h1 h2;go_wp2;go_region;have BQ:=Hi Ie.drew;clear b0 b1 b2 Lt EC;generalize wr.drew=W1 at BQ ⊢;obtain⟨b0,b1,b2,_,_,_⟩:=O0 BQ.box;obtain⟨p0,p1⟩:=HP _ BQ.AQ;go_wp2_with (at_builtin;refine wpList_append_own_at _ rfl _ _ 172 rfl (w.heap.size+1) 274 i0 _ 2 32 underlying172 Bg AX AY Ba rfl (by decide) (.slice oq m Ha) m _ rfl (BQ.row.alloc _) ⟨W1.heap.size,0,none⟩ 1 1 [.string (bs c.name),.string (bs c.data)] rfl rfl (by intro j u hj;rw[add_plain,E8];exact(Dx▸hj)) (by simp[Value.oneCell']) (by unfold maxLen;omega) (by omega) (by rw[Ar];have:=Ao BQ.box;omega) ?_;intro v1 w1 DL MQ _ _;obtain⟨g1,Vu,rfl⟩:=ownsRow_succ DL;have Jg:=Hi (BQ.add MQ DL);clear DL MQ);have BO:=Hi Jg.drew;obtain⟨e0,e1,e2,_,_,_⟩:=O0 Jg.box;obtain⟨r0,r1⟩:=HP _ Jg.AQ;go_wp2;go_region;clear b0 b1 b2 p0 p1 e0 e1 e2 r0 r1;generalize w1.drew=W2 at BO ⊢;obtain⟨b0,b1,b2,_,_,_⟩:=O0 BO.box;obtain⟨p0,p1⟩:=HP _ BO.AQ
      go_wp2_with (at_builtin;refine wpList_append_own_at _ rfl _ _ 172 rfl (w.heap.size+1) 274 i0 _ 2 32 underlying172 Bg AX AY Ba rfl (by decide) (.slice (some ⟨g1,0,none⟩) (m+1) Vu) (m+1) _ rfl (BO.row.alloc _) ⟨W2.heap.size,0,none⟩ 1 1 [.string (bs x1),.string (bs x2)] rfl rfl (by intro j u hj;rw[add_plain,E8];exact(Dx▸hj)) (by simp[Value.oneCell']) (by unfold maxLen;omega) (by omega) (by rw[Ar];have:=Ao BO.box;omega) ?_;intro v2 w2 Dj El _ _;obtain⟨g2,cap2,rfl⟩:=ownsRow_succ Dj;have GM:=Hi (BO.add El Dj);clear Dj El);go_roundw
      case rel=>exact⟨k+1,m+1+1,(o++[(c.name,c.data)])++[(x1,x2)],true,by omega,by simp[MF.out],by omega,by go_num,rfl,HN,GM⟩
      case measure=>simp[intOf];omega
     |true=>
      have Ct:Op.bytesLess x1 c.name=false:=(by rw[Go.Proofs.bytesLess_eq];simpa using h1);have hne:(x1 == c.name)=false:=(by simpa using h2);have HN:=Hi (show(o++[(x1,x2)])++FB c true (A.drop (k+1))=FB c gn A by rw[←IV.out];simp[h2]);clear h1 h2;go_wp2;go_region;have BQ:=Hi Ie.drew;clear b0 b1 b2 Lt EC;generalize wr.drew=W1 at BQ ⊢;obtain⟨b0,b1,b2,_,_,_⟩:=O0 BQ.box;obtain⟨p0,p1⟩:=HP _ BQ.AQ;go_wp2;go_region;have BO:=Hi BQ.drew;clear b0 b1 b2 p0 p1;generalize W1.drew=W2 at BO ⊢;obtain⟨b0,b1,b2,_,_,_⟩:=O0 BO.box;obtain⟨p0,p1⟩:=HP _ BO.AQ;go_wp2_with (at_builtin;refine wpList_append_own_at _ rfl _ _ 172 rfl (w.heap.size+1) 274 i0 _ 2 32 underlying172 Bg AX AY Ba rfl (by decide) (.slice oq m Ha) m _ rfl (BO.row.alloc _) ⟨W2.heap.size,0,none⟩ 1 1 [.string (bs x1),.string (bs x2)] rfl rfl (by intro j u hj;rw[add_plain,E8];exact(Dx▸hj)) (by simp[Value.oneCell']) (by unfold maxLen;omega) (by omega) (by rw[Ar];have:=Ao BO.box;omega) ?_;intro v2 w2 Dj El _ _;obtain⟨g2,cap2,rfl⟩:=ownsRow_succ Dj;have GM:=Hi (BO.add El Dj);clear Dj El);go_roundw
      case rel=>exact⟨k+1,m+1,o++[(x1,x2)],true,by omega,by simp[MF.out],by omega,by go_num,rfl,HN,GM⟩
      case measure=>simp[intOf];omega
  ·obtain rfl:k=A.length:=(by omega);rw[List.drop_length] at Gp;obtain⟨b0,b1,b2,_,_,_⟩:=O0 Bl.box;clear Bl;cases d with
   |false=>
    have HN:=Hi (show o++[(c.name,c.data)]=Am.on A c by rw[←HE.out,←Gp];rfl);clear Gp;go_wp2_with (at_builtin;refine wpList_append_own_at _ rfl _ _ 172 rfl (w.heap.size+1) 274 i0 _ 2 32 underlying172 Bg AX AY Ba rfl (by decide) (.slice oq m Ha) m _ rfl (Ie.row.alloc _) ⟨wr.heap.size,0,none⟩ 1 1 [.string (bs c.name),.string (bs c.data)] rfl rfl (by intro j u hj;rw[add_plain,E8];exact(Dx▸hj)) (by simp[Value.oneCell']) (by unfold maxLen;omega) (by omega) (by rw[Ar];have:=Ao Ie.box;omega) ?_;intro v0 w0 II Ze _ _;obtain⟨g0,cap0,rfl⟩:=ownsRow_succ II;have WN:=Hi (Ie.add Ze II);clear II Ze);go_ret;refine⟨_,rfl,?_,WN.AQ⟩;rw[←HN.out];unfold LU;rw[Az,MF.out];exact LU.abQ WN.row (by omega)
   |true=>
    have HN:=Hi (show o=Am.on A c by rw[←HE.out,←Gp];exact(En o).symm);clear Gp;go_wp2;go_ret;refine⟨_,rfl,?_,Ie.AQ⟩;rw[←HN.out];unfold LU;rw[MF.out];exact LU.abQ Ie.row (by omega)
end
end
section
open Go.Maps
open Af Ap
section
variable {w w':World}
theorem aAS(A:M)(k:Nat)(h:k < A.length):used (A.take (k+1))=used (A.take k)+8+A[k].1.length+A[k].2.length:=by
 unfold used;rw[CQ h,D6,OQ];simp[cost];omega
theorem anC(A:M)(k:Nat):used (A.take k)≤used A:=by
 unfold used;have:((A.take k).map cost).sum+((A.drop k).map cost).sum=(A.map cost).sum:=by rw[←OQ,←D6,Mw]
 omega
theorem acG{q:Option Addr}{cap:Nat}{A:M}(h:LU w 0 (.slice q A.length cap) A)(hc:used A≤1000000000):
  Calls prog 120 #[.slice q A.length cap] w fun e w'=>e=.returned (.int .i64 (used A:Nat))∧Bw w w':=by
 have HR:=Hi h;have Hz:=QV A;clear h
 go_in
 go_wp2
 go_loopw [3,4] (fun n i wr=>∃ k:Nat,k≤A.length∧i=.int .i64 (k:Int)∧n=.int .i64 (used (A.take k):Nat)∧Bw w wr) (fun _ i _=>A.length -(intOf i).toNat)
 case atStart=>exact⟨0,AZ _,rfl,rfl,Ah _ _⟩
 case round=>
  obtain⟨k,hk,rfl,rfl,hb⟩:=hrel;have HB:=Hi hb;have hut:=anC A k;by_cases hlt:k < A.length
  ·obtain⟨p,Jm,Lt,EC⟩:=LU.index (BH HR (ub hb) (fun _ _ f=>f)) hlt;have FE:=aAS A k hlt;have Eu:=anC A (k+1);have Fw:=Hi FE;obtain⟨x1,Ee⟩:=ex (A[k].1);obtain⟨x2,Ea⟩:=ex (A[k].2);rw[Ee] at Lt;rw[Ea] at EC;rw[Ee,Ea] at Fw FE;obtain⟨U,hU⟩:=ex (used (A.take k));rw[hU] at Fw FE hut ⊢;have Ai:U+8+x1.length+x2.length≤1000000000:=(by omega);clear hb Ee Ea hU FE Eu hut;go_wp2;go_region;all_goals
    go_wp2;go_roundw
    case rel=>exact⟨k+1,by omega,by go_num,by rw[Fw.out];congr 1,HB.drew⟩
    case measure=>simp[intOf];omega
  ·obtain rfl:k=A.length:=(by omega);rw[Dq];go_wp2;go_ret;exact⟨rfl,HB⟩
theorem amA{r cap:Nat}{a:Option Addr}{v:Value}{A:M}{most:Int}{l:List Am}(h:Hq w r v A most)(hu:Up A)(hl:Ew w a l)(hA:A.length≤500000)(FN:l.length≤500000):
  Calls prog 119 #[.pointer (some ⟨r,0,none⟩),.slice a l.length cap] w fun e w'=>∃ v',e=.returned v'∧LU w' 0 v' (made A l)∧Bw w w':=by
 have c0:w.cell? ⟨r,0,none⟩=some v:=cr h.1;have HR:=Hi h.2;have HL:=Hi hl;clear h hl
 go_in
 go_wp2_with fail;clear c0
 go_loopw [5,6] (fun ov i wr=>∃ (k:Nat) (F:M),k≤l.length∧F=made A (l.take k)∧i=.int .i64 (k:Int)∧LU wr 0 ov F∧Bw w wr) (fun _ i _=>l.length -(intOf i).toNat)
 case atStart=>exact⟨0,A,AZ _,rfl,rfl,HR,Ah _ _⟩
 case round=>
  obtain⟨k,F,hk,hF,rfl,Ag,hb⟩:=hrel;obtain⟨oq,Ha,rfl⟩:=Bp Ag;have HB:=Hi hb;have HW:=Hi Ag;have HF:=Hi hF;have Xd:F.length≤1000000:=by
   have:=abT A (l.take k);rw[hF];rw[Be] at this;omega
  have hFu:Up F:=by rw[hF];exact hu.made _
  clear Ag hF;by_cases hlt:k < l.length
  ·obtain⟨p,Jm,hp,_⟩:=(HL.below hb).index cap k hlt;obtain⟨p0,p1,p2⟩:=hp.cells;have G7:=Hi (ayW (w:=wr) l[k] HW hFu Xd);have HMS:=Hi (show made A (l.take (k+1))=Am.on (made A (l.take k)) l[k] by rw[CQ hlt,sK]);generalize l[k]=c at*;clear hb hp hFu;go_wp2_with fail;refine G7.mono ?_;rintro e w2⟨v2,rfl,DN,Ad⟩;have BU:=Hi DN;have Ak:=bH HB Ad;clear DN Ad;go_wp2;go_roundw
   case rel=>exact⟨k+1,Am.on F c,by omega,by rw[HMS.out,HF.out],by go_num,LU.abQ BU (AZ _),Ak⟩
   case measure=>simp[intOf];omega
  ·obtain rfl:k=l.length:=(by omega);have HE:=Hi (show F=made A l by rw[HF.out,Dq]);clear hb;go_wp2;go_ret;exact⟨_,rfl,by rw[←HE.out];exact HW.out,HB⟩
theorem get_at{A:M}{k:Nat}{nm:T}(hk:k < A.length)(h:∀ j,(hj:j < A.length)→j < k→A[j].1≠nm)(he:A[k].1=nm):Af.get A nm=some A[k].2:=by
 unfold Af.get;rw[List.find?_eq_some_iff_getElem.2 ⟨by simpa using he,k,hk,rfl,fun j hj=>by simpa using h j (by omega) hj⟩];rfl
theorem asR{A:M}{nm:T}(h:∀ j,(hj:j < A.length)→A[j].1≠nm):Af.get A nm=none:=get_none.2 fun p hp=>by
 obtain⟨j,hj,rfl⟩:=List.getElem_of_mem hp;exact h j hj
theorem am6{r:Nat}{v:Value}{A:M}{most:Int}(h:Hq w r v A most)(hA:A.length≤1000000)(nm:T):
  Calls prog 184 #[.pointer (some ⟨r,0,none⟩),.string (bs nm)] w fun e w'=>e=.returned (.tuple #[.string (bs ((Af.get A nm).getD [])),.bool (Af.get A nm).isSome])∧Bw w w':=by
 obtain⟨oq,Ha,rfl⟩:=Bp h.2;have HR:=Hi h;clear h
 go_in
 go_wp2
 go_loopw [6] (fun i wr=>∃ k:Nat,k≤A.length∧i=.int .i64 (k:Int)∧(∀ j,(hj:j < A.length)→j < k→A[j].1≠nm)∧Bw w wr) (fun i _=>A.length -(intOf i).toNat)
 case atStart=>exact⟨0,AZ _,rfl,fun j _ e=>by omega,Ah _ _⟩
 case round=>
  obtain⟨k,hk,rfl,hall,hb⟩:=hrel;have Gv:=Hi hall;have HB:=Hi hb;have hr:=HR.below hb;have c0:wr.cell? ⟨r,0,none⟩=some (.slice oq A.length Ha):=cr hr.1;clear hall;by_cases hlt:k < A.length
  ·obtain⟨p,Jm,Lt,EC⟩:=LU.index hr.2 hlt;obtain⟨x1,Ee⟩:=ex (A[k].1);obtain⟨x2,Ea⟩:=ex (A[k].2);rw[Ee] at Lt;rw[Ea] at EC;by_cases he:x1=nm
   ·have HG:=Hi (get_at hlt Gv (Ee.trans he));rw[Ea] at HG;subst he;clear hr hb Ee Ea;go_wp2;go_ret2;exact⟨by rw[HG.out];rfl,HB⟩
   ·have heb:(x1 == nm)=false:=(by simpa using he);have wS:=Hi (show A[k].1≠nm by rw[Ee];exact he);clear hr hb Ee Ea;go_wp2;go_roundw
    case rel=>exact⟨k+1,by omega,by go_num,fun j hj Xw=>by
     by_cases e:j=k
     ·subst e;exact wS.out
     ·exact Gv j hj (by omega),HB⟩
    case measure=>simp[intOf];omega
  ·have HG:=Hi (asR (A:=A) (nm:=nm) (fun j hj=>Gv j hj (by omega)));obtain rfl:k=A.length:=(by omega);clear hr hb;go_wp2;go_ret2;exact⟨by rw[HG.out];rfl,HB⟩
