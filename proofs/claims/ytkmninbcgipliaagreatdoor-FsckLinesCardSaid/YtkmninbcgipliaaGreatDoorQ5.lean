/- FilMade2 FilRead2 WalD -/
import Derived.Test.YtkmninbcgipliaaGreatDoorQ4
import Derived.Laws.Cover1
import Derived.Sort.Walk0
set_option maxHeartbeats 4000000
set_option maxRecDepth 100000
set_option linter.all false
namespace Go.Proofs.YtkmninbcgipliaaGreatDoor
open Tryz
open Go.RowKit
open Go.Maps
section
open Af
structure TM(w:World)(q:Addr)(c:Am):Prop where
 name:w.cell? (q.add 0)=some (.string (bs c.name))
 data:w.cell? (q.add 1)=some (.string (bs c.data))
 gone:w.cell? (q.add 2)=some (.bool c.gone)
theorem TM.cells{w:World}{q:Addr}{c:Am}(h:TM w q c):w.cell? q=some (.string (bs c.name))∧w.cell? ⟨q.block,q.off+1,none⟩=some (.string (bs c.data))∧w.cell? ⟨q.block,q.off+2,none⟩=some (.bool c.gone):=by
 have h1:=h.name;rw[add_zero'] at h1;exact⟨h1,h.data,h.gone⟩
def Ew(w:World)(a:Option Addr)(l:List Am):Prop:=∀ i,(h:i < l.length)→∃ p:Addr,a=some p∧TM w (p.add (i*3)) l[i]
theorem TM.upd{F:Nat→Prop}{w w':World}{q:Addr}{c:Am}(h:TM w q c)(hu:A7 F w w')(hF:¬ F q.block):TM w' q c:=by
 have b:∀ i,(q.add i).block=q.block:=add_block q;have hlt:=D7 h.name;exact⟨(hu.cell hlt (by rw[b];exact hF)).trans h.name,(hu.cell (by rw[b];rw[b] at hlt;exact hlt) (by rw[b];exact hF)).trans h.data,(hu.cell (by rw[b];rw[b] at hlt;exact hlt) (by rw[b];exact hF)).trans h.gone⟩
theorem Ew.upd{F:Nat→Prop}{w w':World}{a:Option Addr}{l:List Am}(h:Ew w a l)(hu:A7 F w w')(hF:∀ p,a=some p→l≠[]→¬ F p.block):Ew w' a l:=fun i hi=>by
 obtain⟨p,hp,h1⟩:=h i hi;exact⟨p,hp,h1.upd hu (by rw[add_block];exact hF p hp (by intro e;rw[e] at hi;simp at hi))⟩
theorem TM.below{w w':World}{q:Addr}{c:Am}(h:TM w q c)(hb:Bw w w'):TM w' q c:=h.upd (ub hb) (fun f=>f)
theorem Ew.below{w w':World}{a:Option Addr}{l:List Am}(h:Ew w a l)(hb:Bw w w'):Ew w' a l:=h.upd (ub hb) (fun _ _ _ f=>f)
theorem Ew.index{w:World}{a:Option Addr}{l:List Am}(h:Ew w a l)(cap k:Nat)(hk:k < l.length):
  ∃ q:Addr,(∀ W,(Instr.indexAt 32 (.slice a l.length cap) (.int .i64 (k:Int))).run prog W=.ok (.pointer (some q)) W)∧TM w q l[k]∧∃ p:Addr,a=some p∧q.block=p.block:=by
 obtain⟨p,rfl,h1⟩:=h k hk;exact⟨_,fun W=>IM prog _ 57 underlying32 3 (by kernel_rfl) p l.length cap k hk W,h1,p,rfl,add_block _ _⟩
theorem ZN{w:World}{p:Addr}{v:Value}(h:w.cell? p=some v){m:Nat}{es:Array MapEntry}{c:Nat}(hm:w.heap[m]?=some (.map es c)):p.block≠m:=by
 intro e;subst e;unfold World.cell? at h;rw[hm] at h;simp at h
theorem axz(F:M)(c:Am):(Am.on F c).length≤F.length+1:=by
 unfold Am.on;split
 ·unfold del;have:=LK (fun p:T×T=>!(p.1 == c.name)) F;omega
 ·unfold put;rw[Az,BN];have:(F.filter fun p=>decide (p.1 < c.name)).length+(F.filter fun p=>decide (c.name < p.1)).length≤F.length:=by
   induction F with
   |nil=>simp
   |cons p F ih=>
    by_cases h1:p.1 < c.name
    ·have h2:=QQ h1;rw[UX (by simpa using h1),QZ (by simpa using h2)];simp only[BN];omega
    ·rw[QZ (by simpa using h1)];have:=LK (fun q:T×T=>decide (c.name < q.1)) (p :: F);by_cases h2:c.name < p.1
     ·rw[UX (by simpa using h2)];simp only[BN];omega
     ·rw[QZ (by simpa using h2)];simp only[BN];omega
  omega
theorem abT(F:M)(l:List Am):(made F l).length≤F.length+l.length:=by
 induction l generalizing F with
 |nil=>exact Ae _
 |cons c l ih=>
  have h1:=ih (Am.on F c);have h2:=axz F c
  show(made (Am.on F c) l).length≤_
  rw[BN];omega
theorem zw{w:World}{m:Nat}{F:M}{a:Option Addr}{cap:Nat}{l:List Am}(hM:CG w m F)(hL:Ew w a l)(hlen:l.length≤1000000)(hF:F.length≤1000000000000000)(hok:∀ c∈l,c.name.length≤maxLen):
  Calls prog 56 #[.map (some m),.slice a l.length cap] w fun e w'=>e=.returned (.tuple #[])∧CG w' m (made F l)∧A7 (fun k=>k=m) w w':=by
 have HM:=Hi hM;have HL:=Hi hL;have ME:=Hi hok;clear hM hL hok
 go_in
 go_wp2
 go_loopw [8] (fun i wr=>∃ k:Nat,k≤l.length∧i=.int .i64 k∧CG wr m (made F (l.take k))∧A7 (fun k=>k=m) w wr) (fun i _=>l.length -(intOf i).toNat)
 case atStart=>exact⟨0,AZ _,rfl,HM,A7.refl _ _⟩
 case round=>
  obtain⟨k,hk,rfl,hm,hu⟩:=hrel;by_cases hlt:k < l.length
  ·obtain⟨q,Cx,hq,-⟩:=HL.index cap k hlt;obtain⟨es,ck,Ou⟩:=HM.is;have Fp:=hq.upd hu (ZN (hq.cells).1 Ou);have DV:=ME _ (Dc hlt);have HT:=Hi (show made F (l.take (k+1))=Am.on (made F (l.take k)) l[k] by rw[CQ hlt,sK]);generalize l[k]=c at*;obtain⟨cn,cd,cg⟩:=c;simp only at DV;obtain⟨c0,c1,c2⟩:=Fp.cells;simp only at c0 c1 c2;have FX:=abT F (l.take k);rw[Be] at FX;have hb:Bw wr (wr.alloc (.cells #[.string (bs cn),.string (bs cd),.bool cg] 57)):=(Ah _ _).alloc (Ae _) _;have Kb:=hm.below hb;have HU:=Hi hu;have HB:=Hi hb;cases cg with
   |true=>
    have hd:=fun ty=>Kb.delete cn DV ty
    obtain⟨w2,SY,Ot,PG⟩:=hd 0;have Nq:=Hi Ot;have OZ:=Hi PG;clear hq Fp Ou hm Kb hu hb FX Ot PG hd;go_wp2;go_roundw
    case rel=>exact⟨k+1,by omega,by go_num,by rw[HT.out];exact Nq.out,(HU.trans (A7.of_below (F:=fun k=>k=m) HB) (fun i hi=>.inl hi)).trans (A7.of_grownBy (F:=fun k=>k=m) OZ (fun k e=>by cases e;rfl)) (fun i hi=>.inl hi)⟩
    case measure=>simp[intOf];omega
   |false=>
    obtain⟨w2,SY,Ot,PG⟩:=Kb.update cn cd DV (by unfold maxLen;omega);have Nq:=Hi Ot;have OZ:=Hi PG;clear hq Fp Ou hm Kb hu hb FX Ot PG;go_wp2;go_roundw
    case rel=>exact⟨k+1,by omega,by go_num,by rw[HT.out];exact Nq.out,(HU.trans (A7.of_below (F:=fun k=>k=m) HB) (fun i hi=>.inl hi)).trans (A7.of_grownBy (F:=fun k=>k=m) OZ (fun k e=>by cases e;rfl)) (fun i hi=>.inl hi)⟩
    case measure=>simp[intOf];omega
  ·obtain rfl:k=l.length:=(by omega);rw[Dq] at hm;have aK:=Hi hm;have HU:=Hi hu;clear hm hu;go_wp2_with fail
   go_end0
   exact⟨rfl,aK,HU⟩
theorem afn(w:World)(x y:Value)(t:TypeId):∀ j u,[x,y][j]?=some u→(w.alloc (.cells #[x,y] t)).cell? ((⟨w.heap.size,0,none⟩:Addr).add j)=some u:=by
 intro j u hj;rw[add_plain,E8]
 match j,hj with
 |0,hj=>simpa using hj
 |1,hj=>simpa using hj
theorem at0(l:List Am)(k:Nat)(h:k < l.length):group (l.take (k+1))=group (l.take k)++[Ug l[k].gone :: l[k].name,l[k].data]:=by
 rw[CQ h,asZ]
theorem arG{w:World}{a:Option Addr}{cap:Nat}{l:List Am}(hL:Ew w a l)(hlen:l.length≤1000000)(hok:∀ c∈l,c.name.length≤1000000):
  Calls prog 59 #[.slice a l.length cap] w fun e w'=>∃ q cap',e=.returned (.slice q (group l).length cap')∧w'.ownsRow w.heap.size 9 1 (.slice q (group l).length cap') (group l).length (strCells (group l))∧Bw w w':=by
 obtain⟨i0,Bg,AX,AY,Ba⟩:=DI RX;have HL:=Hi hL;have ME:=Hi hok;clear hL hok
 go_in
 go_wp2
 go_loopw [2,8] (fun s i wr=>∃ (k:Nat) (q:Option Addr) (c:Nat),k≤l.length∧i=.int .i64 k∧s=.slice q (2*k) c∧wr.ownsRow w.heap.size 9 1 (.slice q (2*k) c) (2*k) (strCells (group (l.take k)))∧Bw w wr) (fun _ i _=>l.length -(intOf i).toNat)
 case atStart=>exact⟨0,none,0,AZ _,rfl,rfl,by rw[I8];show World.ownsRow _ _ _ _ _ 0 (strCells []);rw[lK];exact E5 _ _ _ _,Ah _ _⟩
 case round=>
  obtain⟨k,q,c,hk,rfl,rfl,Ag,hb⟩:=hrel;by_cases hlt:k < l.length
  ·obtain⟨qa,Cx,hq,-⟩:=HL.index cap k hlt;have Fp:=hq.below hb;have DV:=ME _ (Dc hlt);have HT:=Hi (at0 l k hlt);have h0:({ data:=#[0] }:ByteArray)=bs [0]:=rfl;have h1:({ data:=#[1] }:ByteArray)=bs [1]:=rfl;generalize l[k]=x at*;obtain⟨cn,cd,cg⟩:=x;simp only at DV;obtain⟨c0,c1,c2⟩:=Fp.cells;simp only at c0 c1 c2;have BL:=hb.size;have HR:=Hi Ag;have HB:=Hi hb;clear hq Fp Ag hb;cases cg with
   |true=>
    go_wp2_with (at_builtin;refine wpList_append_own_at _ rfl _ _ 61 rfl w.heap.size 9 i0 _ 1 16 underlying61 Bg AX AY Ba rfl (by decide) _ (2*k) _ rfl ((HR.alloc _).alloc _) ⟨wr.heap.size+1,0,none⟩ 2 2 [.string (bs (1 :: cn)),.string (bs cd)] rfl rfl (by have h:=afn (wr.alloc (.cells #[.string (bs cn),.string (bs cd),.bool true] 57)) (.string (bs (1 :: cn))) (.string (bs cd)) 9;rw[Ar] at h;exact h) (by simp[Value.oneCell']) (by unfold maxLen;omega) (by omega) (by simp;omega) ?_;intro v' w1 Ck AJ _ hat;obtain⟨g',cap',rfl⟩:=ownsRow_succ Ck;have HO:=Hi Ck;have HG:=Hi AJ;clear Ck AJ hat);go_roundw
    case rel=>
     refine⟨k+1,_,_,by omega,by go_num,rfl,?_,?_⟩
     ·rw[HT.out];unfold Ug;have e:strCells (group (l.take k)++[1 :: cn,cd])=strCells (group (l.take k))++[.string (bs (1 :: cn)),.string (bs cd)]:=by
       rw[show group (l.take k)++[1 :: cn,cd]=(group (l.take k)++[1 :: cn])++[cd] by simp,RV,RV,Dy];rfl
      exact e▸HO.out
     ·exact((HB.alloc HB.size _).alloc (by simp;omega) _).grown HG (by simp;omega) (fun j hj=>by
       have Lm:(Value.slice q (2*k) c).ownBlock=some j:=hj;rcases HR.2 with⟨e1,_⟩|⟨g,c2,cur,e1,Mc,_⟩
       ·rw[e1] at Lm;simp[Value.ownBlock] at Lm
       ·rw[e1] at Lm;simp[Value.ownBlock] at Lm;omega)
    case measure=>simp[intOf];omega
   |false=>
    go_wp2_with (at_builtin;refine wpList_append_own_at _ rfl _ _ 61 rfl w.heap.size 9 i0 _ 1 16 underlying61 Bg AX AY Ba rfl (by decide) _ (2*k) _ rfl ((HR.alloc _).alloc _) ⟨wr.heap.size+1,0,none⟩ 2 2 [.string (bs (0 :: cn)),.string (bs cd)] rfl rfl (by have h:=afn (wr.alloc (.cells #[.string (bs cn),.string (bs cd),.bool false] 57)) (.string (bs (0 :: cn))) (.string (bs cd)) 9;rw[Ar] at h;exact h) (by simp[Value.oneCell']) (by unfold maxLen;omega) (by omega) (by simp;omega) ?_;intro v' w1 Ck AJ _ hat;obtain⟨g',cap',rfl⟩:=ownsRow_succ Ck;have HO:=Hi Ck;have HG:=Hi AJ;clear Ck AJ hat);go_roundw
    case rel=>
     refine⟨k+1,_,_,by omega,by go_num,rfl,?_,?_⟩
     ·rw[HT.out];unfold Ug;have e:strCells (group (l.take k)++[0 :: cn,cd])=strCells (group (l.take k))++[.string (bs (0 :: cn)),.string (bs cd)]:=by
       rw[show group (l.take k)++[0 :: cn,cd]=(group (l.take k)++[0 :: cn])++[cd] by simp,RV,RV,Dy];rfl
      exact e▸HO.out
     ·exact((HB.alloc HB.size _).alloc (by simp;omega) _).grown HG (by simp;omega) (fun j hj=>by
       have Lm:(Value.slice q (2*k) c).ownBlock=some j:=hj;rcases HR.2 with⟨e1,_⟩|⟨g,c2,cur,e1,Mc,_⟩
       ·rw[e1] at Lm;simp[Value.ownBlock] at Lm
       ·rw[e1] at Lm;simp[Value.ownBlock] at Lm;omega)
    case measure=>simp[intOf];omega
  ·obtain rfl:k=l.length:=(by omega);rw[Dq] at Ag;have Oy:=agX l;rw[←Oy] at Ag ⊢;have HR:=Hi Ag;have HB:=Hi hb;clear Ag hb Oy;go_wp2;go_ret;exact⟨_,_,rfl,HR,HB⟩
end
section
open Af
theorem aAA:∀ (n:Nat) (l:List T),l.length≤n→l.length % 2=1→ungroup l=none:=by
 intro n
 induction n with
 |zero=>intro l hn h;omega
 |succ n ih=>
  intro l hn h
  match l,h with
  |[_],_=>rfl
  |[] :: _ :: _,_=>rfl
  |(b :: k) :: d :: l,h=>
   simp only[ungroup];split
   ·rw[ih l (by simp at hn;omega) (by simp at h;omega)];rfl
   ·rfl
theorem ano{l R:List T}{cs:List Am}{b:UInt8}{n d:T}(h:ungroup l=(ungroup ((b :: n) :: d :: R)).map (cs++ ·))(hb:b.toNat≤1)(hm:Am.may ⟨n,d,b == 1⟩=true):ungroup l=(ungroup R).map ((cs++[⟨n,d,b == 1⟩])++ ·):=by
 rw[h];simp only[ungroup];rw[Ac ⟨hb,hm⟩,Option.map_map]
 congr 1
 funext q
 simp
theorem ad6{l R:List T}{cs:List Am}{b:UInt8}{n d:T}(h:ungroup l=(ungroup ((b :: n) :: d :: R)).map (cs++ ·))(hb:¬ (b.toNat≤1∧Am.may ⟨n,d,b == 1⟩=true)):ungroup l=none:=by
 rw[h];simp only[ungroup];rw[Aa hb];rfl
theorem aAz{l R:List T}{cs:List Am}{d:T}(h:ungroup l=(ungroup ([] :: d :: R)).map (cs++ ·)):ungroup l=none:=by
 rw[h];rfl
@[irreducible] def Li (l:List Am):List Value:=l.flatMap fun c=>[.string (bs c.name),.string (bs c.data),.bool c.gone]
theorem oo:Li []=[]:=by unfold Li;rfl
theorem ou(l:List Am)(c:Am):Li (l++[c])=Li l++[.string (bs c.name),.string (bs c.data),.bool c.gone]:=by unfold Li;simp
theorem aqn(l:List Am)(k:Nat)(hk:k < l.length)(j:Nat)(hj:j < 3):(Li l)[k*3+j]?=([.string (bs l[k].name),.string (bs l[k].data),.bool l[k].gone]:List Value)[j]? :=by
 unfold Li
 induction l generalizing k with
 |nil=>simp at hk
 |cons c l ih=>
  rw[Q0];cases k with
  |zero=>
   rw[Nat.zero_mul,GJ,List.getElem?_append_left (by simp;omega)];rfl
  |succ k=>
   rw[List.getElem?_append_right (by simp;omega),show(k+1)*3+j -([Value.string (bs c.name),.string (bs c.data),.bool c.gone]:List Value).length=k*3+j by simp;omega];exact ih k (by simpa using hk)
theorem Ew.D9{w:World}{base:Nat}{q:Option Addr}{c:Nat}{l:List Am}(h:w.ownsRow base 57 3 (.slice q l.length c) l.length (Li l)):Ew w q l:=fun i hi=>by
 rcases h.2 with⟨e1,e2⟩|⟨g,cap,cur,e1,_⟩
 ·omega
 ·have e2:q=some ⟨g,0,none⟩:=by injection e1
  subst e2;have hc:∀ j,j < 3→∀ v,([.string (bs l[i].name),.string (bs l[i].data),.bool l[i].gone]:List Value)[j]?=some v→w.cell? (((⟨g,0,none⟩:Addr).add (i*3)).add j)=some v:=fun j hj v hv=>by
   rw[←aqn l i hi j hj] at hv;have:=h.cells (g:=g) rfl _ _ hv;rw[add_plain] at this ⊢;rw[Vs];exact this
  exact⟨_,rfl,hc 0 (by omega) _ rfl,hc 1 (by omega) _ rfl,hc 2 (by omega) _ rfl⟩
theorem ow:(prog.info? 57).map (fun i=>(i.zero,i.size,i.bytes))=some (some (.agg #[.string ByteArray.empty,.string ByteArray.empty,.bool false]),3,40):=by kernel_rfl
def WV(w:World)(l:List T)(e:Ending)(w':World):Prop:=
 match ungroup l with
 |none=>e=.returned (.tuple #[.slice none 0 0,.bool false])∧Bw w w'
 |some cs=>∃ q c,e=.returned (.tuple #[.slice q cs.length c,.bool true])∧w'.ownsRow w.heap.size 57 3 (.slice q cs.length c) cs.length (Li cs)∧Bw w w'
theorem lV{w w':World}{l:List T}{e:Ending}(h:ungroup l=none)(he:e=.returned (.tuple #[.slice none 0 0,.bool false]))(hb:Bw w w'):WV w l e w':=by
 unfold WV;rw[h];exact⟨he,hb⟩
theorem aAy{w w':World}{l:List T}{e:Ending}{cs:List Am}{q:Option Addr}{c:Nat}(h:ungroup l=some cs)(he:e=.returned (.tuple #[.slice q cs.length c,.bool true]))(ho:w'.ownsRow w.heap.size 57 3 (.slice q cs.length c) cs.length (Li cs))(hb:Bw w w'):WV w l e w':=by
 unfold WV;rw[h];exact⟨q,c,he,ho,hb⟩
theorem zC{w:World}{a:Option Addr}{cap:Nat}{l:List T}(hL:Dv w a l)(hlen:l.length≤1000000)(hok:∀ s∈l,s.length≤1000000000):
  Calls prog 82 #[.slice a l.length cap] w fun e w'=>WV w l e w':=by
 have HL:=Hi hL;have ME:=Hi hok;clear hL hok;by_cases QC:l.length % 2=1
 ·have HN:=Hi (aAA _ l (Ae _) QC);have h1:(l.length:Int) % 2=1:=by omega
  clear QC
  go_in
  go_wp2;go_ret2;exact lV HN rfl (Ah _ _)
 ·obtain⟨n,hn⟩:∃ n,l.length=2*n:=⟨l.length / 2,by omega⟩;have h1:(l.length:Int) % 2=0:=by omega
  clear QC;obtain⟨i0,Bg,AX,AY,Ba⟩:=DI ow;have gZ:=Hi hn;clear hn
  go_in
  go_wp2_with fail;clear h1
  go_loopw [2,4] (fun s i wr=>∃ (k:Nat) (cs:List Am) (q:Option Addr) (c:Nat),k≤n∧cs.length=k∧i=.int .i64 (2*(k:Int))∧s=.slice q cs.length c∧wr.ownsRow w.heap.size 57 3 (.slice q cs.length c) cs.length (Li cs)∧Bw w wr∧ungroup l=(ungroup (l.drop (2*k))).map (cs++ ·)) (fun _ i _=>l.length -(intOf i).toNat)
  case atStart=>exact⟨0,[],none,0,AZ _,rfl,rfl,rfl,by rw[oo];exact E5 _ _ _ _,Ah _ _,by rw[List.drop_zero];cases ungroup l<;>rfl⟩
  case round=>
   obtain⟨k,cs,q,c,hk,BJ,rfl,rfl,Ag,hb,H8⟩:=hrel;by_cases hlt:k < n
   ·have dH:=gZ.out;have EX:2*k < l.length:=(by omega);have K9:2*k+1 < l.length:=(by omega);obtain⟨p,hp,PR⟩:=HL (2*k) EX;obtain⟨p',MU,Lu⟩:=HL (2*k+1) K9;obtain rfl:p=p':=(by rw[hp] at MU;exact Gu MU);have hd:l.drop (2*k)=l[2*k] :: l[2*k+1] :: l.drop (2*(k+1)):=by
     rw[QY EX,QY K9];rfl
    rw[hd] at H8;clear hd;have auF:∀ W,(Instr.indexAt 61 (.slice (some p) l.length cap) (.int .i64 (2*(k:Int)))).run prog W=.ok (.pointer (some (p.add (2*k)))) W:=fun W=>by
     have:=IM prog 61 9 underlying61 1 (by kernel_rfl) p l.length cap (2*k) EX W;rw[Nat.mul_one,show((2*k:Nat):Int)=2*(k:Int) by omega] at this;exact this
    have qV:∀ W,(Instr.indexAt 61 (.slice (some p) l.length cap) (.int .i64 (2*(k:Int)+1))).run prog W=.ok (.pointer (some (p.add (2*k+1)))) W:=fun W=>by
     have:=IM prog 61 9 underlying61 1 (by kernel_rfl) p l.length cap (2*k+1) K9 W;rw[Nat.mul_one,show((2*k+1:Nat):Int)=2*(k:Int)+1 by omega] at this;exact this
    have DL:=ME _ (Dc EX);have Dj:=ME _ (Dc K9);subst hp;have rR:=(hb.cell (D7 PR)).trans PR;have rT:=(hb.cell (D7 Lu)).trans Lu;have ajr:∀ o,(wr.alloc o).cell? (p.add (2*k))=some (.string (bs l[2*k])):=fun o=>(((Ah _ wr).alloc (Ae _) o).cell (D7 rR)).trans rR
    have ajs:∀ o,(wr.alloc o).cell? (p.add (2*k+1))=some (.string (bs l[2*k+1])):=fun o=>(((Ah _ wr).alloc (Ae _) o).cell (D7 rT)).trans rT
    have HR:=Hi Ag;have HB:=Hi hb;have EL:=Hi BJ;have rW:=hb.size;clear HL;generalize p.add (2*k)=q1 at*;generalize p.add (2*k+1)=q2 at*;generalize l[2*k]=s1 at*;generalize l[2*k+1]=s2 at*;obtain⟨R,hR⟩:=ex (l.drop (2*(k+1)));rw[hR] at H8;have Pf:=Hi hR;clear hR;clear Ag hb PR Lu MU BJ;cases s1 with
    |nil=>
     have HN:=Hi (aAz H8);clear H8 dH;go_wp2;go_ret2;exact lV HN rfl HB.out
    |cons b nm=>
     by_cases Ai:b.toNat≤1
     ·rcases(show b=0∨b=1 by
       have h1:=UInt8.toNat_lt b;rcases(show b.toNat=0∨b.toNat=1 by omega) with h|h
       ·exact .inl (UInt8.toNat_inj.1 h)
       ·exact .inr (UInt8.toNat_inj.1 h)) with rfl|rfl
      all_goals clear Ai dH
      ·have Xn:∀ W,(Instr.slice 9 (.string (bs (0 :: nm))) (some (.int .i64 1)) none none).run prog W=.ok (.string (bs nm)) W:=fun W=>Mk prog W 9 underlying9 (0 :: nm) 1 (by simp)
       have EB:nm.length≤1000000000:=(by simp at DL;omega);have Yx:=Hi EB;have YM:=Hi H8;have e0:(0:Nat) < (0 :: nm).length:=(by simp);clear H8 DL;go_wp2;go_region;all_goals
        have CL:=Hi (show Bw wr (wr.alloc (.cells #[.string (bs nm),.string (bs s2),.bool false] 57)).drew from((Ah _ _).alloc (Ae _) _).drew);have d0:((wr.alloc (.cells #[.string (bs nm),.string (bs s2),.bool false] 57)).drew).cell? ⟨wr.heap.size,0,none⟩=some (.string (bs nm)):=(by simp);have d1:((wr.alloc (.cells #[.string (bs nm),.string (bs s2),.bool false] 57)).drew).cell? ⟨wr.heap.size,1,none⟩=some (.string (bs s2)):=(by simp);have d2:((wr.alloc (.cells #[.string (bs nm),.string (bs s2),.bool false] 57)).drew).cell? ⟨wr.heap.size,2,none⟩=some (.bool false):=(by simp);have xD:=Hi (show((wr.alloc (.cells #[.string (bs nm),.string (bs s2),.bool false] 57)).drew).heap.size=wr.heap.size+1 by simp);clear rR ajr rT ajs;generalize (wr.alloc (.cells #[.string (bs nm),.string (bs s2),.bool false] 57)).drew=W1 at*;go_wp2_with fail;refine(pq nm s2 false _ (by have:=Yx.out;unfold maxLen;omega) (by unfold maxLen;omega)).mono ?_;rintro e w2⟨rfl,Ad⟩;have RA:wr.heap.size < W1.heap.size:=(by have:=xD.out;omega);have f0:=(Ad.cell (p:=⟨wr.heap.size,0,none⟩) RA).trans d0;have f1:=(Ad.cell (p:=⟨wr.heap.size,1,none⟩) RA).trans d1;have f2:=(Ad.cell (p:=⟨wr.heap.size,2,none⟩) RA).trans d2;have Ak:=bH CL Ad;clear d0 d1 d2 Ad RA;obtain⟨mv,EA⟩:=ex (Am.may ⟨nm,s2,false⟩);have Rc:=Hi EA;rw[EA];clear EA;cases mv with
        |false=>
         have HN:=Hi (ad6 YM (fun h=>by have h2:=h.2;rw[show((0:UInt8) == 1)=false from rfl,Rc.out] at h2;cases h2));go_wp2;go_ret2;exact lV HN rfl (bT HB Ak)
        |true=>
         have HY:=Hi (ano YM (by decide) (by rw[show((0:UInt8) == 1)=false from rfl];exact Rc.out));have Tn:=Ak.size;have hwz:w.heap.size≤w2.heap.size:=Ay rW Tn;have ahT:cs.length≤1000000:=(by have:=EL.out;omega);have BU:=Hi (BH HR (ub Ak) (fun _ _ f=>f));go_wp2_with (at_builtin;refine wpList_append_own_at _ rfl _ _ 32 rfl w.heap.size 57 i0 _ 3 40 underlying32 Bg AX AY Ba rfl (by decide) _ cs.length _ rfl (BU.alloc _) ⟨w2.heap.size,0,none⟩ 1 1 [.string (bs nm),.string (bs s2),.bool false] rfl rfl (by intro j u hj;rw[add_plain,E8];exact(Dx▸hj)) (by simp[Value.oneCell']) (by unfold maxLen;omega) (by omega) (by simp;omega) ?_;intro v' w1 Ck AJ _ hat;obtain⟨g',cap',rfl⟩:=ownsRow_succ Ck;have HO:=Hi Ck;have HG:=Hi AJ;clear Ck AJ hat);go_roundw
         case rel=>
           refine⟨k+1,cs++[⟨nm,s2,false⟩],_,_,by omega,by rw[Az,EL.out];rfl,by go_num,by rw[Az];rfl,?_,?_,by rw[Pf.out];exact HY.out⟩
           ·rw[Az,ou];exact HO.out
           ·exact((bT HB Ak).alloc hwz _).grown HG (by simp;omega) (fun j hj=>by
             have Lm:(Value.slice q cs.length c).ownBlock=some j:=hj;rcases HR.2 with⟨e1,_⟩|⟨g,c2,cur,e1,Mc,_⟩
             ·rw[e1] at Lm;simp[Value.ownBlock] at Lm
             ·rw[e1] at Lm;simp[Value.ownBlock] at Lm;omega)
         case measure=>simp[intOf];omega
      ·have Xn:∀ W,(Instr.slice 9 (.string (bs (1 :: nm))) (some (.int .i64 1)) none none).run prog W=.ok (.string (bs nm)) W:=fun W=>Mk prog W 9 underlying9 (1 :: nm) 1 (by simp)
       have EB:nm.length≤1000000000:=(by simp at DL;omega);have Yx:=Hi EB;have YM:=Hi H8;have e0:(0:Nat) < (1 :: nm).length:=(by simp);clear H8 DL;go_wp2;go_region;all_goals
        have CL:=Hi (show Bw wr (wr.alloc (.cells #[.string (bs nm),.string (bs s2),.bool true] 57)).drew from((Ah _ _).alloc (Ae _) _).drew);have d0:((wr.alloc (.cells #[.string (bs nm),.string (bs s2),.bool true] 57)).drew).cell? ⟨wr.heap.size,0,none⟩=some (.string (bs nm)):=(by simp);have d1:((wr.alloc (.cells #[.string (bs nm),.string (bs s2),.bool true] 57)).drew).cell? ⟨wr.heap.size,1,none⟩=some (.string (bs s2)):=(by simp);have d2:((wr.alloc (.cells #[.string (bs nm),.string (bs s2),.bool true] 57)).drew).cell? ⟨wr.heap.size,2,none⟩=some (.bool true):=(by simp);have xD:=Hi (show((wr.alloc (.cells #[.string (bs nm),.string (bs s2),.bool true] 57)).drew).heap.size=wr.heap.size+1 by simp);clear rR ajr rT ajs;generalize (wr.alloc (.cells #[.string (bs nm),.string (bs s2),.bool true] 57)).drew=W1 at*;go_wp2_with fail;refine(pq nm s2 true _ (by have:=Yx.out;unfold maxLen;omega) (by unfold maxLen;omega)).mono ?_;rintro e w2⟨rfl,Ad⟩;have RA:wr.heap.size < W1.heap.size:=(by have:=xD.out;omega);have f0:=(Ad.cell (p:=⟨wr.heap.size,0,none⟩) RA).trans d0;have f1:=(Ad.cell (p:=⟨wr.heap.size,1,none⟩) RA).trans d1;have f2:=(Ad.cell (p:=⟨wr.heap.size,2,none⟩) RA).trans d2;have Ak:=bH CL Ad;clear d0 d1 d2 Ad RA;obtain⟨mv,EA⟩:=ex (Am.may ⟨nm,s2,true⟩);have Rc:=Hi EA;rw[EA];clear EA;cases mv with
        |false=>
         have HN:=Hi (ad6 YM (fun h=>by have h2:=h.2;rw[show((1:UInt8) == 1)=true from rfl,Rc.out] at h2;cases h2));go_wp2;go_ret2;exact lV HN rfl (bT HB Ak)
        |true=>
         have HY:=Hi (ano YM (by decide) (by rw[show((1:UInt8) == 1)=true from rfl];exact Rc.out));have Tn:=Ak.size;have hwz:w.heap.size≤w2.heap.size:=Ay rW Tn;have ahT:cs.length≤1000000:=(by have:=EL.out;omega);have BU:=Hi (BH HR (ub Ak) (fun _ _ f=>f));go_wp2_with (at_builtin;refine wpList_append_own_at _ rfl _ _ 32 rfl w.heap.size 57 i0 _ 3 40 underlying32 Bg AX AY Ba rfl (by decide) _ cs.length _ rfl (BU.alloc _) ⟨w2.heap.size,0,none⟩ 1 1 [.string (bs nm),.string (bs s2),.bool true] rfl rfl (by intro j u hj;rw[add_plain,E8];exact(Dx▸hj)) (by simp[Value.oneCell']) (by unfold maxLen;omega) (by omega) (by simp;omega) ?_;intro v' w1 Ck AJ _ hat;obtain⟨g',cap',rfl⟩:=ownsRow_succ Ck;have HO:=Hi Ck;have HG:=Hi AJ;clear Ck AJ hat);go_roundw
         case rel=>
           refine⟨k+1,cs++[⟨nm,s2,true⟩],_,_,by omega,by rw[Az,EL.out];rfl,by go_num,by rw[Az];rfl,?_,?_,by rw[Pf.out];exact HY.out⟩
           ·rw[Az,ou];exact HO.out
           ·exact((bT HB Ak).alloc hwz _).grown HG (by simp;omega) (fun j hj=>by
             have Lm:(Value.slice q cs.length c).ownBlock=some j:=hj;rcases HR.2 with⟨e1,_⟩|⟨g,c2,cur,e1,Mc,_⟩
             ·rw[e1] at Lm;simp[Value.ownBlock] at Lm
             ·rw[e1] at Lm;simp[Value.ownBlock] at Lm;omega)
         case measure=>simp[intOf];omega
     ·have HN:=Hi (ad6 H8 (fun h=>Ai h.1));have hbi:(1:Int) < (b.toNat:Int):=(by omega);clear H8 dH Ai;go_wp2;go_ret2;exact lV HN rfl HB.out
   ·obtain rfl:k=n:=(by omega);have dH:=gZ.out;rw[List.drop_of_length_le (by omega)] at H8;have YM:=Hi (show ungroup l=some cs by rw[H8];simp[ungroup]);have HR:=Hi Ag;have HB:=Hi hb;clear Ag hb H8;go_wp2;go_ret2;exact aAy YM rfl HR HB.out
end
section
open Go.Sort
open Af
theorem aco{F:M}{k v:T}(h:∀ p∈F,p.1 < k):put k v F=F++[(k,v)]:=by
 unfold put;rw[filter_all (fun p hp=>by simpa using h p hp),filter_none (fun p hp=>by simpa using List.not_lt.1 (QQ (h p hp)))]
def QM(F:M):Option T:=F.getLast?.map (·.1)
theorem akg(F:M)(k v:T):QM (F++[(k,v)])=some k:=by unfold QM;simp
theorem aAI{F:M}(h:Up F){x:T}(hx:QM F=some x):∀ p∈F,p.1=x∨p.1 < x:=by
 unfold QM at hx;obtain⟨q,hq,rfl⟩:=Sc.1 hx;obtain⟨G,rfl⟩:=List.getLast?_eq_some_iff.1 hq;intro p hp;rcases EG.1 hp with hp|hp
 ·exact .inr ((List.pairwise_append.1 h).2.2 p hp q (by simp))
 ·rw[FC] at hp;subst hp;exact .inl rfl
theorem ada{F:M}(h:Up F){k:T}(hn:TA (QM F) k=true):∀ p∈F,p.1 < k:=by
 intro p hp;cases hl:QM F with
 |none=>
  unfold QM at hl;rw[Option.map_eq_none_iff,List.getLast?_eq_none_iff] at hl;subst hl;simp at hp
 |some x=>
  rw[hl] at hn;have hx:x < k:=by simpa[TA] using hn
  rcases aAI h hl p hp with e|e
  ·rw[e];exact hx
  ·exact XW e hx
theorem aAJ{F:M}(h:Up F){k v:T}(hn:∀ p∈F,p.1 < k):Up (F++[(k,v)]):=List.pairwise_append.2 ⟨h,Sb _ _,fun a ha b hb=>by rw[FC] at hb;subst hb;exact hn a ha⟩
structure Reading(n:Nat)(s:T)(j:Nat)(F:M)(S:T):Prop where
 up:Up F
 len:F.length=j
 rest:S.length+8*j≤s.length
 eq:JO n none s=(JO (n -j) (QM F) S).map fun r=>(F++r.1,r.2)
theorem Reading.start(n:Nat)(s:T):Reading n s 0 [] s:=⟨Up.nil,rfl,by omega,by rw[Nat.sub_zero];show _=(JO n none s).map _;cases JO n none s<;>rfl⟩
section
variable {n j:Nat}{s S:T}{F:M}
theorem Reading.aA2(h:Reading n s j F S)(hj:j < n)(hc:cut S=none):JO n none s=none:=by
 rw[h.eq,show n -j=(n -j -1)+1 by omega];simp only[JO,hc];rfl
theorem Reading.aA3(h:Reading n s j F S)(hj:j < n){a r:T}(hc:cut S=some (a,r))(hd:cut r=none):JO n none s=none:=by
 rw[h.eq,show n -j=(n -j -1)+1 by omega];simp only[JO,hc,CF,hd];rfl
theorem Reading.an3(h:Reading n s j F S)(hj:j < n){a r d r2:T}(hc:cut S=some (a,r))(hd:cut r=some (d,r2))(hm:¬ (Fq a d=true∧TA (QM F) a=true)):JO n none s=none:=by
 rw[h.eq,show n -j=(n -j -1)+1 by omega];simp only[JO,hc,CF,hd];rw[Aa hm];rfl
theorem Reading.step(h:Reading n s j F S)(hj:j < n){a r d r2:T}(hc:cut S=some (a,r))(hd:cut r=some (d,r2))(h1:Fq a d=true)(h2:TA (QM F) a=true):Reading n s (j+1) (put a d F) r2:=by
 have hlt:=ada h.up h2;rw[aco hlt];refine⟨aAJ h.up hlt,by rw[Az,h.len];rfl,?_,?_⟩
 ·have a1:=Vw hc;have a2:=Vw hd;have a3:=h.rest;omega
 ·rw[h.eq,show n -j=(n -j -1)+1 by omega];simp only[JO,hc,CF,hd];rw[Ac ⟨h1,h2⟩,akg,Option.map_map,show n -(j+1)=n -j -1 by omega]
  congr 1
  funext q
  simp
theorem Reading.done(h:Reading n s n F S):JO n none s=some (F,S):=by
 rw[h.eq,Nat.sub_self];simp[JO]
end
def aZ(w:World)(s:T)(e:Ending)(w':World):Prop:=
 match Af.read s with
 |none=>(∃ o,e=.returned (.tuple #[.map o,.bool false]))∧Bw w w'
 |some F=>∃ m,e=.returned (.tuple #[.map (some m),.bool true])∧CG w' m F∧Bw w w'∧w.heap.size≤m
theorem eU{w w':World}{s:T}{e:Ending}{o:Option Nat}(h:Af.read s=none)(he:e=.returned (.tuple #[.map o,.bool false]))(hb:Bw w w'):aZ w s e w':=by
 unfold aZ;rw[h];exact⟨⟨o,he⟩,hb⟩
theorem ayr{w w':World}{s:T}{F:M}{e:Ending}{m:Nat}(h:Af.read s=some F)(he:e=.returned (.tuple #[.map (some m),.bool true]))(hm:CG w' m F)(hb:Bw w w')(hn:w.heap.size≤m):aZ w s e w':=by
 unfold aZ;rw[h];exact⟨m,he,hm,hb,hn⟩
theorem ala{w:World}{base e s:Nat}{v:Value}{n:Nat}{xs:List Value}(h:w.ownsRow base e s v n xs){g:Nat}(hg:v.ownBlock=some g):base≤g:=by
 rcases h.2 with⟨rfl,_⟩|⟨g',cap,cur,rfl,hb,_⟩
 ·simp[Value.ownBlock] at hg
 ·simp[Value.ownBlock] at hg;omega
theorem alY{w w':World}{m base n:Nat}{F:M}{v:Value}{xs:List Value}{t:TypeId}{o:Obj}(hm:CG (w.alloc o) m F)(hr:w.ownsRow base t 1 v n xs)(hg:(w.alloc o).grownBy w' v.ownBlock):CG w' m F:=
 hm.kept (hg.block m hm.lt (fun e=>by
  have hb:=(CB hr e.symm).upd (ub ((Ah w.heap.size w).alloc (Ae _) o)) (fun f=>f);exact hm.Dp hb))
theorem asb(s:T)(w:World)(hs:s.length≤1000000):
  Calls prog 162 #[.string (bs s)] w fun e w'=>aZ w s e w':=by
 by_cases h0:s.length < 4
 ·have HN:Hid (Af.read s=none):=Hi (by unfold Af.read;rw[Ac h0])
  go_in
  go_wp2;go_ret2;exact eU HN rfl (Ah _ _)
 ·have Md:∀ W,(Instr.slice 9 (.string (bs s)) none (some (.int .i64 4)) none).run prog W=.ok (.string (bs (s.take 4))) W:=fun W=>O1 prog W 9 underlying9 s 4 (by omega)
  have Xn:∀ W,(Instr.slice 9 (.string (bs s)) (some (.int .i64 4)) none none).run prog W=.ok (.string (bs (s.drop 4))) W:=fun W=>Mk prog W 9 underlying9 s 4 (by omega)
  have KQ:(s.take 4).length=4:=by rw[Be];omega
  have hv:=A9.Jb (s.take 4);rw[KQ] at hv;have La:=Hi (fun(W:World)=>X9 (s.take 4) W (by omega) (by omega));have hRD:Af.read s=(JO (A9.val (s.take 4)) none (s.drop 4)).bind fun r=>if r.2=[] then some r.1 else none:=by unfold Af.read;rw[Aa h0]
  generalize A9.val (s.take 4)=v at*;have abp:v < 4294967296:=hv;obtain⟨S0,ji⟩:=ex (s.drop 4);rw[ji] at Xn hRD;have Ic:=Hi hRD;have MH:=Hi (show S0.length≤1000000 by rw[←ji,Cs];omega);clear KQ hv hRD ji;have VN:=@run_makeMap prog;have Bb:Bw w ((w.alloc (.map #[] 0)).alloc (.cells #[] 9)):=((Ah _ _).alloc (Ae _) _).alloc (by simp) _;have Xf:CG ((w.alloc (.map #[] 0)).alloc (.cells #[] 9)) w.heap.size []:=(CG.made w).below ((Ah _ _).alloc (Ae _) _);have YY:((w.alloc (.map #[] 0)).alloc (.cells #[] 9)).ownsRow w.heap.size 9 1 (.slice (some ⟨w.heap.size+1,0,none⟩) 0 0) 0 []:=
   ⟨rfl,.inr ⟨w.heap.size+1,0,#[],rfl,by omega,by have:=AP (w.alloc (.map #[] 0)) (.cells #[] 9);rwa[Ar] at this,Ae _,AZ _,rfl,rfl⟩⟩
  have AR:=Hi Bb;have mZ:=Hi Xf;have YB:=Hi YY;clear Bb Xf YY
  go_in
  go_wp2_with fail;refine(La _).mono ?_;rintro e w1⟨rfl,rfl⟩;go_wp2
  go_loopw [0,7,26] (fun s0 lv i wr=>∃ (j:Nat) (F:M) (S:T) (q:Option Addr) (c:Nat),j≤v∧s0=.string (bs S)∧lv=.slice q F.length c∧i=.int .u64 j∧Reading v S0 j F S∧CG wr w.heap.size F∧wr.ownsRow w.heap.size 9 1 (.slice q F.length c) F.length (strCells (F.map (·.1)))∧Bw w wr) (fun _ _ i _=>v -(intOf i).toNat)
  case atStart=>exact⟨0,[],S0,_,_,AZ _,rfl,rfl,rfl,Reading.start _ _,mZ,by rw[Kq,lK];exact YB.out,AR⟩
  case round=>
   obtain⟨j,F,S,q,c,hjv,rfl,rfl,rfl,KU,hm,Ag,hb⟩:=hrel;have Px:S.length≤1000000:=(by have:=KU.rest;have:=MH.out;omega);have hjb:8*j≤1000000:=(by have:=KU.rest;have:=MH.out;omega);have Vh:=Hi KU;have HM:=Hi hm;have HR:=Hi Ag;have HB:=Hi hb;have Xd:=KU.len;have Qd:=Hi Xd;clear KU hm Ag hb mZ YB AR Xd VN;by_cases hj:j < v
   ·cases hc:cut S with
    |none=>
     have HN:Hid (Af.read s=none):=Hi (by rw[Ic.out,Vh.aA2 hj hc];rfl);have Bh:=Hi hc;clear hc;go_wp2_with fail;refine(ag4 Bh _ (by omega)).mono ?_;rintro e w2⟨rfl,rfl⟩;go_wp2;go_ret2;exact eU HN rfl HB.out
    |some ar=>
     obtain⟨a,r⟩:=ar;have BJ:=Vw hc;have Bh:=Hi hc;clear hc;cases hd:cut r with
     |none=>
      have HN:Hid (Af.read s=none):=Hi (by rw[Ic.out,Vh.aA3 hj Bh hd];rfl);have Kz:=Hi hd;clear hd;go_wp2_with fail;refine(oQ Bh _ (by omega)).mono ?_;rintro e w2⟨rfl,Ad⟩;have Ak:=bH HB Ad;clear Ad;go_wp2_with fail;refine(ag4 Kz _ (by omega)).mono ?_;rintro e w3⟨rfl,rfl⟩;go_wp2;go_ret2;exact eU HN rfl Ak.out
     |some dr=>
      obtain⟨d,r2⟩:=dr;have MP:=Vw hd;have Kz:=Hi hd;clear hd;go_wp2_with fail;refine(oQ Bh _ (by omega)).mono ?_;rintro e w2⟨rfl,Ad⟩;have Ak:=Hi Ad;clear Ad;go_wp2_with fail;refine(oQ Kz _ (by omega)).mono ?_;rintro e w3⟨rfl,Aw⟩;have AA:=bH Ak Aw;clear Aw Ak;go_wp2_with fail;refine(pq a d false _ (by unfold maxLen;omega) (by unfold maxLen;omega)).mono ?_;rw[show Am.may ⟨a,d,false⟩=Fq a d by unfold Am.may;simp];rintro e w4⟨rfl,AB⟩;have AU:=bH AA AB;clear AB AA;cases EA:Fq a d with
      |false=>
       have HN:Hid (Af.read s=none):=Hi (by rw[Ic.out,Vh.an3 hj Bh Kz (fun h=>by rw[EA] at h;cases h.1)];rfl);clear EA;go_wp2;go_ret2;exact eU HN rfl (bT HB AU)
      |true=>
       have Rc:=Hi EA;have Rt:a.length≤32:=(by unfold Fq at EA;simp at EA;exact EA.2.1);have Vf:=Hi (HM.below AU);have Le:=Hi (BH HR (ub AU) (fun _ _ f=>f));clear EA;rcases List.eq_nil_or_concat F with hF|⟨G,⟨x,y⟩,hF⟩
       ·subst hF;have Lr:TA (QM ([]:M)) a=true:=rfl;have Ej:=Hi (Vh.step hj Bh Kz Rc Lr);have G7:=Hi (aco (v:=d) (ada Vh.up Lr));have avl:=HB.size;have abg:=AU.size;have hFb:([]:M).length≤1000000:=(by have:=Qd.out;omega);have wR:=Hi (Vf.below ((Ah w4.heap.size w4).alloc (Ae _) (.cells #[.string (bs a)] 9)));clear Lr;obtain⟨i0,Bg,AX,AY,Ba⟩:=DI RX;go_wp2_with (at_builtin;refine wpList_append_own_at _ rfl _ _ 61 rfl w.heap.size 9 i0 _ 1 16 underlying61 Bg AX AY Ba rfl (by decide) _ ([]:M).length _ rfl (Le.alloc _) ⟨w4.heap.size,0,none⟩ 1 1 [.string (bs a)] rfl rfl (cell_one_new _ _ _) (by simp[Value.oneCell']) (by unfold maxLen;omega) (by omega) (by simp;omega) ?_;intro v' w5 Ck AJ _ hat;obtain⟨g',cap',rfl⟩:=ownsRow_succ Ck;have FT:=Hi (alY wR Le AJ);obtain⟨w6,Gq,Eu,Dk⟩:=FT.update a d (by unfold maxLen;omega) (by unfold maxLen;omega);have HO:=Hi Ck;have HG:=Hi AJ;have Ri:=Hi Eu;have M5:=Hi Dk;clear Ck AJ hat Eu Dk);have hne:∀ k,(Value.slice (some ⟨g',0,none⟩) (([]:M).length+1) cap').ownBlock=some k→¬ k=w.heap.size:=fun k hk e=>by
         subst e;exact FT.Dp (CB HO hk)
        have Kc:=BH HO (A7.of_grownBy (F:=fun k=>k=w.heap.size) M5 (fun k e=>by cases e;rfl)) hne;have Cb:Bw w w6:=((HB.trans ((AU.alloc AU.size _).mono HB.size)).grown HG (by simp;omega) (fun j hj=>ala Le (show(Value.slice q ([]:M).length c).ownBlock=some j from hj))).grown M5 (by have:=HG.size;simp at this;omega) (fun j hj=>by cases hj;exact Ae _);go_roundw
        case rel=>
         refine⟨j+1,_,_,_,_,by omega,rfl,by rw[G7.out,Az];rfl,by simp,Ej,Ri,?_,Cb⟩;rw[G7.out,Az,D6]
         show World.ownsRow _ _ _ _ _ (([]:M).length+1) (strCells (([]:M).map (·.1)++[a]))
         rw[RV];exact Kc
        case measure=>simp[intOf];omega
       ·subst hF;obtain⟨g,rfl⟩:∃ g,q=some ⟨g,0,none⟩:=by
         rcases HR.2 with⟨e1,e2⟩|⟨g,cap,_,e1,_⟩
         ·simp at e2
         ·exact⟨g,by injection e1⟩
        have FW:w4.cell? ⟨g,G.length,none⟩=some (.string (bs x)):=by
         have:=Le.cells (g:=g) rfl G.length (.string (bs x)) (by rw[List.concat_eq_append,D6,Ce,Kq,RV,List.getElem?_append_right (by rw[strCells_length];simp),strCells_length];simp);rw[add_plain] at this;exact this
        have bN:(G.concat (x,y)).length=G.length+1:=(by simp);have Cx:∀ W,(Instr.indexAt 61 (.slice (some ⟨g,0,none⟩) (G.length+1) c) (.int .i64 (G.length:Int))).run prog W=.ok (.pointer (some ⟨g,G.length,none⟩)) W:=fun W=>by
         have:=IM prog 61 9 underlying61 1 (by kernel_rfl) ⟨g,0,none⟩ (G.length+1) c G.length (by omega) W;rw[Nat.mul_one,add_plain] at this;exact this
        have hGb:G.length+1≤1000000:=(by have:=Qd.out;rw[bN] at this;omega);have dA:QM (G.concat (x,y))=some x:=(by rw[List.concat_eq_append];exact akg G x y);by_cases OI:x < a
        ·have Ct:Op.bytesLess x a=true:=(by rw[bytesLess_eq];simpa using OI);have Lr:TA (QM (G.concat (x,y))) a=true:=(by rw[dA];simpa[TA] using OI);clear OI dA;have Ej:=Hi (Vh.step hj Bh Kz Rc Lr);have G7:=Hi (aco (v:=d) (ada Vh.up Lr));have avl:=HB.size;have abg:=AU.size;have hFb:(G.concat (x,y)).length≤1000000:=(by have:=Qd.out;omega);have wR:=Hi (Vf.below ((Ah w4.heap.size w4).alloc (Ae _) (.cells #[.string (bs a)] 9)));clear Lr;obtain⟨i0,Bg,AX,AY,Ba⟩:=DI RX;have M3:Hid (w4.ownsRow w.heap.size 9 1 (.slice (some ⟨g,0,none⟩) (G.length+1) c) (G.length+1) (strCells ((G.concat (x,y)).map (·.1)))):=Hi (by rw[←bN];exact Le.out);go_wp2_with (at_builtin;refine wpList_append_own_at _ rfl _ _ 61 rfl w.heap.size 9 i0 _ 1 16 underlying61 Bg AX AY Ba rfl (by decide) _ (G.length+1) _ rfl (M3.alloc _) ⟨w4.heap.size,0,none⟩ 1 1 [.string (bs a)] rfl rfl (cell_one_new _ _ _) (by simp[Value.oneCell']) (by unfold maxLen;omega) (by omega) (by simp;omega) ?_;intro v' w5 Ck AJ _ hat;obtain⟨g',cap',rfl⟩:=ownsRow_succ Ck;have FT:=Hi (alY wR M3 AJ);obtain⟨w6,Gq,Eu,Dk⟩:=FT.update a d (by unfold maxLen;omega) (by unfold maxLen;omega);have HO:=Hi Ck;have HG:=Hi AJ;have Ri:=Hi Eu;have M5:=Hi Dk;clear Ck AJ hat Eu Dk);have hne:∀ k,(Value.slice (some ⟨g',0,none⟩) (G.length+1+1) cap').ownBlock=some k→¬ k=w.heap.size:=fun k hk e=>by
          subst e;exact FT.Dp (CB HO hk)
         have Kc:=BH HO (A7.of_grownBy (F:=fun k=>k=w.heap.size) M5 (fun k e=>by cases e;rfl)) hne;have Cb:Bw w w6:=((HB.trans ((AU.alloc AU.size _).mono HB.size)).grown HG (by simp;omega) (fun j hj=>ala M3 (show(Value.slice (some ⟨g,0,none⟩) (G.length+1) c).ownBlock=some j from hj))).grown M5 (by have:=HG.size;simp at this;omega) (fun j hj=>by cases hj;exact Ae _);go_roundw
         case rel=>
          refine⟨j+1,_,_,_,_,by omega,rfl,by rw[G7.out,Az,bN];rfl,by simp,Ej,Ri,?_,Cb⟩;rw[G7.out,Az,bN,D6]
          show World.ownsRow _ _ _ _ _ (G.length+1+1) (strCells ((G.concat (x,y)).map (·.1)++[a]))
          rw[RV];exact Kc
         case measure=>simp[intOf];omega
        ·have Ct:Op.bytesLess x a=false:=by rw[bytesLess_eq];simpa using OI
         have HN:Hid (Af.read s=none):=Hi (by
          rw[Ic.out,Vh.an3 hj Bh Kz (fun h=>by have h2:=h.2;rw[dA] at h2;exact OI (by simpa[TA] using h2))];rfl)
         clear OI dA;go_wp2;go_ret2;exact eU HN rfl (bT HB AU)
   ·obtain rfl:j=v:=(by omega);have Ru:=Vh.done;cases S with
    |nil=>
     have HF:Hid (Af.read s=some F):=Hi (by rw[Ic.out,Ru];rfl);clear Ru;go_wp2;go_ret2;exact ayr HF rfl HM HB (Ae _)
    |cons u S=>
     have HN:Hid (Af.read s=none):=Hi (by rw[Ic.out,Ru];rfl);clear Ru;go_wp2;go_ret2;exact eU HN rfl HB.out
end
section
open Go.Sort
open Af
def Kj(log size AL b:Nat)(mv:Option Nat)(xv:Option Addr):Array Value:=#[.pointer (some ⟨b,0,none⟩),.int .i64 (log:Int),.int .i64 (size:Int),.int .i64 (AL:Int),.map mv,.pointer xv,.int .i64 0]
theorem Kk{w:World}{y log size AL b:Nat}{mv:Option Nat}{xv:Option Addr}(h:w.heap[y]?=some (.cells (Kj log size AL b mv xv) 116)):
  w.cell? ⟨y,0,none⟩=some (.pointer (some ⟨b,0,none⟩))∧w.cell? ⟨y,1,none⟩=some (.int .i64 (log:Int))∧w.cell? ⟨y,2,none⟩=some (.int .i64 (size:Int))∧w.cell? ⟨y,3,none⟩=some (.int .i64 (AL:Int))∧
  w.cell? ⟨y,4,none⟩=some (.map mv)∧w.cell? ⟨y,5,none⟩=some (.pointer xv)∧w.cell? ⟨y,6,none⟩=some (.int .i64 0)∧∀ j,w.frozen? ⟨y,j,none⟩=false:=by
 refine⟨?_,?_,?_,?_,?_,?_,?_,fun j=>Cu w y j _ _ h⟩<;>rw[BF w y _ _ _ _ h]<;>rfl
def xR(w:World)(y log size b a num:Nat)(A:M)(e:Ending)(w':World):Prop:=
 ∃ mb,e=.returned (.tuple #[.int .u64 (num:Int),.int .i64 0])∧w'.heap[y]?=some (.cells (Kj log size a b (some mb) none) 116)∧CG w' mb A∧A7 (fun k=>k=y) w w'∧w.heap.size≤mb
theorem arV{w:World}{y log size b:Nat}{D:A8}{fp:Nat→Prop}(hd:BI w b D fp)(hy:w.heap[y]?=some (.cells (Kj log size 0 b none none) 116))(DY:D.down=false)(h0:D.now 0=Aq.pad [0]):
  Calls prog 78 #[.pointer (some ⟨y,0,none⟩)] w fun e w'=>xR w y log size b 0 0 [] e w':=by
 have abz:=Ao hy;have PI:=hd.fine;obtain⟨c0,_⟩:=Kk hy;obtain⟨m,lv,hI,_⟩:=hd;have Ic:=Hi (uh hI 0 1 DY (by simp[A8.inside];have:=PI.n1;omega));have e1:A8.text D.now 0 1=Aq.pad [0]:=by show D.now 0++[]=_;rw[h0,En]
 rw[e1] at Ic;have HY:=Hi hy;have VN:=@run_makeMap prog;have AX:({ data:=#[0] }:ByteArray)=bs [0]:=rfl;clear hI hy PI h0 e1
 go_in
 go_wp2_with fail;refine Ic.mono ?_;rintro e w1⟨rfl,hb⟩;have U7:=Hi ((hb.block y abz).trans HY);obtain⟨_,_,_,_,d4,_,_,df⟩:=Kk U7.out;have oJ:=df 4;have N7:=Ao U7.out;have HB:=Hi hb;clear hb df;go_wp2_with fail;have Mi:(w1.setCell ⟨y,4,none⟩ (.map (some w1.heap.size))).heap.size=w1.heap.size:=by simp[World.setCell]
 have MX:=Cf w1 y 4 _ _ (.map (some w1.heap.size)) U7.out;have XK:A7 (fun k=>k=y) w (w1.setCell ⟨y,4,none⟩ (.map (some w1.heap.size))):=(A7.of_below (F:=fun k=>k=y) HB).setCell (p:=⟨y,4,none⟩) (.inl rfl) _;have RB:=CG.made (w1.setCell ⟨y,4,none⟩ (.map (some w1.heap.size)));rw[Mi] at RB;have aJ:=Hi RB;have BQ:=Hi (((Ah _ (w1.setCell ⟨y,4,none⟩ (.map (some w1.heap.size)))).alloc (Ae _) (.map #[] 0)).block y (by rw[Mi];exact N7) |>.trans MX);have MI:=Hi (XK.alloc (.map #[] 0));clear RB MX XK d4 oJ Mi;refine(pF [0] _ (by simp)).mono ?_;rintro e w2⟨rfl,Ad⟩;have Ak:=Hi Ad;clear Ad;go_wp2;go_ret2;refine⟨w1.heap.size,rfl,(Ak.block y (by simp;omega)).trans BQ,aJ.below Ak,MI.trans (A7.of_below (F:=fun k=>k=y) Ak) (fun i hi=>.inl hi),HB.size⟩
theorem arU{w:World}{y log size b:Nat}{D:A8}{fp:Nat→Prop}(hd:BI w b D fp)(hy:w.heap[y]?=some (.cells (Kj log size 0 b none none) 116))(DY:D.down=false){a num:Nat}{A:M}{t r:T}(ha:a≤1)(rD:num < 18446744073709551616)(h0:D.now 0=Af.mark a num)
  (jT:log≤16384)(JJ:size≤8192)(Jk:CS log size a+size≤D.n)(hcut:cut (A8.text D.now (CS log size a) size)=some (t,r))(ab5:Af.read t=some A):
  Calls prog 78 #[.pointer (some ⟨y,0,none⟩)] w fun e w'=>xR w y log size b a num A e w':=by
 have abz:=Ao hy;have PI:=hd.fine;obtain⟨c0,_⟩:=Kk hy;have Ky:=Hi hd;obtain⟨m,lv,hI,_⟩:=hd;have Ic:=Hi (uh hI 0 1 DY (by simp[A8.inside];have:=PI.n1;omega));have e1:A8.text D.now 0 1=Af.mark a num:=by show D.now 0++[]=_;rw[h0,En]
 rw[e1] at Ic;have HY:=Hi hy;have VN:=@run_makeMap prog;have AX:({ data:=#[0] }:ByteArray)=bs [0]:=rfl;have FX:=Af.NY a num;have hm4:=Af.akD a num ha;have hmn:=Af.akE a num rD;have hne:(Af.mark a num == Aq.pad [0])=false:=by simpa using Af.sM a num
 have aua:∀ W,(Instr.slice 9 (.string (bs (Af.mark a num))) (some (.int .i64 5)) (some (.int .i64 13)) none).run prog W=.ok (.string (bs (((Af.mark a num).take 13).drop 5))) W:=fun W=>Y4 prog W 9 underlying9 (Af.mark a num) 5 13 (by omega) (by omega)
 have h5l:(((Af.mark a num).take 13).drop 5).length=8:=by rw[Cs,Be];omega
 have La:=Hi (fun(W:World)=>X9 (((Af.mark a num).take 13).drop 5) W (by omega) (by omega));rw[hmn] at La;have Jm:∀ W,(Instr.index 9 (.string (bs (Af.mark a num))) (.int .i64 4)).run prog W=.ok (.int .u8 (a:Int)) W:=fun W=>by
  have h4:4 < (Af.mark a num).length:=by omega
  have e4:(Af.mark a num)[4].toNat=a:=by
   have:=hm4.2;rwa[Ir,Ei h4,Option.getD_some] at this
  rw[run_index_string W 9 (bs (Af.mark a num)) .i64 4 underlying9,dif_pos ⟨by omega,by simp;omega⟩]
  show Result.ok (Value.int .u8 (((Af.mark a num)[4]'h4).toNat:Nat)) W=_
  rw[e4]
 have U0:=Hi (fun(W:World)=>agl a num W ha rD);have hab:(a:Int)≤1:=by omega
 have HN:=Hi rD;have wQ:=Hi FX;have Sk:=Hi hcut;have Pf:=Hi ab5;generalize Af.mark a num=F0 at*;generalize ((F0.take 13).drop 5)=F5 at*;have aiC:D.inside (CS log size a) size=true:=by simp[A8.inside];omega
 have Re:=Hi (fun(V:World) (h:BI V b D fp)=>(by obtain⟨m2,lv2,hI2,_⟩:=h;exact uh hI2 (CS log size a) size DY aiC:Calls prog 159 #[.pointer (some ⟨b,0,none⟩),.int .i64 ((CS log size a:Nat):Int),.int .i64 (size:Int)] V fun e w'=>e=.returned (.tuple #[.string (bs (A8.text D.now (CS log size a) size)),.int .i64 0])∧Bw V w'));have NU:(A8.text D.now (CS log size a) size).length≤524288:=by rw[A8.lN PI.now _ _ Jk];omega
 have mM:=Hi (fun(V:World)=>oQ hcut V (by omega));have ap4:=Hi (fun(V:World)=>(by have:=asb t V (by have:=Vw hcut;omega);unfold aZ at this;rw[ab5] at this;exact this:Calls prog 162 #[.string (bs t)] V fun e w'=>∃ m,e=.returned (.tuple #[.map (some m),.bool true])∧CG w' m A∧Bw V w'∧V.heap.size≤m));clear NU aiC;clear hI hy PI h0 e1 hm4 hmn h5l hcut ab5 rD FX
 go_in
 go_wp2_with fail;refine Ic.mono ?_;rintro e w1⟨rfl,hb⟩;have U7:=Hi ((hb.block y abz).trans HY);obtain⟨_,_,_,_,d4,_,_,df⟩:=Kk U7.out;have oJ:=df 4;have N7:=Ao U7.out;have HB:=Hi hb;clear hb df;go_wp2_with fail;have Mi:(w1.setCell ⟨y,4,none⟩ (.map (some w1.heap.size))).heap.size=w1.heap.size:=by simp[World.setCell]
 have MX:=Cf w1 y 4 _ _ (.map (some w1.heap.size)) U7.out;have XK:A7 (fun k=>k=y) w (w1.setCell ⟨y,4,none⟩ (.map (some w1.heap.size))):=(A7.of_below (F:=fun k=>k=y) HB).setCell (p:=⟨y,4,none⟩) (.inl rfl) _;have BQ:=Hi (show _=some (.cells (Kj log size 0 b (some w1.heap.size) none) 116) from((Ah _ (w1.setCell ⟨y,4,none⟩ (.map (some w1.heap.size)))).alloc (Ae _) (.map #[] 0)).block y (by rw[Mi];exact N7) |>.trans MX);have MI:=Hi (XK.alloc (.map #[] 0));have PS:((w1.setCell ⟨y,4,none⟩ (.map (some w1.heap.size))).alloc (.map #[] 0)).heap.size=w1.heap.size+1:=by rw[Ar,Mi]
 have apb:=Hi PS;clear MX XK d4 oJ Mi PS;refine(pF [0] _ (by simp)).mono ?_;rintro e w2⟨rfl,Ad⟩;have U8:=Hi ((Ad.block y (by rw[apb.out];omega)).trans BQ);have Ri:=Hi (MI.trans (A7.of_below (F:=fun k=>k=y) Ad) (fun i hi=>.inl hi));clear Ad BQ MI;obtain⟨_,_,_,d3,_,_,_,df⟩:=Kk U8.out;have bA:=df 3;clear df;go_wp2_with fail;have QH:=Cf w2 y 3 _ _ (.int .i64 (a:Int)) U8.out;have Dk:A7 (fun k=>k=y) w (w2.setCell ⟨y,3,none⟩ (.int .i64 (a:Int))):=Ri.setCell (p:=⟨y,3,none⟩) (.inl rfl) _;have Rm:=Hi (show _=some (Obj.cells (Kj log size a b (some w1.heap.size) none) 116) from QH);have M5:=Hi Dk;clear QH Dk bA d3 U8 Ri;generalize w2.setCell ⟨y,3,none⟩ (.int .i64 (a:Int))=w3 at*;refine(La _).mono ?_;rintro e w3'⟨rfl,rfl⟩;obtain⟨_,_,_,d3,_⟩:=Kk Rm.out;go_wp2_with fail;refine(U0 _).mono ?_;rintro e w4⟨rfl,AB⟩;have Qk:=Hi ((AB.block y (Ao Rm)).trans Rm);have U4:=Hi (M5.trans (A7.of_below (F:=fun k=>k=y) AB) (fun i hi=>.inl hi));have V5:=Hi (Ky.upd U4 (fun k hk e=>by subst e;exact Ky.Dp k hk (t:=116) (by decide) (by decide) ⟨_,_,HY⟩));have U9:=Hi (show w4.drew.heap[y]?=_ from Qk.out);have Kz:=Hi (V5.below (Ah w4.heap.size w4).drew);have HUD:=Hi (U4.trans (A7.of_below (F:=fun k=>k=y) (Ah w4.heap.size w4).drew) (fun i hi=>.inl hi))
 have KS:=Hi (fun(V:World) (h:V.heap[y]?=some (Obj.cells (Kj log size a b (some w1.heap.size) none) 116))=>(⟨(Kk h).1,(Kk h).2.1,(Kk h).2.2.1,(Kk h).2.2.2.1⟩:V.cell? ⟨y,0,none⟩=some (.pointer (some ⟨b,0,none⟩))∧V.cell? ⟨y,1,none⟩=some (.int .i64 (log:Int))∧V.cell? ⟨y,2,none⟩=some (.int .i64 (size:Int))∧V.cell? ⟨y,3,none⟩=some (.int .i64 (a:Int))));obtain⟨d0,d1,d2,d3⟩:=KS _ Qk.out;clear AB M5 Rm;go_wp2
 go_region_held3 (fun V=>V.cell? ⟨y,0,none⟩=some (.pointer (some ⟨b,0,none⟩))∧V.cell? ⟨y,1,none⟩=some (.int .i64 (log:Int))∧V.cell? ⟨y,2,none⟩=some (.int .i64 (size:Int))∧V.cell? ⟨y,3,none⟩=some (.int .i64 (a:Int)))
  (first|exact KS _ U9|exact KS _ IA|exact KS _ Oh)
  (first
   |(go_at_call 138;refine(ag0 _ log size a _ (by omega) (by omega) ha).mono ?_;rintro e w5 ⟨rfl,Bo⟩;have IA:=Hi ((Bo.block y (Ao U9)).trans U9);have HD5:=Hi (Kz.below Bo);have WO:=Hi (HUD.trans (A7.of_below (F:=fun k=>k=y) Bo) (fun i hi=>.inl hi));clear Bo)
   |(go_at_call 159;refine(Re _ HD5).mono ?_;rintro e w6 ⟨rfl,Cb⟩;have Oh:=Hi ((Cb.block y (Ao IA)).trans IA);have KG:=Hi (WO.trans (A7.of_below (F:=fun k=>k=y) Cb) (fun i hi=>.inl hi));clear Cb))
 clear d0 d1 d2 d3 U9 Kz HUD V5 Qk U4 HD5 IA WO KS;go_wp2_with fail;refine(mM _).mono ?_;rintro e w7⟨rfl,EW⟩;have xO:=Hi ((EW.block y (Ao Oh)).trans Oh);have aP:=Hi (KG.trans (A7.of_below (F:=fun k=>k=y) EW) (fun i hi=>.inl hi));clear EW Oh KG;go_wp2_with fail;refine(ap4 _).mono ?_;rintro e w8⟨mb,rfl,VM,Ji,hn8⟩;have xP:=Hi ((Ji.block y (Ao xO)).trans xO);have iy:=Hi (aP.trans (A7.of_below (F:=fun k=>k=y) Ji) (fun i hi=>.inl hi));have TW:=Hi VM;have HN8:=Hi (show w.heap.size≤mb from Ay aP.size hn8);clear Ji xO aP VM hn8;obtain⟨_,_,_,_,d4,_,_,df⟩:=Kk xP.out;have oJ:=df 4;clear df;go_wp2;go_ret2;refine⟨mb,rfl,Cf w8 y 4 _ _ _ xP,TW.upd (A7.setCell (F:=fun k=>k=y) (A7.refl _ _) (p:=⟨y,4,none⟩) (.inl rfl) _) ?_,iy.setCell (p:=⟨y,4,none⟩) (.inl rfl) _,HN8.out⟩;intro e;subst e;exact TW.Dp ⟨_,_,xP⟩
end
section
open Aq
def Wt(W:World)(b:Nat)(D:A8)(fp:Nat→Prop)(f:A8→A8×Int)(e:Ending)(W':World):Prop:=
 e=.returned (.int .i64 (f D).2)∧∃ fp',BI W' b (f D).1 fp'∧A7 fp W W'∧Di fp fp' W
structure adC(K:World→Prop)(b:Nat)(v:Value)(f:A8→A8×Int):Prop where
 more:∀ D,(f D).1.loose.length≤D.loose.length+1000000
 fn:∃ F recv JC,v=.func (.func F) recv JC∧(∀ args w,(callFunc F args).run prog w=.ok (.enter F args) w)∧
  ∀ W D fp,K W→BI W b D fp→D.loose.length≤500000000→Calls prog F (recv++JC) W (Wt W b D fp f)
structure vB(K:World→Prop)(b:Nat)(vs:List Value)(fs:List (A8→A8×Int)):Prop where
 len:vs.length=fs.length
 each:∀ i (h:i < vs.length) (h':i < fs.length),adC K b vs[i] fs[i]
theorem BI.kindOf{w:World}{b:Nat}{D:A8}{fp:Nat→Prop}(h:BI w b D fp){k:Nat}(hk:fp k){t:TypeId}(hb:Bf w k t):t=144∨t=242:=by
 obtain⟨m,lv,hI,rfl⟩:=h;obtain⟨cs,fr,hb⟩:=hb;rcases hk with rfl|rfl|hk
 ·rw[hI.struct] at hb;injection hb with hb
  injection hb with _ hb _
  exact .inl hb.symm
 ·obtain⟨kv,⟨_,D',⟨es,clock,hm,_⟩,_⟩,_⟩:=hI.base;rw[hm] at hb;injection hb with hb
  cases hb
 ·rcases hI.loose.2 with⟨e1,_⟩|⟨g,cap,cur,e1,_,hg,_⟩
  ·subst e1;simp[Value.ownBlock] at hk
  ·subst e1;simp[Value.ownBlock] at hk;subst hk;rw[hg] at hb;injection hb with hb
   injection hb with _ hb _
   exact .inr hb.symm
theorem aqZ{fs:List (A8→A8×Int)}(h:fs=[])(E:A8):Bt fs E=(E,0):=by subst h;rfl
theorem ax6(a b c k:Nat)(h1:a≤b+1000000)(h2:b≤c+1000000*k):a≤c+1000000*(k+1):=by
 rw[Nat.mul_succ,←Nat.add_assoc];generalize 1000000*k=m at*;omega
def vk(w:World)(x b:Nat)(gv:Value)(L:Bz)(fp:Nat→Prop)(r:A8×Int)(e:Ending)(w':World):Prop:=
 e=.returned (.int .i64 r.2)∧∃ fp',BI w' b r.1 fp'∧Cj w' x b gv (if r.2=0 then L else L.fell r.2)∧A7 (fun k=>fp k∨k=x) w w'∧Di fp fp' w
theorem Cj.uB{w:World}{x b:Nat}{gv:Value}{L:Bz}(h:Cj w x b gv L)(k:Int):Cj (w.setCell ⟨x,6,none⟩ (.int .i64 k)) x b gv (L.fell k):=by
 have hu:A7 (fun i=>i=x) w (w.setCell ⟨x,6,none⟩ (.int .i64 k)):=(A7.refl (fun i=>i=x) w).setCell (p:=⟨x,6,none⟩) (.inl rfl) _;refine⟨Cf w x 6 _ _ _ h.struct,h.groups.upd hu (fun i hi e=>by subst e;exact Bf.ne hi ⟨_,_,h.struct⟩ (by decide) rfl) (fun g hg e=>h.ne (by rw[hg,e])),h.gen,h.used,h.n⟩
theorem Cj.apart{w:World}{x b:Nat}{gv:Value}{L:Bz}(h:Cj w x b gv L){b':Nat}{D:A8}{fp:Nat→Prop}(hd:BI w b' D fp):¬ fp x:=fun hk=>by
 have:=hd.kindOf hk ⟨_,_,h.struct⟩
 revert this;decide
theorem afT{w:World}{x b g n cap:Nat}{gv:Value}{L:Bz}{D:A8}{fp:Nat→Prop}{K:World→Prop}{vs:List Value}{fs:List (A8→A8×Int)}
  (hd:BI w b D fp)(hl:Cj w x b gv L)(hK:K w)(hKs:∀ W W' D fp,K W→BI W b D fp→A7 fp W W'→K W')(hf:vB K b vs fs)(hv:∀ i u,vs[i]?=some u→w.cell? ⟨g,i,none⟩=some u)(hg:Bf w g 129)(hn:vs.length=n)(dF:n≤5)(Hw:D.loose.length≤400000000):
  Calls prog 148 #[.pointer (some ⟨x,0,none⟩),.slice (some ⟨g,0,none⟩) n cap] w fun e w'=>vk w x b gv L fp (Bt fs D) e w':=by
 have HD:=Hi hd;have HL:=Hi hl;have HK:=Hi hK;have Ld:=Hi hKs;have HF:=Hi hf;have HV:=Hi hv;have HG:=Hi hg;have HN:=Hi hn;clear hd hl hK hKs hf hv hg hn
 go_in
 go_wp2
 go_loopw [10] (fun i wr=>∃ (k:Nat) (E:A8) (fe:Nat→Prop),k≤n∧i=.int .i64 k∧BI wr b E fe∧K wr∧A7 fp w wr∧Di fp fe w∧E.loose.length≤D.loose.length+1000000*k∧Bt fs D=Bt (fs.drop k) E) (fun i _=>n -(intOf i).toNat)
 case atStart=>exact⟨0,D,fp,AZ _,rfl,HD,HK,A7.refl _ _,fun _ h=>.inl h,by omega,by rw[List.drop_zero]⟩
 case round=>
  obtain⟨k,E,fe,hk,rfl,hE,hKr,hU,hS,Xc,PH⟩:=hrel;have HE:=Hi hE;have Lc:=Hi hKr;have HU:=Hi hU;have HS:=Hi hS;have Qc:=Hi PH;clear hE hKr hU hS PH;by_cases hlt:k < n
  ·have MR:k < vs.length:=(by rw[HN.out];exact hlt);have Zj:k < fs.length:=(by rw[←HF.len];exact MR);obtain⟨aiX,F,recv,JC,hv,NL,K7⟩:=HF.each k MR Zj;have bY:=HV k _ (Ei MR);have hc:wr.cell? ⟨g,k,none⟩=some (.func (.func F) recv JC):=by
    rw[←hv,←bY];exact HU.cell (p:=⟨g,k,none⟩) HG.lt (fun hk=>by have:=HD.kindOf hk HG.out;revert this;decide)
   have Bl:Bt (fs.drop k) E=if(fs[k] E).2=0 then Bt (fs.drop (k+1)) (fs[k] E).1 else fs[k] E:=by
    rw[QY Zj,bB]
   have FX:=aiX E;have BJ:=K7 wr E fe Lc HE (by omega);generalize fs[k]=f at*;have EL:=Hi BJ;have Bi:=Hi Bl;clear bY hv K7 aiX BJ Bl MR Zj;go_wp2_with fail;refine EL.mono ?_;rintro e w1⟨rfl,zo,SY,Gq,PR⟩;have Qb:=Hi SY;have Yt:=Hi (Ld _ _ _ _ Lc HE Gq);have MI:=Hi (HU.trans Gq HS)
   have BQ:=Hi (show Di fp zo w from fun i hi=>by
    rcases PR i hi with h|h
    ·exact HS i h
    ·exact .inr (Ay HU.size h))
   clear SY Gq PR hc;generalize f E=r at*;obtain⟨E1,e1⟩:=r;by_cases h0:e1=0
   ·subst h0;have Sl:=Hi (show Bt fs D=Bt (fs.drop (k+1)) E1 by rw[Qc.out,Bi.out];rfl);have Zp:E1.loose.length≤E.loose.length+1000000:=FX;have OB:=ax6 _ _ _ _ Zp Xc;have aoT:=Hi OB;clear FX OB;go_wp2;go_roundw
    case rel=>exact⟨k+1,E1,zo,by omega,by go_num,Qb,Yt,MI,BQ,aoT,Sl⟩
    case measure=>simp[intOf];omega
   ·have Bb:(e1 == 0)=false:=(by simp[h0]);have Ai:(e1 != 0)=true:=(by simp[h0]);have Sl:=Hi (show Bt fs D=(E1,e1) by rw[Qc.out,Bi.out,Aa h0]);have FR:=Hi (HL.disk HD MI);have H0:=Hi h0;obtain⟨c0,c1,c2,c3,c4,c5,c6,cf⟩:=FR.cells;have cf6:=cf 6;clear h0 FX cf;go_wp2;go_ret;unfold vk;rw[Sl.out];refine⟨rfl,zo,Qb.upd (F:=fun i=>i=x) ((A7.refl (fun i=>i=x) w1).setCell (p:=⟨x,6,none⟩) (.inl rfl) _) (fun i hi e=>FR.apart Qb (by rw[←e];exact hi)),?_,(MI.mono (fun i hi=>.inl hi)).setCell (p:=⟨x,6,none⟩) (.inl (.inr rfl)) _,BQ.out⟩;rw[Aa (by exact H0.out)];exact FR.uB e1
  ·obtain rfl:k=n:=(by omega);have IE:fs.drop k=[]:=List.drop_eq_nil_of_le (by rw[←HF.len,HN.out];exact Ae _);have Sl:=Hi (Qc.trans (aqZ IE E));have FR:=Hi (HL.disk HD HU);clear IE;go_wp2;go_ret;unfold vk;rw[Sl.out];exact⟨rfl,fe,HE,by rw[Ac rfl];exact FR.out,HU.mono (fun i hi=>.inl hi),HS.out⟩
end
section
open Aq
theorem Ii{w:World}{k:Nat}{v:Value}{t:TypeId}(h:w.heap[k]?=some (.cells #[v] t)):w.cell? ⟨k,0,none⟩=some v:=by rw[BF w _ _ _ _ _ h];rfl
theorem ad2(g:Nat):IntKind.u64.wrap ((g:Int)+1)=(((g+1) % 18446744073709551616:Nat):Int):=by
 simp[IntKind.wrap,IntKind.bits,IntKind.signed]
structure Q7(W:World)(x b:Nat)(gv:Value)(L:Bz)(c0 s0 k0:Nat)(s:List UInt8)(k:Nat):Prop where
 DZ:Cj W x b gv L
 box:W.heap[c0]?=some (.cells #[.pointer (some ⟨x,0,none⟩)] 114)
 txt:W.heap[s0]?=some (.cells #[.string (bs s)] 9)
 num:W.heap[k0]?=some (.cells #[.int .i64 (k:Int)] 3)
theorem Q7.upd{W W':World}{x b:Nat}{gv:Value}{L:Bz}{c0 s0 k0:Nat}{s:List UInt8}{k:Nat}(h:Q7 W x b gv L c0 s0 k0 s k){b':Nat}{D:A8}{fp:Nat→Prop}(hd:BI W b' D fp)(hu:A7 fp W W'):Q7 W' x b gv L c0 s0 k0 s k:=
 ⟨h.DZ.disk hd hu,(hu.block c0 (Ao h.box) (fun hk=>by have:=hd.kindOf hk ⟨_,_,h.box⟩;revert this;decide)).trans h.box,(hu.block s0 (Ao h.txt) (fun hk=>by have:=hd.kindOf hk ⟨_,_,h.txt⟩;revert this;decide)).trans h.txt,(hu.block k0 (Ao h.num) (fun hk=>by have:=hd.kindOf hk ⟨_,_,h.num⟩;revert this;decide)).trans h.num⟩
theorem Q7.below{W W':World}{x b:Nat}{gv:Value}{L:Bz}{c0 s0 k0:Nat}{s:List UInt8}{k:Nat}(h:Q7 W x b gv L c0 s0 k0 s k)(hb:Bw W W'):Q7 W' x b gv L c0 s0 k0 s k:=
 ⟨h.DZ.below hb,(hb.block c0 (Ao h.box)).trans h.box,(hb.block s0 (Ao h.txt)).trans h.txt,(hb.block k0 (Ao h.num)).trans h.num⟩
theorem Q7.cells{W:World}{x b:Nat}{gv:Value}{L:Bz}{c0 s0 k0:Nat}{s:List UInt8}{k:Nat}(h:Q7 W x b gv L c0 s0 k0 s k):
  W.cell? ⟨c0,0,none⟩=some (.pointer (some ⟨x,0,none⟩))∧W.cell? ⟨s0,0,none⟩=some (.string (bs s))∧W.cell? ⟨k0,0,none⟩=some (.int .i64 (k:Int))∧
  W.cell? ⟨x,0,none⟩=some (.int .u64 (L.gen:Int))∧W.cell? ⟨x,1,none⟩=some (.int .i64 (L.used:Int))∧W.cell? ⟨x,2,none⟩=some (.pointer (some ⟨b,0,none⟩))∧W.cell? ⟨x,3,none⟩=some (.int .i64 (L.from_:Int)):=by
 obtain⟨c0,c1,c2,c3,_⟩:=h.DZ.cells;exact⟨Ii h.box,Ii h.txt,Ii h.num,c0,c1,c2,c3⟩
structure SF(W:World)(x b:Nat)(gv:Value)(L:Bz)(c0:Nat):Prop where
 DZ:Cj W x b gv L
 box:W.heap[c0]?=some (.cells #[.pointer (some ⟨x,0,none⟩)] 114)
theorem SF.of{W:World}{x b:Nat}{gv:Value}{L:Bz}{c0:Nat}(h:Cj W x b gv L)(h2:W.heap[c0]?=some (.cells #[.pointer (some ⟨x,0,none⟩)] 114)):SF W x b gv L c0:=⟨h,h2⟩
theorem SF.upd{W W':World}{x b:Nat}{gv:Value}{L:Bz}{c0:Nat}(h:SF W x b gv L c0){b':Nat}{D:A8}{fp:Nat→Prop}(hd:BI W b' D fp)(hu:A7 fp W W'):SF W' x b gv L c0:=
 ⟨h.DZ.disk hd hu,(hu.block c0 (Ao h.box) (fun hk=>by have:=hd.kindOf hk ⟨_,_,h.box⟩;revert this;decide)).trans h.box⟩
theorem SF.below{W W':World}{x b:Nat}{gv:Value}{L:Bz}{c0:Nat}(h:SF W x b gv L c0)(hb:Bw W W'):SF W' x b gv L c0:=
 ⟨h.DZ.below hb,(hb.block c0 (Ao h.box)).trans h.box⟩
section
variable {W:World}{x b:Nat}{gv:Value}{L:Bz}{c0 s0 k0:Nat}{s:List UInt8}{k:Nat}{D:A8}{fp:Nat→Prop}
theorem yf{f:A8→A8×Int}{e:Ending}{W':World}(he:e=.returned (.int .i64 (f D).2)){fp':Nat→Prop}(hd:BI W' b (f D).1 fp')(hu:A7 fp W W')(hs:Di fp fp' W):Wt W b D fp f e W':=⟨he,fp',hd,hu,hs⟩
theorem aqr(h:Q7 W x b gv L c0 s0 k0 s k)(hd:BI W b D fp)(hs:s.length≤10000000)(hl:D.loose.length≤500000000):
  Calls prog 145 #[.pointer (some ⟨c0,0,none⟩),.pointer (some ⟨s0,0,none⟩)] W (Wt W b D fp (fun D=>D.write ((L.from_+1+L.used:Nat):Int) s)):=by
 have g1:=h.DZ.used;have g2:=h.DZ.n;have HC:=Hi h;have HD:=Hi hd;have ahR:=fun(W':World) (hb:Bw W W')=>(h.below hb).cells
 have aBL:=Hi ahR;have e1:IntKind.i64.wrap ((L.from_:Int)+1)=(L.from_:Int)+1:=Eh _ (by omega);have e2:IntKind.i64.wrap ((L.from_:Int)+1+(L.used:Int))=(L.from_:Int)+1+(L.used:Int):=Eh _ (by omega);have hat:((L.from_+1+L.used:Nat):Int)=(L.from_:Int)+1+(L.used:Int):=by omega
 have hw:=fun(W':World) (hb:Bw W W')=>mg (hd.below hb) ((L.from_:Int)+1+(L.used:Int)) s (by omega) (by omega) (by omega)
 have HW:=Hi hw;have IQ:=Hi hat;obtain⟨d0,d1,d2,d3,d4,d5,d6⟩:=h.cells;clear h hd ahR hw hat;rw[IQ.out]
 go_in
 go_wp2
 go_region_held3 (fun V=>V.cell? ⟨c0,0,none⟩=some (.pointer (some ⟨x,0,none⟩))∧V.cell? ⟨s0,0,none⟩=some (.string (bs s))∧V.cell? ⟨x,1,none⟩=some (.int .i64 (L.used:Int))∧V.cell? ⟨x,2,none⟩=some (.pointer (some ⟨b,0,none⟩))∧V.cell? ⟨x,3,none⟩=some (.int .i64 (L.from_:Int)))
  (first|exact⟨d0,d1,d4,d5,d6⟩|exact⟨KA.cells.1,KA.cells.2.1,KA.cells.2.2.2.2.1,KA.cells.2.2.2.2.2.1,KA.cells.2.2.2.2.2.2⟩)
  (first
   |(go_at_call 137;refine(HW _ ((Ah W.heap.size W).drew)).mono ?_;rintro e wa ⟨rfl,fpa,Qv,Tp,VP⟩;have KA:=Hi ((HC.below ((Ah W.heap.size W).drew)).upd (HD.below ((Ah W.heap.size W).drew)) Tp);have Ky:=Hi (Cr Qv (Cr Tp VP));clear Qv Tp VP))
 go_wp2;go_ret;exact yf rfl Ky.1 ((A7.of_below (F:=fp) ((Ah W.heap.size W).drew)).trans Ky.2.1 (fun _ h=>.inl h)) Ky.2.2
theorem aqo(h:Q7 W x b gv L c0 s0 k0 s k)(hd:BI W b D fp)(hk:k≤1000000)(hl:D.loose.length≤500000000):
  Calls prog 146 #[.pointer (some ⟨c0,0,none⟩),.pointer (some ⟨k0,0,none⟩)] W (Wt W b D fp (fun D=>D.write (L.from_:Int) (Aq.mark L.gen (L.used+k)))):=by
 have g1:=h.DZ.used;have g2:=h.DZ.n;have g3:=h.DZ.gen;have HC:=Hi h;have HD:=Hi hd;have e2:IntKind.i64.wrap ((L.used:Int)+(k:Int))=(L.used:Int)+(k:Int):=Eh _ (by omega);have hm:=fun(W':World)=>kS L.gen (L.used+k) W' g3 (by omega)
 have FX:=Aq.NY L.gen (L.used+k);have hw:=fun(W':World) (hb:Bw W W')=>mg (hd.below hb) (L.from_:Int) (Aq.mark L.gen (L.used+k)) (by omega) (by omega) (by omega)
 have ahP:((L.used+k:Nat):Int)=(L.used:Int)+(k:Int):=by omega
 rw[ahP] at hm;have HM:=Hi hm;have HW:=Hi hw;obtain⟨d0,d1,d2,d3,d4,d5,d6⟩:=h.cells;clear h hd hm hw FX ahP g3
 go_in
 go_wp2
 go_region_held3 (fun V=>V.cell? ⟨c0,0,none⟩=some (.pointer (some ⟨x,0,none⟩))∧V.cell? ⟨k0,0,none⟩=some (.int .i64 (k:Int))∧V.cell? ⟨x,0,none⟩=some (.int .u64 (L.gen:Int))∧V.cell? ⟨x,1,none⟩=some (.int .i64 (L.used:Int))∧V.cell? ⟨x,2,none⟩=some (.pointer (some ⟨b,0,none⟩))∧V.cell? ⟨x,3,none⟩=some (.int .i64 (L.from_:Int)))
  (first|exact⟨d0,d2,d3,d4,d5,d6⟩|exact⟨KM.cells.1,KM.cells.2.2.1,KM.cells.2.2.2.1,KM.cells.2.2.2.2.1,KM.cells.2.2.2.2.2.1,KM.cells.2.2.2.2.2.2⟩|exact⟨KA.cells.1,KA.cells.2.2.1,KA.cells.2.2.2.1,KA.cells.2.2.2.2.1,KA.cells.2.2.2.2.2.1,KA.cells.2.2.2.2.2.2⟩)
  (first
   |(go_at_call 147;refine(HM _).mono ?_;rintro e wm ⟨rfl,VJ⟩;have Si:=Hi (((Ah W.heap.size W).drew).trans VJ);have KM:=Hi (HC.below Si);clear VJ)
   |(go_at_call 137;refine(HW _ Si).mono ?_;rintro e wa ⟨rfl,fpa,Qv,Tp,VP⟩;have KA:=Hi (KM.upd (HD.below Si) Tp);have Ky:=Hi (Cr Qv (Cr Tp VP));clear Qv Tp VP))
 go_wp2;go_ret;refine yf rfl Ky.1 ((A7.of_below (F:=fp) Si).trans Ky.2.1 (fun _ h=>.inl h)) (fun i hi=>?_);rcases Ky.2.2 i hi with h|h
 ·exact .inl h
 ·exact .inr (Ay Si.size h)
theorem aqp(h:SF W x b gv L c0)(hd:BI W b D fp)(hl:D.loose.length≤500000000):
  Calls prog 166 #[.pointer (some ⟨c0,0,none⟩)] W (Wt W b D fp (fun D=>D.write (L.from_:Int) (Aq.mark ((L.gen+1) % 18446744073709551616) 0))):=by
 have g2:=h.DZ.n;have g3:(L.gen+1) % 18446744073709551616 < 18446744073709551616:=Nat.mod_lt _ (by decide);have HC:=Hi h;have HD:=Hi hd;have e2:IntKind.u64.wrap ((L.gen:Int)+1)=(((L.gen+1) % 18446744073709551616:Nat):Int):=ad2 L.gen;have d0:=Ii h.box;obtain⟨d3,_,d5,d6,_⟩:=h.DZ.cells;have HE:=Hi e2;generalize (L.gen+1) % 18446744073709551616=g at*;have hm:=fun(W':World)=>kS g 0 W' g3 (by decide)
 have FX:=Aq.NY g 0;have hw:=fun(W':World) (hb:Bw W W')=>mg (hd.below hb) (L.from_:Int) (Aq.mark g 0) (by omega) (by omega) (by omega)
 have HM:=Hi hm;have HW:=Hi hw;clear h hd hm hw FX g3
 go_in
 go_wp2
 go_region_held3 (fun V=>V.cell? ⟨c0,0,none⟩=some (.pointer (some ⟨x,0,none⟩))∧V.cell? ⟨x,0,none⟩=some (.int .u64 (L.gen:Int))∧V.cell? ⟨x,2,none⟩=some (.pointer (some ⟨b,0,none⟩))∧V.cell? ⟨x,3,none⟩=some (.int .i64 (L.from_:Int)))
  (first|exact⟨d0,d3,d5,d6⟩|exact⟨Ii KM.box,KM.DZ.cells.1,KM.DZ.cells.2.2.1,KM.DZ.cells.2.2.2.1⟩|exact⟨Ii KA.box,KA.DZ.cells.1,KA.DZ.cells.2.2.1,KA.DZ.cells.2.2.2.1⟩)
  (first
   |(go_at_call 147;refine(HM _).mono ?_;rintro e wm ⟨rfl,VJ⟩;have Si:=Hi (((Ah W.heap.size W).drew).trans VJ);have KM:=Hi (HC.below Si);clear VJ)
   |(go_at_call 137;refine(HW _ Si).mono ?_;rintro e wa ⟨rfl,fpa,Qv,Tp,VP⟩;have KA:=Hi (KM.upd (HD.below Si) Tp);have Ky:=Hi (Cr Qv (Cr Tp VP));clear Qv Tp VP))
 go_wp2;go_ret;refine yf rfl Ky.1 ((A7.of_below (F:=fp) Si).trans Ky.2.1 (fun _ h=>.inl h)) (fun i hi=>?_);rcases Ky.2.2 i hi with h|h
 ·exact .inl h
 ·exact .inr (Ay Si.size h)
end
theorem as0{x b:Nat}{gv:Value}{L:Bz}{c0 s0 k0:Nat}{s:List UInt8}(hs:s.length≤10000000):
  vB (fun W=>Q7 W x b gv L c0 s0 k0 s (s.length / 64)) b
   [.func (.func 145) #[] #[.pointer (some ⟨c0,0,none⟩),.pointer (some ⟨s0,0,none⟩)],.func (.func 143) #[.pointer (some ⟨b,0,none⟩)] #[],.func (.func 146) #[] #[.pointer (some ⟨c0,0,none⟩),.pointer (some ⟨k0,0,none⟩)],.func (.func 143) #[.pointer (some ⟨b,0,none⟩)] #[]] (L.acts s):=by
 have IE:adC (fun W=>Q7 W x b gv L c0 s0 k0 s (s.length / 64)) b (.func (.func 143) #[.pointer (some ⟨b,0,none⟩)] #[]) A8.flush:=
  ⟨fun D=>by have:=A8.Uh D;omega,_,_,_,rfl,enters_of func143 (by kernel_rfl) rfl,fun W D fp _ hd hl=>pg hd (by omega)⟩
 refine⟨rfl,fun i h h'=>?_⟩
 match i,h with
 |0,_=>exact⟨fun D=>by have:=A8.TJ D ((L.from_+1+L.used:Nat):Int) s;show(D.write ((L.from_+1+L.used:Nat):Int) s).1.loose.length≤_;omega,_,_,_,rfl,enters_of func145 (by kernel_rfl) rfl,fun W D fp hK hd hl=>aqr hK hd hs hl⟩
 |1,_=>exact IE
 |2,_=>exact⟨fun D=>by have:=A8.TJ D (L.from_:Int) (Aq.mark L.gen (L.used+s.length / 64));rw[Aq.NY] at this;show(D.write (L.from_:Int) (Aq.mark L.gen (L.used+s.length / 64))).1.loose.length≤_;omega,_,_,_,rfl,enters_of func146 (by kernel_rfl) rfl,fun W D fp hK hd hl=>aqo hK hd (by omega) hl⟩
 |3,_=>exact IE
theorem as2{x b:Nat}{gv:Value}{L:Bz}{c0:Nat}:
  vB (fun W=>SF W x b gv L c0) b
   [.func (.func 166) #[] #[.pointer (some ⟨c0,0,none⟩)],.func (.func 143) #[.pointer (some ⟨b,0,none⟩)] #[]] L.LB:=by
 refine⟨rfl,fun i h h'=>?_⟩
 match i,h with
 |0,_=>exact⟨fun D=>by have:=A8.TJ D (L.from_:Int) (Aq.mark ((L.gen+1) % 18446744073709551616) 0);rw[Aq.NY] at this;show(D.write (L.from_:Int) (Aq.mark ((L.gen+1) % 18446744073709551616) 0)).1.loose.length≤_;omega,_,_,_,rfl,enters_of func166 (by kernel_rfl) rfl,fun W D fp hK hd hl=>aqp hK hd hl⟩
 |1,_=>exact⟨fun D=>by have:=A8.Uh D;show D.flush.1.loose.length≤_;omega,_,_,_,rfl,enters_of func143 (by kernel_rfl) rfl,fun W D fp _ hd hl=>pg hd (by omega)⟩
