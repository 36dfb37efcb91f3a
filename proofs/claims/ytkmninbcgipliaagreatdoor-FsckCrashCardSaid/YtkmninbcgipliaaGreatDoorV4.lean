/- FilMade2 FilRead2 WalD WalOps2 -/
import Derived.Test.YtkmninbcgipliaaGreatDoorV3
import Derived.Laws.Cover1
import Derived.Sort.Walk0
import Derived.OrdersHeld
import Derived.RegionTactic
set_option maxHeartbeats 4000000
set_option maxRecDepth 100000
set_option linter.all false
namespace Go.Proofs.YtkmninbcgipliaaGreatDoor
open Tryz
section
open Go.RowKit Go.Maps
open Ag
structure Rn(w:World)(q:Addr)(c:Am):Prop where
 name:w.cell? (q.add 0)=some (.string (bs c.name))
 data:w.cell? (q.add 1)=some (.string (bs c.data))
 gone:w.cell? (q.add 2)=some (.bool c.gone)
theorem Rn.cells{w:World}{q:Addr}{c:Am}(h:Rn w q c):w.cell? q=some (.string (bs c.name))∧w.cell? ⟨q.block,q.off+1,none⟩=some (.string (bs c.data))∧w.cell? ⟨q.block,q.off+2,none⟩=some (.bool c.gone):=by
 have h1:=h.name;rw[add_zero'] at h1;exact⟨h1,h.data,h.gone⟩
def Eb(w:World)(a:Option Addr)(l:List Am):Prop:=∀ i,(h:i < l.length)→∃ p:Addr,a=some p∧Rn w (p.add (i*3)) l[i]
theorem Rn.upd{F:Nat→Prop}{w w':World}{q:Addr}{c:Am}(h:Rn w q c)(hu:A7 F w w')(hF:¬ F q.block):Rn w' q c:=by
 have b:∀ i,(q.add i).block=q.block:=add_block q;have hlt:=Cr h.name;exact⟨(hu.cell hlt (by rw[b];exact hF)).trans h.name,(hu.cell (by rw[b];rw[b] at hlt;exact hlt) (by rw[b];exact hF)).trans h.data,(hu.cell (by rw[b];rw[b] at hlt;exact hlt) (by rw[b];exact hF)).trans h.gone⟩
theorem Eb.upd{F:Nat→Prop}{w w':World}{a:Option Addr}{l:List Am}(h:Eb w a l)(hu:A7 F w w')(hF:∀ p,a=some p→l≠[]→¬ F p.block):Eb w' a l:=fun i hi=>by
 obtain⟨p,hp,h1⟩:=h i hi;exact⟨p,hp,h1.upd hu (by rw[add_block];exact hF p hp (by intro e;rw[e] at hi;simp at hi))⟩
theorem Rn.below{w w':World}{q:Addr}{c:Am}(h:Rn w q c)(hb:Bw w w'):Rn w' q c:=h.upd (ub hb) (fun f=>f)
theorem Eb.below{w w':World}{a:Option Addr}{l:List Am}(h:Eb w a l)(hb:Bw w w'):Eb w' a l:=h.upd (ub hb) (fun _ _ _ f=>f)
theorem Eb.index{w:World}{a:Option Addr}{l:List Am}(h:Eb w a l)(cap k:Nat)(hk:k < l.length):
  ∃ q:Addr,(∀ W,(Instr.indexAt 32 (.slice a l.length cap) (.int .i64 (k:Int))).run prog W=.ok (.pointer (some q)) W)∧Rn w q l[k]∧∃ p:Addr,a=some p∧q.block=p.block:=by
 obtain⟨p,rfl,h1⟩:=h k hk;exact⟨_,fun W=>IB prog _ 57 underlying32 3 (by kernel_rfl) p l.length cap k hk W,h1,p,rfl,add_block _ _⟩
theorem aF{w:World}{p:Addr}{v:Value}(h:w.cell? p=some v){m:Nat}{es:Array MapEntry}{c:Nat}(hm:w.heap[m]?=some (.map es c)):p.block≠m:=by
 intro e;subst e;unfold World.cell? at h;rw[hm] at h;simp at h
theorem ayC(F:M)(c:Am):(Am.on F c).length≤F.length+1:=by
 unfold Am.on;split
 ·unfold del;have:=M8 (fun p:T×T=>!(p.1 == c.name)) F;omega
 ·unfold put;rw[AA,BG];have:(F.filter fun p=>decide (p.1 < c.name)).length+(F.filter fun p=>decide (c.name < p.1)).length≤F.length:=by
   induction F with
   |nil=>simp
   |cons p F ih=>
    by_cases h1:p.1 < c.name
    ·have h2:=R9 h1;rw[Vn (by simpa using h1),Rl (by simpa using h2)];simp only[BG];omega
    ·rw[Rl (by simpa using h1)];have:=M8 (fun q:T×T=>decide (c.name < q.1)) (p :: F);by_cases h2:c.name < p.1
     ·rw[Vn (by simpa using h2)];simp only[BG];omega
     ·rw[Rl (by simpa using h2)];simp only[BG];omega
  omega
theorem acC(F:M)(l:List Am):(made F l).length≤F.length+l.length:=by
 induction l generalizing F with
 |nil=>exact Ae _
 |cons c l ih=>
  have h1:=ih (Am.on F c);have h2:=ayC F c
  show(made (Am.on F c) l).length≤_
  rw[BG];omega
theorem aa2{w:World}{m:Nat}{F:M}{a:Option Addr}{cap:Nat}{l:List Am}(hM:CO w m F)(hL:Eb w a l)(hlen:l.length≤1000000)(hF:F.length≤1000000000000000)(hok:∀ c∈l,c.name.length≤maxLen):
  Calls prog 56 #[.map (some m),.slice a l.length cap] w fun e w'=>e=.returned (.tuple #[])∧CO w' m (made F l)∧A7 (fun k=>k=m) w w':=by
 have HM:=Hi hM;have HL:=Hi hL;have Gv:=Hi hok;clear hM hL hok
 go_in
 go_wp2
 go_loopw [8] (fun i wr=>∃ k:Nat,k≤l.length∧i=.int .i64 k∧CO wr m (made F (l.take k))∧A7 (fun k=>k=m) w wr) (fun i _=>l.length -(intOf i).toNat)
 case atStart=>exact⟨0,AV _,rfl,HM,A7.refl _ _⟩
 case round=>
  obtain⟨k,hk,rfl,hm,hu⟩:=hrel;by_cases hlt:k < l.length
  ·obtain⟨q,Cs,hq,-⟩:=HL.index cap k hlt;obtain⟨es,ck,OD⟩:=HM.is;have DJ:=hq.upd hu (aF (hq.cells).1 OD);have D6:=Gv _ (CQ hlt);have HT:=Hi (show made F (l.take (k+1))=Am.on (made F (l.take k)) l[k] by rw[Cx hlt,ug]);generalize l[k]=c at*;obtain⟨cn,cd,cg⟩:=c;simp only at D6;obtain⟨c0,c1,c2⟩:=DJ.cells;simp only at c0 c1 c2;have EH:=acC F (l.take k);rw[AZ] at EH;have hb:Bw wr (wr.alloc (.cells #[.string (bs cn),.string (bs cd),.bool cg] 57)):=(Ai _ _).alloc (Ae _) _;have LJ:=hm.below hb;have HU:=Hi hu;have HB:=Hi hb;cases cg with
   |true=>
    have hd:=fun ty=>LJ.delete cn D6 ty
    obtain⟨w2,OC,Ms,PO⟩:=hd 0;have Ny:=Hi Ms;have Pj:=Hi PO;clear hq DJ OD hm LJ hu hb EH Ms PO hd;go_wp2;go_roundw
    case rel=>exact⟨k+1,by omega,by go_num,by rw[HT.out];exact Ny.out,(HU.trans (A7.of_below (F:=fun k=>k=m) HB) (fun i hi=>.inl hi)).trans (A7.of_grownBy (F:=fun k=>k=m) Pj (fun k e=>by cases e;rfl)) (fun i hi=>.inl hi)⟩
    case measure=>simp[intOf];omega
   |false=>
    obtain⟨w2,OC,Ms,PO⟩:=LJ.update cn cd D6 (by unfold maxLen;omega);have Ny:=Hi Ms;have Pj:=Hi PO;clear hq DJ OD hm LJ hu hb EH Ms PO;go_wp2;go_roundw
    case rel=>exact⟨k+1,by omega,by go_num,by rw[HT.out];exact Ny.out,(HU.trans (A7.of_below (F:=fun k=>k=m) HB) (fun i hi=>.inl hi)).trans (A7.of_grownBy (F:=fun k=>k=m) Pj (fun k e=>by cases e;rfl)) (fun i hi=>.inl hi)⟩
    case measure=>simp[intOf];omega
  ·obtain rfl:k=l.length:=(by omega);rw[Da] at hm;have bG:=Hi hm;have HU:=Hi hu;clear hm hu;go_wp2_with fail
   go_end0
   exact⟨rfl,bG,HU⟩
theorem ag8(w:World)(x y:Value)(t:TypeId):∀ j u,[x,y][j]?=some u→(w.alloc (.cells #[x,y] t)).cell? ((⟨w.heap.size,0,none⟩:Addr).add j)=some u:=by
 intro j u hj;rw[add_plain,E5]
 match j,hj with
 |0,hj=>simpa using hj
 |1,hj=>simpa using hj
theorem auf(l:List Am)(k:Nat)(h:k < l.length):group (l.take (k+1))=group (l.take k)++[Uy l[k].gone :: l[k].name,l[k].data]:=by
 rw[Cx h,aue]
theorem asQ{w:World}{a:Option Addr}{cap:Nat}{l:List Am}(hL:Eb w a l)(hlen:l.length≤1000000)(hok:∀ c∈l,c.name.length≤1000000):
  Calls prog 59 #[.slice a l.length cap] w fun e w'=>∃ q cap',e=.returned (.slice q (group l).length cap')∧w'.ownsRow w.heap.size 9 1 (.slice q (group l).length cap') (group l).length (strCells (group l))∧Bw w w':=by
 obtain⟨i0,Bl,AY,Ba,Be⟩:=DC TV;have HL:=Hi hL;have Gv:=Hi hok;clear hL hok
 go_in
 go_wp2
 go_loopw [2,8] (fun s i wr=>∃ (k:Nat) (q:Option Addr) (c:Nat),k≤l.length∧i=.int .i64 k∧s=.slice q (2*k) c∧wr.ownsRow w.heap.size 9 1 (.slice q (2*k) c) (2*k) (strCells (group (l.take k)))∧Bw w wr) (fun _ i _=>l.length -(intOf i).toNat)
 case atStart=>exact⟨0,none,0,AV _,rfl,rfl,by rw[Gg];show World.ownsRow _ _ _ _ _ 0 (strCells []);rw[mR];exact DZ _ _ _ _,Ai _ _⟩
 case round=>
  obtain⟨k,q,c,hk,rfl,rfl,Af,hb⟩:=hrel;by_cases hlt:k < l.length
  ·obtain⟨qa,Cs,hq,-⟩:=HL.index cap k hlt;have DJ:=hq.below hb;have D6:=Gv _ (CQ hlt);have HT:=Hi (auf l k hlt);have h0:({ data:=#[0] }:ByteArray)=bs [0]:=rfl;have h1:({ data:=#[1] }:ByteArray)=bs [1]:=rfl;generalize l[k]=x at*;obtain⟨cn,cd,cg⟩:=x;simp only at D6;obtain⟨c0,c1,c2⟩:=DJ.cells;simp only at c0 c1 c2;have BQ:=hb.size;have HR:=Hi Af;have HB:=Hi hb;clear hq DJ Af hb;cases cg with
   |true=>
    go_wp2_with (at_builtin;refine wpList_append_own_at _ rfl _ _ 61 rfl w.heap.size 9 i0 _ 1 16 underlying61 Bl AY Ba Be rfl (by decide) _ (2*k) _ rfl ((HR.alloc _).alloc _) ⟨wr.heap.size+1,0,none⟩ 2 2 [.string (bs (1 :: cn)),.string (bs cd)] rfl rfl (by have h:=ag8 (wr.alloc (.cells #[.string (bs cn),.string (bs cd),.bool true] 57)) (.string (bs (1 :: cn))) (.string (bs cd)) 9;rw[Ay] at h;exact h) (by simp[Value.oneCell']) (by unfold maxLen;omega) (by omega) (by simp;omega) ?_;intro v' w1 Cb AJ _ hat;obtain⟨g',cap',rfl⟩:=ownsRow_succ Cb;have HO:=Hi Cb;have HG:=Hi AJ;clear Cb AJ hat);go_roundw
    case rel=>
     refine⟨k+1,_,_,by omega,by go_num,rfl,?_,?_⟩
     ·rw[HT.out];unfold Uy;have e:strCells (group (l.take k)++[1 :: cn,cd])=strCells (group (l.take k))++[.string (bs (1 :: cn)),.string (bs cd)]:=by
       rw[show group (l.take k)++[1 :: cn,cd]=(group (l.take k)++[1 :: cn])++[cd] by simp,Sn,Sn,Dz];rfl
      exact e▸HO.out
     ·exact((HB.alloc HB.size _).alloc (by simp;omega) _).grown HG (by simp;omega) (fun j hj=>by
       have LG:(Value.slice q (2*k) c).ownBlock=some j:=hj;rcases HR.2 with⟨e1,_⟩|⟨g,c2,cur,e1,Mq,_⟩
       ·rw[e1] at LG;simp[Value.ownBlock] at LG
       ·rw[e1] at LG;simp[Value.ownBlock] at LG;omega)
    case measure=>simp[intOf];omega
   |false=>
    go_wp2_with (at_builtin;refine wpList_append_own_at _ rfl _ _ 61 rfl w.heap.size 9 i0 _ 1 16 underlying61 Bl AY Ba Be rfl (by decide) _ (2*k) _ rfl ((HR.alloc _).alloc _) ⟨wr.heap.size+1,0,none⟩ 2 2 [.string (bs (0 :: cn)),.string (bs cd)] rfl rfl (by have h:=ag8 (wr.alloc (.cells #[.string (bs cn),.string (bs cd),.bool false] 57)) (.string (bs (0 :: cn))) (.string (bs cd)) 9;rw[Ay] at h;exact h) (by simp[Value.oneCell']) (by unfold maxLen;omega) (by omega) (by simp;omega) ?_;intro v' w1 Cb AJ _ hat;obtain⟨g',cap',rfl⟩:=ownsRow_succ Cb;have HO:=Hi Cb;have HG:=Hi AJ;clear Cb AJ hat);go_roundw
    case rel=>
     refine⟨k+1,_,_,by omega,by go_num,rfl,?_,?_⟩
     ·rw[HT.out];unfold Uy;have e:strCells (group (l.take k)++[0 :: cn,cd])=strCells (group (l.take k))++[.string (bs (0 :: cn)),.string (bs cd)]:=by
       rw[show group (l.take k)++[0 :: cn,cd]=(group (l.take k)++[0 :: cn])++[cd] by simp,Sn,Sn,Dz];rfl
      exact e▸HO.out
     ·exact((HB.alloc HB.size _).alloc (by simp;omega) _).grown HG (by simp;omega) (fun j hj=>by
       have LG:(Value.slice q (2*k) c).ownBlock=some j:=hj;rcases HR.2 with⟨e1,_⟩|⟨g,c2,cur,e1,Mq,_⟩
       ·rw[e1] at LG;simp[Value.ownBlock] at LG
       ·rw[e1] at LG;simp[Value.ownBlock] at LG;omega)
    case measure=>simp[intOf];omega
  ·obtain rfl:k=l.length:=(by omega);rw[Da] at Af;have OI:=ahQ l;rw[←OI] at Af ⊢;have HR:=Hi Af;have HB:=Hi hb;clear Af hb OI;go_wp2;go_ret;exact⟨_,_,rfl,HR,HB⟩
end
section
open Go.RowKit Go.Maps
open Ag
theorem aBK:∀ (n:Nat) (l:List T),l.length≤n→l.length % 2=1→ungroup l=none:=by
 intro n
 induction n with
 |zero=>intro l hn h;omega
 |succ n ih=>
  intro l hn h
  match l,h with
  |[_],_=>rfl
  |[] :: _ :: _,_=>rfl
  |(b :: k) :: d :: l,h=>
   simp only[ungroup];split
   ·rw[ih l (by simp at hn;omega) (by simp at h;omega)];rfl
   ·rfl
theorem aof{l R:List T}{cs:List Am}{b:UInt8}{n d:T}(h:ungroup l=(ungroup ((b :: n) :: d :: R)).map (cs++ ·))(hb:b.toNat≤1)(hm:Am.may ⟨n,d,b == 1⟩=true):ungroup l=(ungroup R).map ((cs++[⟨n,d,b == 1⟩])++ ·):=by
 rw[h];simp only[ungroup];rw[Ad ⟨hb,hm⟩,Option.map_map]
 congr 1
 funext q
 simp
theorem adK{l R:List T}{cs:List Am}{b:UInt8}{n d:T}(h:ungroup l=(ungroup ((b :: n) :: d :: R)).map (cs++ ·))(hb:¬ (b.toNat≤1∧Am.may ⟨n,d,b == 1⟩=true)):ungroup l=none:=by
 rw[h];simp only[ungroup];rw[Ab hb];rfl
theorem aBJ{l R:List T}{cs:List Am}{d:T}(h:ungroup l=(ungroup ([] :: d :: R)).map (cs++ ·)):ungroup l=none:=by
 rw[h];rfl
@[irreducible] def LA (l:List Am):List Value:=l.flatMap fun c=>[.string (bs c.name),.string (bs c.data),.bool c.gone]
theorem pO:LA []=[]:=by unfold LA;rfl
theorem pQ(l:List Am)(c:Am):LA (l++[c])=LA l++[.string (bs c.name),.string (bs c.data),.bool c.gone]:=by unfold LA;simp
theorem ars(l:List Am)(k:Nat)(hk:k < l.length)(j:Nat)(hj:j < 3):(LA l)[k*3+j]?=([.string (bs l[k].name),.string (bs l[k].data),.bool l[k].gone]:List Value)[j]? :=by
 unfold LA
 induction l generalizing k with
 |nil=>simp at hk
 |cons c l ih=>
  rw[Qg];cases k with
  |zero=>
   rw[Nat.zero_mul,Ha,List.getElem?_append_left (by simp;omega)];rfl
  |succ k=>
   rw[List.getElem?_append_right (by simp;omega),show(k+1)*3+j -([Value.string (bs c.name),.string (bs c.data),.bool c.gone]:List Value).length=k*3+j by simp;omega];exact ih k (by simpa using hk)
theorem Eb.CX{w:World}{base:Nat}{q:Option Addr}{c:Nat}{l:List Am}(h:w.ownsRow base 57 3 (.slice q l.length c) l.length (LA l)):Eb w q l:=fun i hi=>by
 rcases h.2 with⟨e1,e2⟩|⟨g,cap,cur,e1,_⟩
 ·omega
 ·have e2:q=some ⟨g,0,none⟩:=by injection e1
  subst e2;have hc:∀ j,j < 3→∀ v,([.string (bs l[i].name),.string (bs l[i].data),.bool l[i].gone]:List Value)[j]?=some v→w.cell? (((⟨g,0,none⟩:Addr).add (i*3)).add j)=some v:=fun j hj v hv=>by
   rw[←ars l i hi j hj] at hv;have:=h.cells (g:=g) rfl _ _ hv;rw[add_plain] at this ⊢;rw[VP];exact this
  exact⟨_,rfl,hc 0 (by omega) _ rfl,hc 1 (by omega) _ rfl,hc 2 (by omega) _ rfl⟩
theorem pR:(prog.info? 57).map (fun i=>(i.zero,i.size,i.bytes))=some (some (.agg #[.string ByteArray.empty,.string ByteArray.empty,.bool false]),3,40):=by kernel_rfl
def Xl(w:World)(l:List T)(e:Ending)(w':World):Prop:=
 match ungroup l with
 |none=>e=.returned (.tuple #[.slice none 0 0,.bool false])∧Bw w w'
 |some cs=>∃ q c,e=.returned (.tuple #[.slice q cs.length c,.bool true])∧w'.ownsRow w.heap.size 57 3 (.slice q cs.length c) cs.length (LA cs)∧Bw w w'
theorem ny{w w':World}{l:List T}{e:Ending}(h:ungroup l=none)(he:e=.returned (.tuple #[.slice none 0 0,.bool false]))(hb:Bw w w'):Xl w l e w':=by
 unfold Xl;rw[h];exact⟨he,hb⟩
theorem aBI{w w':World}{l:List T}{e:Ending}{cs:List Am}{q:Option Addr}{c:Nat}(h:ungroup l=some cs)(he:e=.returned (.tuple #[.slice q cs.length c,.bool true]))(ho:w'.ownsRow w.heap.size 57 3 (.slice q cs.length c) cs.length (LA cs))(hb:Bw w w'):Xl w l e w':=by
 unfold Xl;rw[h];exact⟨q,c,he,ho,hb⟩
theorem aa7{w:World}{a:Option Addr}{cap:Nat}{l:List T}(hL:Du w a l)(hlen:l.length≤1000000)(hok:∀ s∈l,s.length≤1000000000):
  Calls prog 82 #[.slice a l.length cap] w fun e w'=>Xl w l e w':=by
 have HL:=Hi hL;have Gv:=Hi hok;clear hL hok;by_cases Y9:l.length % 2=1
 ·have HN:=Hi (aBK _ l (Ae _) Y9);have h1:(l.length:Int) % 2=1:=by omega
  clear Y9
  go_in
  go_wp2;go_ret2;exact ny HN rfl (Ai _ _)
 ·obtain⟨n,hn⟩:∃ n,l.length=2*n:=⟨l.length / 2,by omega⟩;have h1:(l.length:Int) % 2=0:=by omega
  clear Y9;obtain⟨i0,Bl,AY,Ba,Be⟩:=DC pR;have iU:=Hi hn;clear hn
  go_in
  go_wp2_with fail;clear h1
  go_loopw [2,4] (fun s i wr=>∃ (k:Nat) (cs:List Am) (q:Option Addr) (c:Nat),k≤n∧cs.length=k∧i=.int .i64 (2*(k:Int))∧s=.slice q cs.length c∧wr.ownsRow w.heap.size 57 3 (.slice q cs.length c) cs.length (LA cs)∧Bw w wr∧ungroup l=(ungroup (l.drop (2*k))).map (cs++ ·)) (fun _ i _=>l.length -(intOf i).toNat)
  case atStart=>exact⟨0,[],none,0,AV _,rfl,rfl,rfl,by rw[pO];exact DZ _ _ _ _,Ai _ _,by rw[List.drop_zero];cases ungroup l<;>rfl⟩
  case round=>
   obtain⟨k,cs,q,c,hk,BN,rfl,rfl,Af,hb,Hm⟩:=hrel;by_cases hlt:k < n
   ·have kT:=iU.out;have F4:2*k < l.length:=(by omega);have I6:2*k+1 < l.length:=(by omega);obtain⟨p,hp,TG⟩:=HL (2*k) F4;obtain⟨p',Nh,Mx⟩:=HL (2*k+1) I6;obtain rfl:p=p':=(by rw[hp] at Nh;exact GQ Nh);have hd:l.drop (2*k)=l[2*k] :: l[2*k+1] :: l.drop (2*(k+1)):=by
     rw[Rk F4,Rk I6];rfl
    rw[hd] at Hm;clear hd;have avL:∀ W,(Instr.indexAt 61 (.slice (some p) l.length cap) (.int .i64 (2*(k:Int)))).run prog W=.ok (.pointer (some (p.add (2*k)))) W:=fun W=>by
     have:=IB prog 61 9 underlying61 1 (by kernel_rfl) p l.length cap (2*k) F4 W;rw[Nat.mul_one,show((2*k:Nat):Int)=2*(k:Int) by omega] at this;exact this
    have sw:∀ W,(Instr.indexAt 61 (.slice (some p) l.length cap) (.int .i64 (2*(k:Int)+1))).run prog W=.ok (.pointer (some (p.add (2*k+1)))) W:=fun W=>by
     have:=IB prog 61 9 underlying61 1 (by kernel_rfl) p l.length cap (2*k+1) I6 W;rw[Nat.mul_one,show((2*k+1:Nat):Int)=2*(k:Int)+1 by omega] at this;exact this
    have DI:=Gv _ (CQ F4);have Dn:=Gv _ (CQ I6);subst hp;have tC:=(hb.cell (Cr TG)).trans TG;have tF:=(hb.cell (Cr Mx)).trans Mx;have akn:∀ o,(wr.alloc o).cell? (p.add (2*k))=some (.string (bs l[2*k])):=fun o=>(((Ai _ wr).alloc (Ae _) o).cell (Cr tC)).trans tC
    have ako:∀ o,(wr.alloc o).cell? (p.add (2*k+1))=some (.string (bs l[2*k+1])):=fun o=>(((Ai _ wr).alloc (Ae _) o).cell (Cr tF)).trans tF
    have HR:=Hi Af;have HB:=Hi hb;have EE:=Hi BN;have tK:=hb.size;clear HL;generalize p.add (2*k)=q1 at*;generalize p.add (2*k+1)=q2 at*;generalize l[2*k]=s1 at*;generalize l[2*k+1]=s2 at*;obtain⟨R,hR⟩:=ex (l.drop (2*(k+1)));rw[hR] at Hm;have Po:=Hi hR;clear hR;clear Af hb TG Mx Nh BN;cases s1 with
    |nil=>
     have HN:=Hi (aBJ Hm);clear Hm kT;go_wp2;go_ret2;exact ny HN rfl HB.out
    |cons b nm=>
     by_cases Aj:b.toNat≤1
     ·rcases(show b=0∨b=1 by
       have h1:=UInt8.toNat_lt b;rcases(show b.toNat=0∨b.toNat=1 by omega) with h|h
       ·exact .inl (UInt8.toNat_inj.1 h)
       ·exact .inr (UInt8.toNat_inj.1 h)) with rfl|rfl
      all_goals clear Aj kT
      ·have XO:∀ W,(Instr.slice 9 (.string (bs (0 :: nm))) (some (.int .i64 1)) none none).run prog W=.ok (.string (bs nm)) W:=fun W=>ME prog W 9 underlying9 (0 :: nm) 1 (by simp)
       have EI:nm.length≤1000000000:=(by simp at DI;omega);have YW:=Hi EI;have Zb:=Hi Hm;have e0:(0:Nat) < (0 :: nm).length:=(by simp);clear Hm DI;go_wp2;go_region;all_goals
        have Dc:=Hi (show Bw wr (wr.alloc (.cells #[.string (bs nm),.string (bs s2),.bool false] 57)).drew from((Ai _ _).alloc (Ae _) _).drew);have d0:((wr.alloc (.cells #[.string (bs nm),.string (bs s2),.bool false] 57)).drew).cell? ⟨wr.heap.size,0,none⟩=some (.string (bs nm)):=(by simp);have d1:((wr.alloc (.cells #[.string (bs nm),.string (bs s2),.bool false] 57)).drew).cell? ⟨wr.heap.size,1,none⟩=some (.string (bs s2)):=(by simp);have d2:((wr.alloc (.cells #[.string (bs nm),.string (bs s2),.bool false] 57)).drew).cell? ⟨wr.heap.size,2,none⟩=some (.bool false):=(by simp);have Xc:=Hi (show((wr.alloc (.cells #[.string (bs nm),.string (bs s2),.bool false] 57)).drew).heap.size=wr.heap.size+1 by simp);clear tC akn tF ako;generalize (wr.alloc (.cells #[.string (bs nm),.string (bs s2),.bool false] 57)).drew=W1 at*;go_wp2_with fail;refine(qD nm s2 false _ (by have:=YW.out;unfold maxLen;omega) (by unfold maxLen;omega)).mono ?_;rintro e w2⟨rfl,Ac⟩;have Wn:wr.heap.size < W1.heap.size:=(by have:=Xc.out;omega);have f0:=(Ac.cell (p:=⟨wr.heap.size,0,none⟩) Wn).trans d0;have f1:=(Ac.cell (p:=⟨wr.heap.size,1,none⟩) Wn).trans d1;have f2:=(Ac.cell (p:=⟨wr.heap.size,2,none⟩) Wn).trans d2;have Ak:=bH Dc Ac;clear d0 d1 d2 Ac Wn;obtain⟨mv,Ex⟩:=ex (Am.may ⟨nm,s2,false⟩);have Rw:=Hi Ex;rw[Ex];clear Ex;cases mv with
        |false=>
         have HN:=Hi (adK Zb (fun h=>by have h2:=h.2;rw[show((0:UInt8) == 1)=false from rfl,Rw.out] at h2;cases h2));go_wp2;go_ret2;exact ny HN rfl (bT HB Ak)
        |true=>
         have HY:=Hi (aof Zb (by decide) (by rw[show((0:UInt8) == 1)=false from rfl];exact Rw.out));have TH:=Ak.size;have hwz:w.heap.size≤w2.heap.size:=Aw tK TH;have aiQ:cs.length≤1000000:=(by have:=EE.out;omega);have BX:=Hi (Bv HR (ub Ak) (fun _ _ f=>f));go_wp2_with (at_builtin;refine wpList_append_own_at _ rfl _ _ 32 rfl w.heap.size 57 i0 _ 3 40 underlying32 Bl AY Ba Be rfl (by decide) _ cs.length _ rfl (BX.alloc _) ⟨w2.heap.size,0,none⟩ 1 1 [.string (bs nm),.string (bs s2),.bool false] rfl rfl (by intro j u hj;rw[add_plain,E5];exact(Dy▸hj)) (by simp[Value.oneCell']) (by unfold maxLen;omega) (by omega) (by simp;omega) ?_;intro v' w1 Cb AJ _ hat;obtain⟨g',cap',rfl⟩:=ownsRow_succ Cb;have HO:=Hi Cb;have HG:=Hi AJ;clear Cb AJ hat);go_roundw
         case rel=>
           refine⟨k+1,cs++[⟨nm,s2,false⟩],_,_,by omega,by rw[AA,EE.out];rfl,by go_num,by rw[AA];rfl,?_,?_,by rw[Po.out];exact HY.out⟩
           ·rw[AA,pQ];exact HO.out
           ·exact((bT HB Ak).alloc hwz _).grown HG (by simp;omega) (fun j hj=>by
             have LG:(Value.slice q cs.length c).ownBlock=some j:=hj;rcases HR.2 with⟨e1,_⟩|⟨g,c2,cur,e1,Mq,_⟩
             ·rw[e1] at LG;simp[Value.ownBlock] at LG
             ·rw[e1] at LG;simp[Value.ownBlock] at LG;omega)
         case measure=>simp[intOf];omega
      ·have XO:∀ W,(Instr.slice 9 (.string (bs (1 :: nm))) (some (.int .i64 1)) none none).run prog W=.ok (.string (bs nm)) W:=fun W=>ME prog W 9 underlying9 (1 :: nm) 1 (by simp)
       have EI:nm.length≤1000000000:=(by simp at DI;omega);have YW:=Hi EI;have Zb:=Hi Hm;have e0:(0:Nat) < (1 :: nm).length:=(by simp);clear Hm DI;go_wp2;go_region;all_goals
        have Dc:=Hi (show Bw wr (wr.alloc (.cells #[.string (bs nm),.string (bs s2),.bool true] 57)).drew from((Ai _ _).alloc (Ae _) _).drew);have d0:((wr.alloc (.cells #[.string (bs nm),.string (bs s2),.bool true] 57)).drew).cell? ⟨wr.heap.size,0,none⟩=some (.string (bs nm)):=(by simp);have d1:((wr.alloc (.cells #[.string (bs nm),.string (bs s2),.bool true] 57)).drew).cell? ⟨wr.heap.size,1,none⟩=some (.string (bs s2)):=(by simp);have d2:((wr.alloc (.cells #[.string (bs nm),.string (bs s2),.bool true] 57)).drew).cell? ⟨wr.heap.size,2,none⟩=some (.bool true):=(by simp);have Xc:=Hi (show((wr.alloc (.cells #[.string (bs nm),.string (bs s2),.bool true] 57)).drew).heap.size=wr.heap.size+1 by simp);clear tC akn tF ako;generalize (wr.alloc (.cells #[.string (bs nm),.string (bs s2),.bool true] 57)).drew=W1 at*;go_wp2_with fail;refine(qD nm s2 true _ (by have:=YW.out;unfold maxLen;omega) (by unfold maxLen;omega)).mono ?_;rintro e w2⟨rfl,Ac⟩;have Wn:wr.heap.size < W1.heap.size:=(by have:=Xc.out;omega);have f0:=(Ac.cell (p:=⟨wr.heap.size,0,none⟩) Wn).trans d0;have f1:=(Ac.cell (p:=⟨wr.heap.size,1,none⟩) Wn).trans d1;have f2:=(Ac.cell (p:=⟨wr.heap.size,2,none⟩) Wn).trans d2;have Ak:=bH Dc Ac;clear d0 d1 d2 Ac Wn;obtain⟨mv,Ex⟩:=ex (Am.may ⟨nm,s2,true⟩);have Rw:=Hi Ex;rw[Ex];clear Ex;cases mv with
        |false=>
         have HN:=Hi (adK Zb (fun h=>by have h2:=h.2;rw[show((1:UInt8) == 1)=true from rfl,Rw.out] at h2;cases h2));go_wp2;go_ret2;exact ny HN rfl (bT HB Ak)
        |true=>
         have HY:=Hi (aof Zb (by decide) (by rw[show((1:UInt8) == 1)=true from rfl];exact Rw.out));have TH:=Ak.size;have hwz:w.heap.size≤w2.heap.size:=Aw tK TH;have aiQ:cs.length≤1000000:=(by have:=EE.out;omega);have BX:=Hi (Bv HR (ub Ak) (fun _ _ f=>f));go_wp2_with (at_builtin;refine wpList_append_own_at _ rfl _ _ 32 rfl w.heap.size 57 i0 _ 3 40 underlying32 Bl AY Ba Be rfl (by decide) _ cs.length _ rfl (BX.alloc _) ⟨w2.heap.size,0,none⟩ 1 1 [.string (bs nm),.string (bs s2),.bool true] rfl rfl (by intro j u hj;rw[add_plain,E5];exact(Dy▸hj)) (by simp[Value.oneCell']) (by unfold maxLen;omega) (by omega) (by simp;omega) ?_;intro v' w1 Cb AJ _ hat;obtain⟨g',cap',rfl⟩:=ownsRow_succ Cb;have HO:=Hi Cb;have HG:=Hi AJ;clear Cb AJ hat);go_roundw
         case rel=>
           refine⟨k+1,cs++[⟨nm,s2,true⟩],_,_,by omega,by rw[AA,EE.out];rfl,by go_num,by rw[AA];rfl,?_,?_,by rw[Po.out];exact HY.out⟩
           ·rw[AA,pQ];exact HO.out
           ·exact((bT HB Ak).alloc hwz _).grown HG (by simp;omega) (fun j hj=>by
             have LG:(Value.slice q cs.length c).ownBlock=some j:=hj;rcases HR.2 with⟨e1,_⟩|⟨g,c2,cur,e1,Mq,_⟩
             ·rw[e1] at LG;simp[Value.ownBlock] at LG
             ·rw[e1] at LG;simp[Value.ownBlock] at LG;omega)
         case measure=>simp[intOf];omega
     ·have HN:=Hi (adK Hm (fun h=>Aj h.1));have hbi:(1:Int) < (b.toNat:Int):=(by omega);clear Hm kT Aj;go_wp2;go_ret2;exact ny HN rfl HB.out
   ·obtain rfl:k=n:=(by omega);have kT:=iU.out;rw[List.drop_of_length_le (by omega)] at Hm;have Zb:=Hi (show ungroup l=some cs by rw[Hm];simp[ungroup]);have HR:=Hi Af;have HB:=Hi hb;clear Af hb Hm;go_wp2;go_ret2;exact aBI Zb rfl HR HB.out
end
section
open Go.RowKit Go.Maps Go.Sort
open Ag
theorem acZ{F:M}{k v:T}(h:∀ p∈F,p.1 < k):put k v F=F++[(k,v)]:=by
 unfold put;rw[filter_all (fun p hp=>by simpa using h p hp),filter_none (fun p hp=>by simpa using List.not_lt.1 (R9 (h p hp)))]
def QZ(F:M):Option T:=F.getLast?.map (·.1)
theorem alc(F:M)(k v:T):QZ (F++[(k,v)])=some k:=by unfold QZ;simp
theorem aBT{F:M}(h:Up F){x:T}(hx:QZ F=some x):∀ p∈F,p.1=x∨p.1 < x:=by
 unfold QZ at hx;obtain⟨q,hq,rfl⟩:=SA.1 hx;obtain⟨G,rfl⟩:=List.getLast?_eq_some_iff.1 hq;intro p hp;rcases Eh.1 hp with hp|hp
 ·exact .inr ((List.pairwise_append.1 h).2.2 p hp q (by simp))
 ·rw[FJ] at hp;subst hp;exact .inl rfl
theorem adO{F:M}(h:Up F){k:T}(hn:TP (QZ F) k=true):∀ p∈F,p.1 < k:=by
 intro p hp;cases hl:QZ F with
 |none=>
  unfold QZ at hl;rw[Option.map_eq_none_iff,List.getLast?_eq_none_iff] at hl;subst hl;simp at hp
 |some x=>
  rw[hl] at hn;have hx:x < k:=by simpa[TP] using hn
  rcases aBT h hl p hp with e|e
  ·rw[e];exact hx
  ·exact Yo e hx
theorem aBU{F:M}(h:Up F){k v:T}(hn:∀ p∈F,p.1 < k):Up (F++[(k,v)]):=List.pairwise_append.2 ⟨h,Sz _ _,fun a ha b hb=>by rw[FJ] at hb;subst hb;exact hn a ha⟩
structure Reading(n:Nat)(s:T)(j:Nat)(F:M)(S:T):Prop where
 up:Up F
 len:F.length=j
 rest:S.length+8*j≤s.length
 eq:JO n none s=(JO (n -j) (QZ F) S).map fun r=>(F++r.1,r.2)
theorem Reading.start(n:Nat)(s:T):Reading n s 0 [] s:=⟨Up.nil,rfl,by omega,by rw[Nat.sub_zero];show _=(JO n none s).map _;cases JO n none s<;>rfl⟩
section
variable {n j:Nat}{s S:T}{F:M}
theorem Reading.aBa(h:Reading n s j F S)(hj:j < n)(hc:cut S=none):JO n none s=none:=by
 rw[h.eq,show n -j=(n -j -1)+1 by omega];simp only[JO,hc];rfl
theorem Reading.aBb(h:Reading n s j F S)(hj:j < n){a r:T}(hc:cut S=some (a,r))(hd:cut r=none):JO n none s=none:=by
 rw[h.eq,show n -j=(n -j -1)+1 by omega];simp only[JO,hc,CL,hd];rfl
theorem Reading.anV(h:Reading n s j F S)(hj:j < n){a r d r2:T}(hc:cut S=some (a,r))(hd:cut r=some (d,r2))(hm:¬ (Fu a d=true∧TP (QZ F) a=true)):JO n none s=none:=by
 rw[h.eq,show n -j=(n -j -1)+1 by omega];simp only[JO,hc,CL,hd];rw[Ab hm];rfl
theorem Reading.step(h:Reading n s j F S)(hj:j < n){a r d r2:T}(hc:cut S=some (a,r))(hd:cut r=some (d,r2))(h1:Fu a d=true)(h2:TP (QZ F) a=true):Reading n s (j+1) (put a d F) r2:=by
 have hlt:=adO h.up h2;rw[acZ hlt];refine⟨aBU h.up hlt,by rw[AA,h.len];rfl,?_,?_⟩
 ·have a1:=VT hc;have a2:=VT hd;have a3:=h.rest;omega
 ·rw[h.eq,show n -j=(n -j -1)+1 by omega];simp only[JO,hc,CL,hd];rw[Ad ⟨h1,h2⟩,alc,Option.map_map,show n -(j+1)=n -j -1 by omega]
  congr 1
  funext q
  simp
theorem Reading.done(h:Reading n s n F S):JO n none s=some (F,S):=by
 rw[h.eq,Nat.sub_self];simp[JO]
end
def cu(w:World)(s:T)(e:Ending)(w':World):Prop:=
 match Ag.read s with
 |none=>(∃ o,e=.returned (.tuple #[.map o,.bool false]))∧Bw w w'
 |some F=>∃ m,e=.returned (.tuple #[.map (some m),.bool true])∧CO w' m F∧Bw w w'∧w.heap.size≤m
theorem gu{w w':World}{s:T}{e:Ending}{o:Option Nat}(h:Ag.read s=none)(he:e=.returned (.tuple #[.map o,.bool false]))(hb:Bw w w'):cu w s e w':=by
 unfold cu;rw[h];exact⟨⟨o,he⟩,hb⟩
theorem azB{w w':World}{s:T}{F:M}{e:Ending}{m:Nat}(h:Ag.read s=some F)(he:e=.returned (.tuple #[.map (some m),.bool true]))(hm:CO w' m F)(hb:Bw w w')(hn:w.heap.size≤m):cu w s e w':=by
 unfold cu;rw[h];exact⟨m,he,hm,hb,hn⟩
theorem amc{w:World}{base e s:Nat}{v:Value}{n:Nat}{xs:List Value}(h:w.ownsRow base e s v n xs){g:Nat}(hg:v.ownBlock=some g):base≤g:=by
 rcases h.2 with⟨rfl,_⟩|⟨g',cap,cur,rfl,hb,_⟩
 ·simp[Value.ownBlock] at hg
 ·simp[Value.ownBlock] at hg;omega
theorem amR{w w':World}{m base n:Nat}{F:M}{v:Value}{xs:List Value}{t:TypeId}{o:Obj}(hm:CO (w.alloc o) m F)(hr:w.ownsRow base t 1 v n xs)(hg:(w.alloc o).grownBy w' v.ownBlock):CO w' m F:=
 hm.kept (hg.block m hm.lt (fun e=>by
  have hb:=(Cn hr e.symm).upd (ub ((Ai w.heap.size w).alloc (Ae _) o)) (fun f=>f);exact hm.Dl hb))
theorem atr(s:T)(w:World)(hs:s.length≤1000000):
  Calls prog 162 #[.string (bs s)] w fun e w'=>cu w s e w':=by
 by_cases h0:s.length < 4
 ·have HN:Hid (Ag.read s=none):=Hi (by unfold Ag.read;rw[Ad h0])
  go_in
  go_wp2;go_ret2;exact gu HN rfl (Ai _ _)
 ·have Mr:∀ W,(Instr.slice 9 (.string (bs s)) none (some (.int .i64 4)) none).run prog W=.ok (.string (bs (s.take 4))) W:=fun W=>O7 prog W 9 underlying9 s 4 (by omega)
  have XO:∀ W,(Instr.slice 9 (.string (bs s)) (some (.int .i64 4)) none none).run prog W=.ok (.string (bs (s.drop 4))) W:=fun W=>ME prog W 9 underlying9 s 4 (by omega)
  have KW:(s.take 4).length=4:=by rw[AZ];omega
  have hv:=A9.JS (s.take 4);rw[KW] at hv;have Lp:=Hi (fun(W:World)=>XA (s.take 4) W (by omega) (by omega));have hRD:Ag.read s=(JO (A9.val (s.take 4)) none (s.drop 4)).bind fun r=>if r.2=[] then some r.1 else none:=by unfold Ag.read;rw[Ab h0]
  generalize A9.val (s.take 4)=v at*;have ac1:v < 4294967296:=hv;obtain⟨S0,hS0⟩:=ex (s.drop 4);rw[hS0] at XO hRD;have Ik:=Hi hRD;have Oo:=Hi (show S0.length≤1000000 by rw[←hS0,Ct];omega);clear KW hv hRD hS0;have Ng:=@run_makeMap prog;have Bg:Bw w ((w.alloc (.map #[] 0)).alloc (.cells #[] 9)):=((Ai _ _).alloc (Ae _) _).alloc (by simp) _;have XG:CO ((w.alloc (.map #[] 0)).alloc (.cells #[] 9)) w.heap.size []:=(CO.made w).below ((Ai _ _).alloc (Ae _) _);have Zp:((w.alloc (.map #[] 0)).alloc (.cells #[] 9)).ownsRow w.heap.size 9 1 (.slice (some ⟨w.heap.size+1,0,none⟩) 0 0) 0 []:=
   ⟨rfl,.inr ⟨w.heap.size+1,0,#[],rfl,by omega,by have:=AQ (w.alloc (.map #[] 0)) (.cells #[] 9);rwa[Ay] at this,Ae _,AV _,rfl,rfl⟩⟩
  have AR:=Hi Bg;have o9:=Hi XG;have YZ:=Hi Zp;clear Bg XG Zp
  go_in
  go_wp2_with fail;refine(Lp _).mono ?_;rintro e w1⟨rfl,rfl⟩;go_wp2
  go_loopw [0,7,26] (fun s0 lv i wr=>∃ (j:Nat) (F:M) (S:T) (q:Option Addr) (c:Nat),j≤v∧s0=.string (bs S)∧lv=.slice q F.length c∧i=.int .u64 j∧Reading v S0 j F S∧CO wr w.heap.size F∧wr.ownsRow w.heap.size 9 1 (.slice q F.length c) F.length (strCells (F.map (·.1)))∧Bw w wr) (fun _ _ i _=>v -(intOf i).toNat)
  case atStart=>exact⟨0,[],S0,_,_,AV _,rfl,rfl,rfl,Reading.start _ _,o9,by rw[Kr,mR];exact YZ.out,AR⟩
  case round=>
   obtain⟨j,F,S,q,c,hjv,rfl,rfl,rfl,OQ,hm,Af,hb⟩:=hrel;have Zr:S.length≤1000000:=(by have:=OQ.rest;have:=Oo.out;omega);have hjb:8*j≤1000000:=(by have:=OQ.rest;have:=Oo.out;omega);have VC:=Hi OQ;have HM:=Hi hm;have HR:=Hi Af;have HB:=Hi hb;have XE:=OQ.len;have Qo:=Hi XE;clear OQ hm Af hb o9 YZ AR XE Ng;by_cases hj:j < v
   ·cases hc:cut S with
    |none=>
     have HN:Hid (Ag.read s=none):=Hi (by rw[Ik.out,VC.aBa hj hc];rfl);have Bj:=Hi hc;clear hc;go_wp2_with fail;refine(agS Bj _ (by omega)).mono ?_;rintro e w2⟨rfl,rfl⟩;go_wp2;go_ret2;exact gu HN rfl HB.out
    |some ar=>
     obtain⟨a,r⟩:=ar;have BN:=VT hc;have Bj:=Hi hc;clear hc;cases hd:cut r with
     |none=>
      have HN:Hid (Ag.read s=none):=Hi (by rw[Ik.out,VC.aBb hj Bj hd];rfl);have Kz:=Hi hd;clear hd;go_wp2_with fail;refine(qw Bj _ (by omega)).mono ?_;rintro e w2⟨rfl,Ac⟩;have Ak:=bH HB Ac;clear Ac;go_wp2_with fail;refine(agS Kz _ (by omega)).mono ?_;rintro e w3⟨rfl,rfl⟩;go_wp2;go_ret2;exact gu HN rfl Ak.out
     |some dr=>
      obtain⟨d,r2⟩:=dr;have KV:=VT hd;have Kz:=Hi hd;clear hd;go_wp2_with fail;refine(qw Bj _ (by omega)).mono ?_;rintro e w2⟨rfl,Ac⟩;have Ak:=Hi Ac;clear Ac;go_wp2_with fail;refine(qw Kz _ (by omega)).mono ?_;rintro e w3⟨rfl,Ap⟩;have Au:=bH Ak Ap;clear Ap Ak;go_wp2_with fail;refine(qD a d false _ (by unfold maxLen;omega) (by unfold maxLen;omega)).mono ?_;rw[show Am.may ⟨a,d,false⟩=Fu a d by unfold Am.may;simp];rintro e w4⟨rfl,AB⟩;have AX:=bH Au AB;clear AB Au;cases Ex:Fu a d with
      |false=>
       have HN:Hid (Ag.read s=none):=Hi (by rw[Ik.out,VC.anV hj Bj Kz (fun h=>by rw[Ex] at h;cases h.1)];rfl);clear Ex;go_wp2;go_ret2;exact gu HN rfl (bT HB AX)
      |true=>
       have Rw:=Hi Ex;have XJ:a.length≤32:=(by unfold Fu at Ex;simp at Ex;exact Ex.2.1);have VA:=Hi (HM.below AX);have Lt:=Hi (Bv HR (ub AX) (fun _ _ f=>f));clear Ex;rcases List.eq_nil_or_concat F with hF|⟨G,⟨x,y⟩,hF⟩
       ·subst hF;have LM:TP (QZ ([]:M)) a=true:=rfl;have EZ:=Hi (VC.step hj Bj Kz Rw LM);have Gh:=Hi (acZ (v:=d) (adO VC.up LM));have awt:=HB.size;have abU:=AX.size;have hFb:([]:M).length≤1000000:=(by have:=Qo.out;omega);have xW:=Hi (VA.below ((Ai w4.heap.size w4).alloc (Ae _) (.cells #[.string (bs a)] 9)));clear LM;obtain⟨i0,Bl,AY,Ba,Be⟩:=DC TV;go_wp2_with (at_builtin;refine wpList_append_own_at _ rfl _ _ 61 rfl w.heap.size 9 i0 _ 1 16 underlying61 Bl AY Ba Be rfl (by decide) _ ([]:M).length _ rfl (Lt.alloc _) ⟨w4.heap.size,0,none⟩ 1 1 [.string (bs a)] rfl rfl (cell_one_new _ _ _) (by simp[Value.oneCell']) (by unfold maxLen;omega) (by omega) (by simp;omega) ?_;intro v' w5 Cb AJ _ hat;obtain⟨g',cap',rfl⟩:=ownsRow_succ Cb;have G8:=Hi (amR xW Lt AJ);obtain⟨w6,FY,Et,De⟩:=G8.update a d (by unfold maxLen;omega) (by unfold maxLen;omega);have HO:=Hi Cb;have HG:=Hi AJ;have RA:=Hi Et;have JX:=Hi De;clear Cb AJ hat Et De);have hne:∀ k,(Value.slice (some ⟨g',0,none⟩) (([]:M).length+1) cap').ownBlock=some k→¬ k=w.heap.size:=fun k hk e=>by
         subst e;exact G8.Dl (Cn HO hk)
        have Kh:=Bv HO (A7.of_grownBy (F:=fun k=>k=w.heap.size) JX (fun k e=>by cases e;rfl)) hne;have CS:Bw w w6:=((HB.trans ((AX.alloc AX.size _).mono HB.size)).grown HG (by simp;omega) (fun j hj=>amc Lt (show(Value.slice q ([]:M).length c).ownBlock=some j from hj))).grown JX (by have:=HG.size;simp at this;omega) (fun j hj=>by cases hj;exact Ae _);go_roundw
        case rel=>
         refine⟨j+1,_,_,_,_,by omega,rfl,by rw[Gh.out,AA];rfl,by simp,EZ,RA,?_,CS⟩;rw[Gh.out,AA,CK]
         show World.ownsRow _ _ _ _ _ (([]:M).length+1) (strCells (([]:M).map (·.1)++[a]))
         rw[Sn];exact Kh
        case measure=>simp[intOf];omega
       ·subst hF;obtain⟨g,rfl⟩:∃ g,q=some ⟨g,0,none⟩:=by
         rcases HR.2 with⟨e1,e2⟩|⟨g,cap,_,e1,_⟩
         ·simp at e2
         ·exact⟨g,by injection e1⟩
        have Gb:w4.cell? ⟨g,G.length,none⟩=some (.string (bs x)):=by
         have:=Lt.cells (g:=g) rfl G.length (.string (bs x)) (by rw[List.concat_eq_append,CK,Ca,Kr,Sn,List.getElem?_append_right (by rw[strCells_length];simp),strCells_length];simp);rw[add_plain] at this;exact this
        have dG:(G.concat (x,y)).length=G.length+1:=(by simp);have Cs:∀ W,(Instr.indexAt 61 (.slice (some ⟨g,0,none⟩) (G.length+1) c) (.int .i64 (G.length:Int))).run prog W=.ok (.pointer (some ⟨g,G.length,none⟩)) W:=fun W=>by
         have:=IB prog 61 9 underlying61 1 (by kernel_rfl) ⟨g,0,none⟩ (G.length+1) c G.length (by omega) W;rw[Nat.mul_one,add_plain] at this;exact this
        have hGb:G.length+1≤1000000:=(by have:=Qo.out;rw[dG] at this;omega);have eu:QZ (G.concat (x,y))=some x:=(by rw[List.concat_eq_append];exact alc G x y);by_cases OU:x < a
        ·have CP:Op.bytesLess x a=true:=(by rw[bytesLess_eq];simpa using OU);have LM:TP (QZ (G.concat (x,y))) a=true:=(by rw[eu];simpa[TP] using OU);clear OU eu;have EZ:=Hi (VC.step hj Bj Kz Rw LM);have Gh:=Hi (acZ (v:=d) (adO VC.up LM));have awt:=HB.size;have abU:=AX.size;have hFb:(G.concat (x,y)).length≤1000000:=(by have:=Qo.out;omega);have xW:=Hi (VA.below ((Ai w4.heap.size w4).alloc (Ae _) (.cells #[.string (bs a)] 9)));clear LM;obtain⟨i0,Bl,AY,Ba,Be⟩:=DC TV;have KH:Hid (w4.ownsRow w.heap.size 9 1 (.slice (some ⟨g,0,none⟩) (G.length+1) c) (G.length+1) (strCells ((G.concat (x,y)).map (·.1)))):=Hi (by rw[←dG];exact Lt.out);go_wp2_with (at_builtin;refine wpList_append_own_at _ rfl _ _ 61 rfl w.heap.size 9 i0 _ 1 16 underlying61 Bl AY Ba Be rfl (by decide) _ (G.length+1) _ rfl (KH.alloc _) ⟨w4.heap.size,0,none⟩ 1 1 [.string (bs a)] rfl rfl (cell_one_new _ _ _) (by simp[Value.oneCell']) (by unfold maxLen;omega) (by omega) (by simp;omega) ?_;intro v' w5 Cb AJ _ hat;obtain⟨g',cap',rfl⟩:=ownsRow_succ Cb;have G8:=Hi (amR xW KH AJ);obtain⟨w6,FY,Et,De⟩:=G8.update a d (by unfold maxLen;omega) (by unfold maxLen;omega);have HO:=Hi Cb;have HG:=Hi AJ;have RA:=Hi Et;have JX:=Hi De;clear Cb AJ hat Et De);have hne:∀ k,(Value.slice (some ⟨g',0,none⟩) (G.length+1+1) cap').ownBlock=some k→¬ k=w.heap.size:=fun k hk e=>by
          subst e;exact G8.Dl (Cn HO hk)
         have Kh:=Bv HO (A7.of_grownBy (F:=fun k=>k=w.heap.size) JX (fun k e=>by cases e;rfl)) hne;have CS:Bw w w6:=((HB.trans ((AX.alloc AX.size _).mono HB.size)).grown HG (by simp;omega) (fun j hj=>amc KH (show(Value.slice (some ⟨g,0,none⟩) (G.length+1) c).ownBlock=some j from hj))).grown JX (by have:=HG.size;simp at this;omega) (fun j hj=>by cases hj;exact Ae _);go_roundw
         case rel=>
          refine⟨j+1,_,_,_,_,by omega,rfl,by rw[Gh.out,AA,dG];rfl,by simp,EZ,RA,?_,CS⟩;rw[Gh.out,AA,dG,CK]
          show World.ownsRow _ _ _ _ _ (G.length+1+1) (strCells ((G.concat (x,y)).map (·.1)++[a]))
          rw[Sn];exact Kh
         case measure=>simp[intOf];omega
        ·have CP:Op.bytesLess x a=false:=by rw[bytesLess_eq];simpa using OU
         have HN:Hid (Ag.read s=none):=Hi (by
          rw[Ik.out,VC.anV hj Bj Kz (fun h=>by have h2:=h.2;rw[eu] at h2;exact OU (by simpa[TP] using h2))];rfl)
         clear OU eu;go_wp2;go_ret2;exact gu HN rfl (bT HB AX)
   ·obtain rfl:j=v:=(by omega);have RJ:=VC.done;cases S with
    |nil=>
     have HF:Hid (Ag.read s=some F):=Hi (by rw[Ik.out,RJ];rfl);clear RJ;go_wp2;go_ret2;exact azB HF rfl HM HB (Ae _)
    |cons u S=>
     have HN:Hid (Ag.read s=none):=Hi (by rw[Ik.out,RJ];rfl);clear RJ;go_wp2;go_ret2;exact gu HN rfl HB.out
end
section
open Go.RowKit Go.Maps Go.Sort
open Ag
def Km(log size AL b:Nat)(mv:Option Nat)(xv:Option Addr):Array Value:=#[.pointer (some ⟨b,0,none⟩),.int .i64 (log:Int),.int .i64 (size:Int),.int .i64 (AL:Int),.map mv,.pointer xv,.int .i64 0]
theorem Kn{w:World}{y log size AL b:Nat}{mv:Option Nat}{xv:Option Addr}(h:w.heap[y]?=some (.cells (Km log size AL b mv xv) 116)):
  w.cell? ⟨y,0,none⟩=some (.pointer (some ⟨b,0,none⟩))∧w.cell? ⟨y,1,none⟩=some (.int .i64 (log:Int))∧w.cell? ⟨y,2,none⟩=some (.int .i64 (size:Int))∧w.cell? ⟨y,3,none⟩=some (.int .i64 (AL:Int))∧
  w.cell? ⟨y,4,none⟩=some (.map mv)∧w.cell? ⟨y,5,none⟩=some (.pointer xv)∧w.cell? ⟨y,6,none⟩=some (.int .i64 0)∧∀ j,w.frozen? ⟨y,j,none⟩=false:=by
 refine⟨?_,?_,?_,?_,?_,?_,?_,fun j=>Dt w y j _ _ h⟩<;>rw[BL w y _ _ _ _ h]<;>rfl
def yJ(w:World)(y log size b a num:Nat)(A:M)(e:Ending)(w':World):Prop:=
 ∃ mb,e=.returned (.tuple #[.int .u64 (num:Int),.int .i64 0])∧w'.heap[y]?=some (.cells (Km log size a b (some mb) none) 116)∧CO w' mb A∧A7 (fun k=>k=y) w w'∧w.heap.size≤mb
theorem ata{w:World}{y log size b:Nat}{D:A8}{fp:Nat→Prop}(hd:BB w b D fp)(hy:w.heap[y]?=some (.cells (Km log size 0 b none none) 116))(DY:D.down=false)(h0:D.now 0=Av.pad [0]):
  Calls prog 78 #[.pointer (some ⟨y,0,none⟩)] w fun e w'=>yJ w y log size b 0 0 [] e w':=by
 have acb:=Ao hy;have PT:=hd.fine;obtain⟨c0,_⟩:=Kn hy;obtain⟨m,lv,hI,_⟩:=hd;have Ik:=Hi (ve hI 0 1 DY (by simp[A8.inside];have:=PT.n1;omega));have e1:A8.text D.now 0 1=Av.pad [0]:=by show D.now 0++[]=_;rw[h0,Ea]
 rw[e1] at Ik;have HY:=Hi hy;have Ng:=@run_makeMap prog;have AY:({ data:=#[0] }:ByteArray)=bs [0]:=rfl;clear hI hy PT h0 e1
 go_in
 go_wp2_with fail;refine Ik.mono ?_;rintro e w1⟨rfl,hb⟩;have Um:=Hi ((hb.block y acb).trans HY);obtain⟨_,_,_,_,d4,_,_,df⟩:=Kn Um.out;have jk:=df 4;have O1:=Ao Um.out;have HB:=Hi hb;clear hb df;go_wp2_with fail;have MB:(w1.setCell ⟨y,4,none⟩ (.map (some w1.heap.size))).heap.size=w1.heap.size:=by simp[World.setCell]
 have TF:=Cu w1 y 4 _ _ (.map (some w1.heap.size)) Um.out;have Yd:A7 (fun k=>k=y) w (w1.setCell ⟨y,4,none⟩ (.map (some w1.heap.size))):=(A7.of_below (F:=fun k=>k=y) HB).setCell (p:=⟨y,4,none⟩) (.inl rfl) _;have ZM:=CO.made (w1.setCell ⟨y,4,none⟩ (.map (some w1.heap.size)));rw[MB] at ZM;have bF:=Hi ZM;have BU:=Hi (((Ai _ (w1.setCell ⟨y,4,none⟩ (.map (some w1.heap.size)))).alloc (Ae _) (.map #[] 0)).block y (by rw[MB];exact O1) |>.trans TF);have MU:=Hi (Yd.alloc (.map #[] 0));clear ZM TF Yd d4 jk MB;refine(qG [0] _ (by simp)).mono ?_;rintro e w2⟨rfl,Ac⟩;have Ak:=Hi Ac;clear Ac;go_wp2;go_ret2;refine⟨w1.heap.size,rfl,(Ak.block y (by simp;omega)).trans BU,bF.below Ak,MU.trans (A7.of_below (F:=fun k=>k=y) Ak) (fun i hi=>.inl hi),HB.size⟩
theorem at7{w:World}{y log size b:Nat}{D:A8}{fp:Nat→Prop}(hd:BB w b D fp)(hy:w.heap[y]?=some (.cells (Km log size 0 b none none) 116))(DY:D.down=false){a num:Nat}{A:M}{t r:T}(ha:a≤1)(sN:num < 18446744073709551616)(h0:D.now 0=Ag.mark a num)
  (kQ:log≤16384)(JJ:size≤8192)(Ji:CV log size a+size≤D.n)(hcut:cut (A8.text D.now (CV log size a) size)=some (t,r))(abM:Ag.read t=some A):
  Calls prog 78 #[.pointer (some ⟨y,0,none⟩)] w fun e w'=>yJ w y log size b a num A e w':=by
 have acb:=Ao hy;have PT:=hd.fine;obtain⟨c0,_⟩:=Kn hy;have Ky:=Hi hd;obtain⟨m,lv,hI,_⟩:=hd;have Ik:=Hi (ve hI 0 1 DY (by simp[A8.inside];have:=PT.n1;omega));have e1:A8.text D.now 0 1=Ag.mark a num:=by show D.now 0++[]=_;rw[h0,Ea]
 rw[e1] at Ik;have HY:=Hi hy;have Ng:=@run_makeMap prog;have AY:({ data:=#[0] }:ByteArray)=bs [0]:=rfl;have EH:=Ag.O4 a num;have hm4:=Ag.alD a num ha;have hmn:=Ag.alE a num sN;have hne:(Ag.mark a num == Av.pad [0])=false:=by simpa using Ag.uh a num
 have avg:∀ W,(Instr.slice 9 (.string (bs (Ag.mark a num))) (some (.int .i64 5)) (some (.int .i64 13)) none).run prog W=.ok (.string (bs (((Ag.mark a num).take 13).drop 5))) W:=fun W=>gD prog W 9 underlying9 (Ag.mark a num) 5 13 (by omega) (by omega)
 have h5l:(((Ag.mark a num).take 13).drop 5).length=8:=by rw[Ct,AZ];omega
 have Lp:=Hi (fun(W:World)=>XA (((Ag.mark a num).take 13).drop 5) W (by omega) (by omega));rw[hmn] at Lp;have Iu:∀ W,(Instr.index 9 (.string (bs (Ag.mark a num))) (.int .i64 4)).run prog W=.ok (.int .u8 (a:Int)) W:=fun W=>by
  have h4:4 < (Ag.mark a num).length:=by omega
  have e4:(Ag.mark a num)[4].toNat=a:=by
   have:=hm4.2;rwa[Ig,CJ h4,Option.getD_some] at this
  rw[run_index_string W 9 (bs (Ag.mark a num)) .i64 4 underlying9,dif_pos ⟨by omega,by simp;omega⟩]
  show Result.ok (Value.int .u8 (((Ag.mark a num)[4]'h4).toNat:Nat)) W=_
  rw[e4]
 have Qt:=Hi (fun(W:World)=>aha a num W ha sN);have hab:(a:Int)≤1:=by omega
 have HN:=Hi sN;have xV:=Hi EH;have SG:=Hi hcut;have Po:=Hi abM;generalize Ag.mark a num=F0 at*;generalize ((F0.take 13).drop 5)=F5 at*;have ajz:D.inside (CV log size a) size=true:=by simp[A8.inside];omega
 have Rx:=Hi (fun(V:World) (h:BB V b D fp)=>(by obtain⟨m2,lv2,hI2,_⟩:=h;exact ve hI2 (CV log size a) size DY ajz:Calls prog 159 #[.pointer (some ⟨b,0,none⟩),.int .i64 ((CV log size a:Nat):Int),.int .i64 (size:Int)] V fun e w'=>e=.returned (.tuple #[.string (bs (A8.text D.now (CV log size a) size)),.int .i64 0])∧Bw V w'));have O0:(A8.text D.now (CV log size a) size).length≤524288:=by rw[A8.mX PT.now _ _ Ji];omega
 have nU:=Hi (fun(V:World)=>qw hcut V (by omega));have aq3:=Hi (fun(V:World)=>(by have:=atr t V (by have:=VT hcut;omega);unfold cu at this;rw[abM] at this;exact this:Calls prog 162 #[.string (bs t)] V fun e w'=>∃ m,e=.returned (.tuple #[.map (some m),.bool true])∧CO w' m A∧Bw V w'∧V.heap.size≤m));clear O0 ajz;clear hI hy PT h0 e1 hm4 hmn h5l hcut abM sN EH
 go_in
 go_wp2_with fail;refine Ik.mono ?_;rintro e w1⟨rfl,hb⟩;have Um:=Hi ((hb.block y acb).trans HY);obtain⟨_,_,_,_,d4,_,_,df⟩:=Kn Um.out;have jk:=df 4;have O1:=Ao Um.out;have HB:=Hi hb;clear hb df;go_wp2_with fail;have MB:(w1.setCell ⟨y,4,none⟩ (.map (some w1.heap.size))).heap.size=w1.heap.size:=by simp[World.setCell]
 have TF:=Cu w1 y 4 _ _ (.map (some w1.heap.size)) Um.out;have Yd:A7 (fun k=>k=y) w (w1.setCell ⟨y,4,none⟩ (.map (some w1.heap.size))):=(A7.of_below (F:=fun k=>k=y) HB).setCell (p:=⟨y,4,none⟩) (.inl rfl) _;have BU:=Hi (show _=some (.cells (Km log size 0 b (some w1.heap.size) none) 116) from((Ai _ (w1.setCell ⟨y,4,none⟩ (.map (some w1.heap.size)))).alloc (Ae _) (.map #[] 0)).block y (by rw[MB];exact O1) |>.trans TF);have MU:=Hi (Yd.alloc (.map #[] 0));have Q4:((w1.setCell ⟨y,4,none⟩ (.map (some w1.heap.size))).alloc (.map #[] 0)).heap.size=w1.heap.size+1:=by rw[Ay,MB]
 have aq9:=Hi Q4;clear TF Yd d4 jk MB Q4;refine(qG [0] _ (by simp)).mono ?_;rintro e w2⟨rfl,Ac⟩;have Un:=Hi ((Ac.block y (by rw[aq9.out];omega)).trans BU);have RA:=Hi (MU.trans (A7.of_below (F:=fun k=>k=y) Ac) (fun i hi=>.inl hi));clear Ac BU MU;obtain⟨_,_,_,d3,_,_,_,df⟩:=Kn Un.out;have Zj:=df 3;clear df;go_wp2_with fail;have V5:=Cu w2 y 3 _ _ (.int .i64 (a:Int)) Un.out;have De:A7 (fun k=>k=y) w (w2.setCell ⟨y,3,none⟩ (.int .i64 (a:Int))):=RA.setCell (p:=⟨y,3,none⟩) (.inl rfl) _;have RH:=Hi (show _=some (Obj.cells (Km log size a b (some w1.heap.size) none) 116) from V5);have JX:=Hi De;clear V5 De Zj d3 Un RA;generalize w2.setCell ⟨y,3,none⟩ (.int .i64 (a:Int))=w3 at*;refine(Lp _).mono ?_;rintro e w3'⟨rfl,rfl⟩;obtain⟨_,_,_,d3,_⟩:=Kn RH.out;go_wp2_with fail;refine(Qt _).mono ?_;rintro e w4⟨rfl,AB⟩;have Qv:=Hi ((AB.block y (Ao RH)).trans RH);have Ul:=Hi (JX.trans (A7.of_below (F:=fun k=>k=y) AB) (fun i hi=>.inl hi));have Vs:=Hi (Ky.upd Ul (fun k hk e=>by subst e;exact Ky.Dl k hk (t:=116) (by decide) (by decide) ⟨_,_,HY⟩));have Uo:=Hi (show w4.drew.heap[y]?=_ from Qv.out);have Kz:=Hi (Vs.below (Ai w4.heap.size w4).drew);have HUD:=Hi (Ul.trans (A7.of_below (F:=fun k=>k=y) (Ai w4.heap.size w4).drew) (fun i hi=>.inl hi))
 have KS:=Hi (fun(V:World) (h:V.heap[y]?=some (Obj.cells (Km log size a b (some w1.heap.size) none) 116))=>(⟨(Kn h).1,(Kn h).2.1,(Kn h).2.2.1,(Kn h).2.2.2.1⟩:V.cell? ⟨y,0,none⟩=some (.pointer (some ⟨b,0,none⟩))∧V.cell? ⟨y,1,none⟩=some (.int .i64 (log:Int))∧V.cell? ⟨y,2,none⟩=some (.int .i64 (size:Int))∧V.cell? ⟨y,3,none⟩=some (.int .i64 (a:Int))));obtain⟨d0,d1,d2,d3⟩:=KS _ Qv.out;clear AB JX RH;go_wp2
 go_region_held3 (fun V=>V.cell? ⟨y,0,none⟩=some (.pointer (some ⟨b,0,none⟩))∧V.cell? ⟨y,1,none⟩=some (.int .i64 (log:Int))∧V.cell? ⟨y,2,none⟩=some (.int .i64 (size:Int))∧V.cell? ⟨y,3,none⟩=some (.int .i64 (a:Int)))
  (first|exact KS _ Uo|exact KS _ II|exact KS _ Ov)
  (first
   |(go_at_call 138;refine(agO _ log size a _ (by omega) (by omega) ha).mono ?_;rintro e w5 ⟨rfl,BF⟩;have II:=Hi ((BF.block y (Ao Uo)).trans Uo);have HD5:=Hi (Kz.below BF);have Xe:=Hi (HUD.trans (A7.of_below (F:=fun k=>k=y) BF) (fun i hi=>.inl hi));clear BF)
   |(go_at_call 159;refine(Rx _ HD5).mono ?_;rintro e w6 ⟨rfl,CS⟩;have Ov:=Hi ((CS.block y (Ao II)).trans II);have KJ:=Hi (Xe.trans (A7.of_below (F:=fun k=>k=y) CS) (fun i hi=>.inl hi));clear CS))
 clear d0 d1 d2 d3 Uo Kz HUD Vs Qv Ul HD5 II Xe KS;go_wp2_with fail;refine(nU _).mono ?_;rintro e w7⟨rfl,FK⟩;have yG:=Hi ((FK.block y (Ao Ov)).trans Ov);have bO:=Hi (KJ.trans (A7.of_below (F:=fun k=>k=y) FK) (fun i hi=>.inl hi));clear FK Ov KJ;go_wp2_with fail;refine(aq3 _).mono ?_;rintro e w8⟨mb,rfl,Wo,KU,hn8⟩;have yH:=Hi ((KU.block y (Ao yG)).trans yG);have j5:=Hi (bO.trans (A7.of_below (F:=fun k=>k=y) KU) (fun i hi=>.inl hi));have Uf:=Hi Wo;have HN8:=Hi (show w.heap.size≤mb from Aw bO.size hn8);clear KU yG bO Wo hn8;obtain⟨_,_,_,_,d4,_,_,df⟩:=Kn yH.out;have jk:=df 4;clear df;go_wp2;go_ret2;refine⟨mb,rfl,Cu w8 y 4 _ _ _ yH,Uf.upd (A7.setCell (F:=fun k=>k=y) (A7.refl _ _) (p:=⟨y,4,none⟩) (.inl rfl) _) ?_,j5.setCell (p:=⟨y,4,none⟩) (.inl rfl) _,HN8.out⟩;intro e;subst e;exact Uf.Dl ⟨_,_,yH⟩
end
section
open Go.RowKit Go.Maps
open Av
def WT(W:World)(b:Nat)(D:A8)(fp:Nat→Prop)(f:A8→A8×Int)(e:Ending)(W':World):Prop:=
 e=.returned (.int .i64 (f D).2)∧∃ fp',BB W' b (f D).1 fp'∧A7 fp W W'∧Dj fp fp' W
structure aeb(K:World→Prop)(b:Nat)(v:Value)(f:A8→A8×Int):Prop where
 more:∀ D,(f D).1.loose.length≤D.loose.length+1000000
 fn:∃ F recv JA,v=.func (.func F) recv JA∧(∀ args w,(callFunc F args).run prog w=.ok (.enter F args) w)∧
  ∀ W D fp,K W→BB W b D fp→D.loose.length≤500000000→Calls prog F (recv++JA) W (WT W b D fp f)
structure wQ(K:World→Prop)(b:Nat)(vs:List Value)(fs:List (A8→A8×Int)):Prop where
 len:vs.length=fs.length
 each:∀ i (h:i < vs.length) (h':i < fs.length),aeb K b vs[i] fs[i]
theorem BB.kindOf{w:World}{b:Nat}{D:A8}{fp:Nat→Prop}(h:BB w b D fp){k:Nat}(hk:fp k){t:TypeId}(hb:Bb w k t):t=144∨t=242:=by
 obtain⟨m,lv,hI,rfl⟩:=h;obtain⟨cs,fr,hb⟩:=hb;rcases hk with rfl|rfl|hk
 ·rw[hI.struct] at hb;injection hb with hb
  injection hb with _ hb _
  exact .inl hb.symm
 ·obtain⟨kv,⟨_,D',⟨es,clock,hm,_⟩,_⟩,_⟩:=hI.base;rw[hm] at hb;injection hb with hb
  cases hb
 ·rcases hI.loose.2 with⟨e1,_⟩|⟨g,cap,cur,e1,_,hg,_⟩
  ·subst e1;simp[Value.ownBlock] at hk
  ·subst e1;simp[Value.ownBlock] at hk;subst hk;rw[hg] at hb;injection hb with hb
   injection hb with _ hb _
   exact .inr hb.symm
theorem as8{fs:List (A8→A8×Int)}(h:fs=[])(E:A8):Bu fs E=(E,0):=by subst h;rfl
theorem ay9(a b c k:Nat)(h1:a≤b+1000000)(h2:b≤c+1000000*k):a≤c+1000000*(k+1):=by
 rw[Nat.mul_succ,←Nat.add_assoc];generalize 1000000*k=m at*;omega
def wO(w:World)(x b:Nat)(gv:Value)(L:BD)(fp:Nat→Prop)(r:A8×Int)(e:Ending)(w':World):Prop:=
 e=.returned (.int .i64 r.2)∧∃ fp',BB w' b r.1 fp'∧Cm w' x b gv (if r.2=0 then L else L.fell r.2)∧A7 (fun k=>fp k∨k=x) w w'∧Dj fp fp' w
theorem Cm.vI{w:World}{x b:Nat}{gv:Value}{L:BD}(h:Cm w x b gv L)(k:Int):Cm (w.setCell ⟨x,6,none⟩ (.int .i64 k)) x b gv (L.fell k):=by
 have hu:A7 (fun i=>i=x) w (w.setCell ⟨x,6,none⟩ (.int .i64 k)):=(A7.refl (fun i=>i=x) w).setCell (p:=⟨x,6,none⟩) (.inl rfl) _;refine⟨Cu w x 6 _ _ _ h.struct,h.groups.upd hu (fun i hi e=>by subst e;exact Bb.ne hi ⟨_,_,h.struct⟩ (by decide) rfl) (fun g hg e=>h.ne (by rw[hg,e])),h.gen,h.used,h.n⟩
theorem Cm.apart{w:World}{x b:Nat}{gv:Value}{L:BD}(h:Cm w x b gv L){b':Nat}{D:A8}{fp:Nat→Prop}(hd:BB w b' D fp):¬ fp x:=fun hk=>by
 have:=hd.kindOf hk ⟨_,_,h.struct⟩
 revert this;decide
theorem agF{w:World}{x b g n cap:Nat}{gv:Value}{L:BD}{D:A8}{fp:Nat→Prop}{K:World→Prop}{vs:List Value}{fs:List (A8→A8×Int)}
  (hd:BB w b D fp)(hl:Cm w x b gv L)(hK:K w)(hKs:∀ W W' D fp,K W→BB W b D fp→A7 fp W W'→K W')(hf:wQ K b vs fs)(hv:∀ i u,vs[i]?=some u→w.cell? ⟨g,i,none⟩=some u)(hg:Bb w g 129)(hn:vs.length=n)(eH:n≤5)(I7:D.loose.length≤400000000):
  Calls prog 148 #[.pointer (some ⟨x,0,none⟩),.slice (some ⟨g,0,none⟩) n cap] w fun e w'=>wO w x b gv L fp (Bu fs D) e w':=by
 have HD:=Hi hd;have HL:=Hi hl;have HK:=Hi hK;have JW:=Hi hKs;have HF:=Hi hf;have HV:=Hi hv;have HG:=Hi hg;have HN:=Hi hn;clear hd hl hK hKs hf hv hg hn
 go_in
 go_wp2
 go_loopw [10] (fun i wr=>∃ (k:Nat) (E:A8) (fe:Nat→Prop),k≤n∧i=.int .i64 k∧BB wr b E fe∧K wr∧A7 fp w wr∧Dj fp fe w∧E.loose.length≤D.loose.length+1000000*k∧Bu fs D=Bu (fs.drop k) E) (fun i _=>n -(intOf i).toNat)
 case atStart=>exact⟨0,D,fp,AV _,rfl,HD,HK,A7.refl _ _,fun _ h=>.inl h,by omega,by rw[List.drop_zero]⟩
 case round=>
  obtain⟨k,E,fe,hk,rfl,hE,hKr,hU,hS,XD,PQ⟩:=hrel;have HE:=Hi hE;have Ls:=Hi hKr;have HU:=Hi hU;have HS:=Hi hS;have Qn:=Hi PQ;clear hE hKr hU hS PQ;by_cases hlt:k < n
  ·have Ke:k < vs.length:=(by rw[HN.out];exact hlt);have ZI:k < fs.length:=(by rw[←HF.len];exact Ke);obtain⟨ajU,F,recv,JA,hv,NQ,K9⟩:=HF.each k Ke ZI;have dO:=HV k _ (CJ Ke);have hc:wr.cell? ⟨g,k,none⟩=some (.func (.func F) recv JA):=by
    rw[←hv,←dO];exact HU.cell (p:=⟨g,k,none⟩) HG.lt (fun hk=>by have:=HD.kindOf hk HG.out;revert this;decide)
   have Bc:Bu (fs.drop k) E=if(fs[k] E).2=0 then Bu (fs.drop (k+1)) (fs[k] E).1 else fs[k] E:=by
    rw[Rk ZI,di]
   have EH:=ajU E;have BN:=K9 wr E fe Ls HE (by omega);generalize fs[k]=f at*;have EE:=Hi BN;have Bh:=Hi Bc;clear dO hv K9 ajU BN Bc Ke ZI;go_wp2_with fail;refine EE.mono ?_;rintro e w1⟨rfl,zY,OC,FY,TG⟩;have Qm:=Hi OC;have YS:=Hi (JW _ _ _ _ Ls HE FY);have MU:=Hi (HU.trans FY HS)
   have BU:=Hi (show Dj fp zY w from fun i hi=>by
    rcases TG i hi with h|h
    ·exact HS i h
    ·exact .inr (Aw HU.size h))
   clear OC FY TG hc;generalize f E=r at*;obtain⟨E1,e1⟩:=r;by_cases h0:e1=0
   ·subst h0;have SH:=Hi (show Bu fs D=Bu (fs.drop (k+1)) E1 by rw[Qn.out,Bh.out];rfl);have ZO:E1.loose.length≤E.loose.length+1000000:=EH;have OL:=ay9 _ _ _ _ ZO XD;have apO:=Hi OL;clear EH OL;go_wp2;go_roundw
    case rel=>exact⟨k+1,E1,zY,by omega,by go_num,Qm,YS,MU,BU,apO,SH⟩
    case measure=>simp[intOf];omega
   ·have Bg:(e1 == 0)=false:=(by simp[h0]);have Aj:(e1 != 0)=true:=(by simp[h0]);have SH:=Hi (show Bu fs D=(E1,e1) by rw[Qn.out,Bh.out,Ab h0]);have G7:=Hi (HL.disk HD MU);have H0:=Hi h0;obtain⟨c0,c1,c2,c3,c4,c5,c6,cf⟩:=G7.cells;have cf6:=cf 6;clear h0 EH cf;go_wp2;go_ret;unfold wO;rw[SH.out];refine⟨rfl,zY,Qm.upd (F:=fun i=>i=x) ((A7.refl (fun i=>i=x) w1).setCell (p:=⟨x,6,none⟩) (.inl rfl) _) (fun i hi e=>G7.apart Qm (by rw[←e];exact hi)),?_,(MU.mono (fun i hi=>.inl hi)).setCell (p:=⟨x,6,none⟩) (.inl (.inr rfl)) _,BU.out⟩;rw[Ab (by exact H0.out)];exact G7.vI e1
  ·obtain rfl:k=n:=(by omega);have IK:fs.drop k=[]:=List.drop_eq_nil_of_le (by rw[←HF.len,HN.out];exact Ae _);have SH:=Hi (Qn.trans (as8 IK E));have G7:=Hi (HL.disk HD HU);clear IK;go_wp2;go_ret;unfold wO;rw[SH.out];exact⟨rfl,fe,HE,by rw[Ad rfl];exact G7.out,HU.mono (fun i hi=>.inl hi),HS.out⟩
end
section
open Go.RowKit Go.Maps
open Av
theorem Io{w:World}{k:Nat}{v:Value}{t:TypeId}(h:w.heap[k]?=some (.cells #[v] t)):w.cell? ⟨k,0,none⟩=some v:=by rw[BL w _ _ _ _ _ h];rfl
theorem adG(g:Nat):IntKind.u64.wrap ((g:Int)+1)=(((g+1) % 18446744073709551616:Nat):Int):=by
 simp[IntKind.wrap,IntKind.bits,IntKind.signed]
structure Qh(W:World)(x b:Nat)(gv:Value)(L:BD)(c0 s0 k0:Nat)(s:List UInt8)(k:Nat):Prop where
 DL:Cm W x b gv L
 box:W.heap[c0]?=some (.cells #[.pointer (some ⟨x,0,none⟩)] 114)
 txt:W.heap[s0]?=some (.cells #[.string (bs s)] 9)
 num:W.heap[k0]?=some (.cells #[.int .i64 (k:Int)] 3)
theorem Qh.upd{W W':World}{x b:Nat}{gv:Value}{L:BD}{c0 s0 k0:Nat}{s:List UInt8}{k:Nat}(h:Qh W x b gv L c0 s0 k0 s k){b':Nat}{D:A8}{fp:Nat→Prop}(hd:BB W b' D fp)(hu:A7 fp W W'):Qh W' x b gv L c0 s0 k0 s k:=
 ⟨h.DL.disk hd hu,(hu.block c0 (Ao h.box) (fun hk=>by have:=hd.kindOf hk ⟨_,_,h.box⟩;revert this;decide)).trans h.box,(hu.block s0 (Ao h.txt) (fun hk=>by have:=hd.kindOf hk ⟨_,_,h.txt⟩;revert this;decide)).trans h.txt,(hu.block k0 (Ao h.num) (fun hk=>by have:=hd.kindOf hk ⟨_,_,h.num⟩;revert this;decide)).trans h.num⟩
theorem Qh.below{W W':World}{x b:Nat}{gv:Value}{L:BD}{c0 s0 k0:Nat}{s:List UInt8}{k:Nat}(h:Qh W x b gv L c0 s0 k0 s k)(hb:Bw W W'):Qh W' x b gv L c0 s0 k0 s k:=
 ⟨h.DL.below hb,(hb.block c0 (Ao h.box)).trans h.box,(hb.block s0 (Ao h.txt)).trans h.txt,(hb.block k0 (Ao h.num)).trans h.num⟩
theorem Qh.cells{W:World}{x b:Nat}{gv:Value}{L:BD}{c0 s0 k0:Nat}{s:List UInt8}{k:Nat}(h:Qh W x b gv L c0 s0 k0 s k):
  W.cell? ⟨c0,0,none⟩=some (.pointer (some ⟨x,0,none⟩))∧W.cell? ⟨s0,0,none⟩=some (.string (bs s))∧W.cell? ⟨k0,0,none⟩=some (.int .i64 (k:Int))∧
  W.cell? ⟨x,0,none⟩=some (.int .u64 (L.gen:Int))∧W.cell? ⟨x,1,none⟩=some (.int .i64 (L.used:Int))∧W.cell? ⟨x,2,none⟩=some (.pointer (some ⟨b,0,none⟩))∧W.cell? ⟨x,3,none⟩=some (.int .i64 (L.from_:Int)):=by
 obtain⟨c0,c1,c2,c3,_⟩:=h.DL.cells;exact⟨Io h.box,Io h.txt,Io h.num,c0,c1,c2,c3⟩
structure SY(W:World)(x b:Nat)(gv:Value)(L:BD)(c0:Nat):Prop where
 DL:Cm W x b gv L
 box:W.heap[c0]?=some (.cells #[.pointer (some ⟨x,0,none⟩)] 114)
theorem SY.of{W:World}{x b:Nat}{gv:Value}{L:BD}{c0:Nat}(h:Cm W x b gv L)(h2:W.heap[c0]?=some (.cells #[.pointer (some ⟨x,0,none⟩)] 114)):SY W x b gv L c0:=⟨h,h2⟩
theorem SY.upd{W W':World}{x b:Nat}{gv:Value}{L:BD}{c0:Nat}(h:SY W x b gv L c0){b':Nat}{D:A8}{fp:Nat→Prop}(hd:BB W b' D fp)(hu:A7 fp W W'):SY W' x b gv L c0:=
 ⟨h.DL.disk hd hu,(hu.block c0 (Ao h.box) (fun hk=>by have:=hd.kindOf hk ⟨_,_,h.box⟩;revert this;decide)).trans h.box⟩
theorem SY.below{W W':World}{x b:Nat}{gv:Value}{L:BD}{c0:Nat}(h:SY W x b gv L c0)(hb:Bw W W'):SY W' x b gv L c0:=
 ⟨h.DL.below hb,(hb.block c0 (Ao h.box)).trans h.box⟩
section
variable {W:World}{x b:Nat}{gv:Value}{L:BD}{c0 s0 k0:Nat}{s:List UInt8}{k:Nat}{D:A8}{fp:Nat→Prop}
theorem yX{f:A8→A8×Int}{e:Ending}{W':World}(he:e=.returned (.int .i64 (f D).2)){fp':Nat→Prop}(hd:BB W' b (f D).1 fp')(hu:A7 fp W W')(hs:Dj fp fp' W):WT W b D fp f e W':=⟨he,fp',hd,hu,hs⟩
theorem arx(h:Qh W x b gv L c0 s0 k0 s k)(hd:BB W b D fp)(hs:s.length≤10000000)(hl:D.loose.length≤500000000):
  Calls prog 145 #[.pointer (some ⟨c0,0,none⟩),.pointer (some ⟨s0,0,none⟩)] W (WT W b D fp (fun D=>D.write ((L.from_+1+L.used:Nat):Int) s)):=by
 have g1:=h.DL.used;have g2:=h.DL.n;have HC:=Hi h;have HD:=Hi hd;have aiO:=fun(W':World) (hb:Bw W W')=>(h.below hb).cells
 have aD7:=Hi aiO;have e1:IntKind.i64.wrap ((L.from_:Int)+1)=(L.from_:Int)+1:=ET _ (by omega);have e2:IntKind.i64.wrap ((L.from_:Int)+1+(L.used:Int))=(L.from_:Int)+1+(L.used:Int):=ET _ (by omega);have hat:((L.from_+1+L.used:Nat):Int)=(L.from_:Int)+1+(L.used:Int):=by omega
 have hw:=fun(W':World) (hb:Bw W W')=>nH (hd.below hb) ((L.from_:Int)+1+(L.used:Int)) s (by omega) (by omega) (by omega)
 have HW:=Hi hw;have IV:=Hi hat;obtain⟨d0,d1,d2,d3,d4,d5,d6⟩:=h.cells;clear h hd aiO hw hat;rw[IV.out]
 go_in
 go_wp2
 go_region_held3 (fun V=>V.cell? ⟨c0,0,none⟩=some (.pointer (some ⟨x,0,none⟩))∧V.cell? ⟨s0,0,none⟩=some (.string (bs s))∧V.cell? ⟨x,1,none⟩=some (.int .i64 (L.used:Int))∧V.cell? ⟨x,2,none⟩=some (.pointer (some ⟨b,0,none⟩))∧V.cell? ⟨x,3,none⟩=some (.int .i64 (L.from_:Int)))
  (first|exact⟨d0,d1,d4,d5,d6⟩|exact⟨KA.cells.1,KA.cells.2.1,KA.cells.2.2.2.2.1,KA.cells.2.2.2.2.2.1,KA.cells.2.2.2.2.2.2⟩)
  (first
   |(go_at_call 137;refine(HW _ ((Ai W.heap.size W).drew)).mono ?_;rintro e wa ⟨rfl,fpa,QK,TI,Ws⟩;have KA:=Hi ((HC.below ((Ai W.heap.size W).drew)).upd (HD.below ((Ai W.heap.size W).drew)) TI);have Ky:=Hi (Cw QK (Cw TI Ws));clear QK TI Ws))
 go_wp2;go_ret;exact yX rfl Ky.1 ((A7.of_below (F:=fp) ((Ai W.heap.size W).drew)).trans Ky.2.1 (fun _ h=>.inl h)) Ky.2.2
theorem arv(h:Qh W x b gv L c0 s0 k0 s k)(hd:BB W b D fp)(hk:k≤1000000)(hl:D.loose.length≤500000000):
  Calls prog 146 #[.pointer (some ⟨c0,0,none⟩),.pointer (some ⟨k0,0,none⟩)] W (WT W b D fp (fun D=>D.write (L.from_:Int) (Av.mark L.gen (L.used+k)))):=by
 have g1:=h.DL.used;have g2:=h.DL.n;have g3:=h.DL.gen;have HC:=Hi h;have HD:=Hi hd;have e2:IntKind.i64.wrap ((L.used:Int)+(k:Int))=(L.used:Int)+(k:Int):=ET _ (by omega);have hm:=fun(W':World)=>lU L.gen (L.used+k) W' g3 (by omega)
 have EH:=Av.O4 L.gen (L.used+k);have hw:=fun(W':World) (hb:Bw W W')=>nH (hd.below hb) (L.from_:Int) (Av.mark L.gen (L.used+k)) (by omega) (by omega) (by omega)
 have rO:((L.used+k:Nat):Int)=(L.used:Int)+(k:Int):=by omega
 rw[rO] at hm;have HM:=Hi hm;have HW:=Hi hw;obtain⟨d0,d1,d2,d3,d4,d5,d6⟩:=h.cells;clear h hd hm hw EH rO g3
 go_in
 go_wp2
 go_region_held3 (fun V=>V.cell? ⟨c0,0,none⟩=some (.pointer (some ⟨x,0,none⟩))∧V.cell? ⟨k0,0,none⟩=some (.int .i64 (k:Int))∧V.cell? ⟨x,0,none⟩=some (.int .u64 (L.gen:Int))∧V.cell? ⟨x,1,none⟩=some (.int .i64 (L.used:Int))∧V.cell? ⟨x,2,none⟩=some (.pointer (some ⟨b,0,none⟩))∧V.cell? ⟨x,3,none⟩=some (.int .i64 (L.from_:Int)))
  (first|exact⟨d0,d2,d3,d4,d5,d6⟩|exact⟨KM.cells.1,KM.cells.2.2.1,KM.cells.2.2.2.1,KM.cells.2.2.2.2.1,KM.cells.2.2.2.2.2.1,KM.cells.2.2.2.2.2.2⟩|exact⟨KA.cells.1,KA.cells.2.2.1,KA.cells.2.2.2.1,KA.cells.2.2.2.2.1,KA.cells.2.2.2.2.2.1,KA.cells.2.2.2.2.2.2⟩)
  (first
   |(go_at_call 147;refine(HM _).mono ?_;rintro e wm ⟨rfl,Wj⟩;have SE:=Hi (((Ai W.heap.size W).drew).trans Wj);have KM:=Hi (HC.below SE);clear Wj)
   |(go_at_call 137;refine(HW _ SE).mono ?_;rintro e wa ⟨rfl,fpa,QK,TI,Ws⟩;have KA:=Hi (KM.upd (HD.below SE) TI);have Ky:=Hi (Cw QK (Cw TI Ws));clear QK TI Ws))
 go_wp2;go_ret;refine yX rfl Ky.1 ((A7.of_below (F:=fp) SE).trans Ky.2.1 (fun _ h=>.inl h)) (fun i hi=>?_);rcases Ky.2.2 i hi with h|h
 ·exact .inl h
 ·exact .inr (Aw SE.size h)
theorem arw(h:SY W x b gv L c0)(hd:BB W b D fp)(hl:D.loose.length≤500000000):
  Calls prog 166 #[.pointer (some ⟨c0,0,none⟩)] W (WT W b D fp (fun D=>D.write (L.from_:Int) (Av.mark ((L.gen+1) % 18446744073709551616) 0))):=by
 have g2:=h.DL.n;have g3:(L.gen+1) % 18446744073709551616 < 18446744073709551616:=Nat.mod_lt _ (by decide);have HC:=Hi h;have HD:=Hi hd;have e2:IntKind.u64.wrap ((L.gen:Int)+1)=(((L.gen+1) % 18446744073709551616:Nat):Int):=adG L.gen;have d0:=Io h.box;obtain⟨d3,_,d5,d6,_⟩:=h.DL.cells;have HE:=Hi e2;generalize (L.gen+1) % 18446744073709551616=g at*;have hm:=fun(W':World)=>lU g 0 W' g3 (by decide)
 have EH:=Av.O4 g 0;have hw:=fun(W':World) (hb:Bw W W')=>nH (hd.below hb) (L.from_:Int) (Av.mark g 0) (by omega) (by omega) (by omega)
 have HM:=Hi hm;have HW:=Hi hw;clear h hd hm hw EH g3
 go_in
 go_wp2
 go_region_held3 (fun V=>V.cell? ⟨c0,0,none⟩=some (.pointer (some ⟨x,0,none⟩))∧V.cell? ⟨x,0,none⟩=some (.int .u64 (L.gen:Int))∧V.cell? ⟨x,2,none⟩=some (.pointer (some ⟨b,0,none⟩))∧V.cell? ⟨x,3,none⟩=some (.int .i64 (L.from_:Int)))
  (first|exact⟨d0,d3,d5,d6⟩|exact⟨Io KM.box,KM.DL.cells.1,KM.DL.cells.2.2.1,KM.DL.cells.2.2.2.1⟩|exact⟨Io KA.box,KA.DL.cells.1,KA.DL.cells.2.2.1,KA.DL.cells.2.2.2.1⟩)
  (first
   |(go_at_call 147;refine(HM _).mono ?_;rintro e wm ⟨rfl,Wj⟩;have SE:=Hi (((Ai W.heap.size W).drew).trans Wj);have KM:=Hi (HC.below SE);clear Wj)
   |(go_at_call 137;refine(HW _ SE).mono ?_;rintro e wa ⟨rfl,fpa,QK,TI,Ws⟩;have KA:=Hi (KM.upd (HD.below SE) TI);have Ky:=Hi (Cw QK (Cw TI Ws));clear QK TI Ws))
 go_wp2;go_ret;refine yX rfl Ky.1 ((A7.of_below (F:=fp) SE).trans Ky.2.1 (fun _ h=>.inl h)) (fun i hi=>?_);rcases Ky.2.2 i hi with h|h
 ·exact .inl h
 ·exact .inr (Aw SE.size h)
end
theorem atf{x b:Nat}{gv:Value}{L:BD}{c0 s0 k0:Nat}{s:List UInt8}(hs:s.length≤10000000):
  wQ (fun W=>Qh W x b gv L c0 s0 k0 s (s.length / 64)) b
   [.func (.func 145) #[] #[.pointer (some ⟨c0,0,none⟩),.pointer (some ⟨s0,0,none⟩)],.func (.func 143) #[.pointer (some ⟨b,0,none⟩)] #[],.func (.func 146) #[] #[.pointer (some ⟨c0,0,none⟩),.pointer (some ⟨k0,0,none⟩)],.func (.func 143) #[.pointer (some ⟨b,0,none⟩)] #[]] (L.acts s):=by
 have IK:aeb (fun W=>Qh W x b gv L c0 s0 k0 s (s.length / 64)) b (.func (.func 143) #[.pointer (some ⟨b,0,none⟩)] #[]) A8.flush:=
  ⟨fun D=>by have:=A8.Uz D;omega,_,_,_,rfl,enters_of func143 (by kernel_rfl) rfl,fun W D fp _ hd hl=>qC hd (by omega)⟩
 refine⟨rfl,fun i h h'=>?_⟩
 match i,h with
 |0,_=>exact⟨fun D=>by have:=A8.TY D ((L.from_+1+L.used:Nat):Int) s;show(D.write ((L.from_+1+L.used:Nat):Int) s).1.loose.length≤_;omega,_,_,_,rfl,enters_of func145 (by kernel_rfl) rfl,fun W D fp hK hd hl=>arx hK hd hs hl⟩
 |1,_=>exact IK
 |2,_=>exact⟨fun D=>by have:=A8.TY D (L.from_:Int) (Av.mark L.gen (L.used+s.length / 64));rw[Av.O4] at this;show(D.write (L.from_:Int) (Av.mark L.gen (L.used+s.length / 64))).1.loose.length≤_;omega,_,_,_,rfl,enters_of func146 (by kernel_rfl) rfl,fun W D fp hK hd hl=>arv hK hd (by omega) hl⟩
 |3,_=>exact IK
theorem ath{x b:Nat}{gv:Value}{L:BD}{c0:Nat}:
  wQ (fun W=>SY W x b gv L c0) b
   [.func (.func 166) #[] #[.pointer (some ⟨c0,0,none⟩)],.func (.func 143) #[.pointer (some ⟨b,0,none⟩)] #[]] L.LZ:=by
 refine⟨rfl,fun i h h'=>?_⟩
 match i,h with
 |0,_=>exact⟨fun D=>by have:=A8.TY D (L.from_:Int) (Av.mark ((L.gen+1) % 18446744073709551616) 0);rw[Av.O4] at this;show(D.write (L.from_:Int) (Av.mark ((L.gen+1) % 18446744073709551616) 0)).1.loose.length≤_;omega,_,_,_,rfl,enters_of func166 (by kernel_rfl) rfl,fun W D fp hK hd hl=>arw hK hd hl⟩
 |1,_=>exact⟨fun D=>by have:=A8.Uz D;show D.flush.1.loose.length≤_;omega,_,_,_,rfl,enters_of func143 (by kernel_rfl) rfl,fun W D fp _ hd hl=>qC hd (by omega)⟩
end
section
section
variable {P:Program}{ops:Array Oper}{Q:Exit→Act→World→Prop}{md:Region.Mode}{S:World→Prop}{z:Nat}
def Vk(P:Program)(md:Region.Mode)(ops:Array Oper)(Q:Exit→Act→World→Prop)(S:World→Prop)(z:Nat):Nat→Array Bool→Act→World→Prop
 |0,listed,a,w=>Region.ready md ops listed=[]∧Q .normal a w
 |fuel+1,listed,a,w=>(Region.ready md ops listed=[]→Q .normal a w)∧
  ∀ i∈Region.ready md ops listed,wpOp P ops Q i (fun a' w'=>(i≠z→S w')∧Vk P md ops Q S z fuel (listed.setIfInBounds i true) a' w') a w
theorem aoG:∀ (fuel:Nat) (listed:Array Bool) (a:Act) (w:World),Vk P md ops Q S z fuel listed a w→wpAny P md ops Q fuel listed a w
 |0,_,_,_,h=>h
 |fuel+1,_,_,_,h=>⟨h.1,fun i hi=>wpOp_mono (fun a' w' h'=>aoG fuel _ a' w' h'.2) (h.2 i hi)⟩
def waits(md:Region.Mode)(ops:Array Oper)(z i:Nat):Bool:=match ops[z]? with
 |none=>false
 |some o=>o.after.any fun e=>Region.binds md e && e.on == i
theorem aCo{i:Nat}{o:Oper}(h:waits md ops z i=true)(ho:ops[z]?=some o)(hn:∀ e∈o.after,Region.binds md e=true→e.on≠i):False:=by
 unfold waits at h;rw[ho] at h;obtain⟨e,he,hb⟩:=Array.any_eq_true'.1 h;simp only[Bool.and_eq_true,beq_iff_eq] at hb;exact hn e he hb.1 hb.2
theorem aoF{i:Nat}{oi:Oper}{v:Value}(hi:ops[i]?=some oi)(hz:waits md ops z i=true)(abS:∀ (j:Nat) (o:Oper) cs b,ops[j]?=some o→o.op≠.select cs b)
  (hQ:∀ c a w,Q (.panic c) (a.put oi.dst v) w→Q (.panic c) a w):
  ∀ (fuel:Nat) (listed:Array Bool) (a:Act) (w:World),
   (∀ j oj,ops[j]?=some oj→j≠i→listed.getD j true=false→(∀ e∈oj.after,Region.binds md e=true→e.on≠i)→oi.apart ops oj=true)→
   i∈Region.ready md ops listed→YieldsIf P ops S oi v a→S w→
   Vk P md ops Q S z fuel (listed.setIfInBounds i true) (a.put oi.dst v) w→Vk P md ops Q S z (fuel+1) listed a w
 |fuel,listed,a,w=>fun aje hr hy hS H=>by
  refine⟨fun h=>(by rw[h] at hr;cases hr),fun j hj=>?_⟩;by_cases dU:j=i
  ·subst dU;exact hy.wpOp hi hS ⟨fun _=>hS,H⟩
  ·obtain⟨ajA,oj,eP,hall⟩:=mem_ready.1 hj;have ak3:∀ e∈oj.after,Region.binds md e=true→e.on≠i:=fun e he hb heq=>by
    have h1:=hall e he hb;have h0:=(mem_ready.1 hr).1;rw[heq] at h1;rcases Nat.lt_or_ge i listed.size with h'|h'
    ·simp[h'] at h0 h1;rw[h0] at h1;cases h1
    ·simp[Array.getElem?_eq_none h'] at h1
   have hjz:j≠z:=fun e=>by subst e;exact aCo hz eP ak3
   cases fuel with
   |zero=>
    have h2:=ready_mono hj dU;rw[H.1] at h2;cases h2
   |succ fuel=>
    have h2:=wpOp_putIf eP (aje j oj eP dU ajA ak3) (fun cs b=>abS i oi cs b hi) (fun cs b=>abS j oj cs b eP) hQ hy (H.2 j (ready_mono hj dU));refine wpOp_mono (fun a' w' h3=>⟨h3.2.1,aoF hi hz abS hQ fuel (listed.setIfInBounds j true) a' w' (fun k ok hk sF TJ D9=>?_) (ready_mono hr (Ne.symm dU)) h3.1 (h3.2.1 hjz) ?_⟩) h2
    ·refine aje k ok hk sF ?_ D9;by_cases XX:j=k
     ·subst XX;exact ajA
     ·rw[getD_set_ne true XX] at TJ;exact TJ
    ·rw[Array.setIfInBounds_comm _ _ dU];exact h3.2.2
theorem gW{i:Nat}{oi:Oper}{v:Value}{fuel:Nat}{listed:Array Bool}{a:Act}{w:World}(hi:ops[i]?=some oi)(hz:waits md ops z i=true)
  (hs:Region.noSelect ops=true)(hf:Region.free md ops listed i=true)(hr:(Region.ready md ops listed).contains i=true)
  (hQ:∀ c a w,Q (.panic c) (a.put oi.dst v) w→Q (.panic c) a w)(hy:YieldsIf P ops S oi v a)(hS:S w)
  (h:Vk P md ops Q S z fuel (listed.setIfInBounds i true) (a.put oi.dst v) w):Vk P md ops Q S z (fuel+1) listed a w:=
 aoF hi hz (Region.noSelect_spec hs) hQ fuel listed a w (Region.free_spec hi hf) (by simpa using hr) hy hS h
theorem gV{i:Nat}{o:Oper}{fuel:Nat}{listed:Array Bool}{a:Act}{w:World}(hr:Region.ready md ops listed=[i])(ho:ops[i]?=some o)
  (h:∀ K':Act→World→Prop,Shut (∀ a w,(i≠z→S w)→Vk P md ops Q S z fuel (listed.setIfInBounds i true) a w→K' a w)→if Region.wanted o (yielded ops a.tmps)=true then Oper.wp P o a w K' Q else K' (a.put o.dst undef) w):
  Vk P md ops Q S z (fuel+1) listed a w:=
 ⟨fun h0=>(by rw[hr] at h0;cases h0),fun j hj=>by
  rw[hr,FJ] at hj;subst hj;exact wpOp_step ho (fun K' hK=>h K' (fun a w hS hW=>hK a w ⟨hS,hW⟩))⟩
theorem aCJ{listed:Array Bool}{a:Act}{w:World}(hr:Region.ready md ops listed=[])(h:Q .normal a w):∀ fuel,Vk P md ops Q S z fuel listed a w
 |0=>⟨hr,h⟩
 |_+1=>⟨fun _=>h,by rw[hr];simp⟩
theorem aCL{id:Nat}{a:Act}{w:World}(hm:P.follows .mixedOrders=true)(h:Vk P .any ops Q S z ops.size (Array.replicate ops.size false) a w.drew):(Code.region id ops true).wp P Q a w:=
 wp_region_any hm (aoG _ _ _ _ h)
end
end
section
open Go.RowKit Go.Maps
open Av
def Ze(w:World)(x b:Nat)(gv:Value)(fp:Nat→Prop)(r:A8×BD×Int)(e:Ending)(w':World):Prop:=
 e=.returned (.int .i64 r.2.2)∧∃ fp' Fp,BB w' b r.1 fp'∧Cm w' x b Fp r.2.1∧A7 (fun k=>fp k∨BS x gv k) w w'∧Dj fp fp' w∧Dj (BS x gv) (BS x Fp) w
theorem uO{w w':World}{x b:Nat}{gv:Value}{fp:Nat→Prop}{D:A8}{L:BD}{k:Int}{r:A8×BD×Int}{e:Ending}(hr:r=(D,L,k))(he:e=.returned (.int .i64 k))(hd:BB w b D fp)(hl:Cm w x b gv L)(hb:Bw w w'):Ze w x b gv fp r e w':=by
 subst hr;exact⟨he,fp,gv,hd.below hb,hl.below hb,A7.of_below hb,fun _ h=>.inl h,fun _ h=>.inl h⟩
theorem uN{w w':World}{x b:Nat}{gv Fp:Value}{fp fp':Nat→Prop}{D:A8}{L:BD}{k:Int}{r:A8×BD×Int}{e:Ending}(hr:r=(D,L,k))(he:e=.returned (.int .i64 k))(hd:BB w' b D fp')(hl:Cm w' x b Fp L)(hu:A7 (fun k=>fp k∨BS x gv k) w w')(hs:Dj fp fp' w)(Mx:Dj (BS x gv) (BS x Fp) w):Ze w x b gv fp r e w':=by
 subst hr;exact⟨he,fp',Fp,hd,hl,hu,hs,Mx⟩
theorem Du.upd{F:Nat→Prop}{w w':World}{a:Option Addr}{l:List (List UInt8)}(h:Du w a l)(hu:A7 F w w')(hF:∀ p,a=some p→l≠[]→¬ F p.block):Du w' a l:=fun i hi=>by
 obtain⟨p,rfl,hc⟩:=h i hi;have e:(p.add i).block=p.block:=by unfold Addr.add;split<;>rfl
 exact⟨p,rfl,(hu.cell (p:=p.add i) (Cr hc) (by rw[e];exact hF p rfl (fun e=>by subst e;simp at hi))).trans hc⟩
theorem Cm.aqD{w:World}{x b:Nat}{gv:Value}{L:BD}(h:Cm w x b gv L){b':Nat}{D:A8}{fp:Nat→Prop}(hd:BB w b' D fp)(k:Nat)(hk:fp k):¬ BS x gv k:=by
 rintro(rfl|hg)
 ·exact h.apart hd hk
 ·obtain⟨cs,h1,_⟩:=h.groups;have:=hd.kindOf hk (Cn h1 hg)
  revert this;decide
theorem Cm.aAD{w:World}{x b:Nat}{gv:Value}{L:BD}(h:Cm w x b gv L)(u:Nat)(hu:u+1≤L.n):Cm (w.setCell ⟨x,1,none⟩ (.int .i64 (u:Int))) x b gv { L with used:=u }:=by
 have Wx:A7 (fun i=>i=x) w (w.setCell ⟨x,1,none⟩ (.int .i64 (u:Int))):=(A7.refl (fun i=>i=x) w).setCell (p:=⟨x,1,none⟩) (.inl rfl) _;refine⟨Cu w x 1 _ _ _ h.struct,h.groups.upd Wx (fun i hi e=>by subst e;exact Bb.ne hi ⟨_,_,h.struct⟩ (by decide) rfl) (fun g hg e=>h.ne (by rw[hg,e])),h.gen,hu,h.n⟩
section
variable {w:World}{x b:Nat}{gv:Value}{L:BD}{D:A8}{fp:Nat→Prop}{l:List (List UInt8)}{a:Option Addr}{cap:Nat}
theorem afH(hd:BB w b D fp)(hl:Cm w x b gv L)(hx:Du w a l)(hlen:l.length≤maxLen)(D7:rowLen l≤1000000)(NL:L.fault≠0∨I4 l=none):
  Calls prog 65 #[.pointer (some ⟨x,0,none⟩),.slice a l.length cap] w fun e w'=>Ze w x b gv fp (Dx D L l) e w':=by
 have HD:=Hi hd;have HL:=Hi hl;have Fy:=Hi hlen;have Aj:=(Ai w.heap.size w).alloc (Ae _) (.cells #[.pointer (some ⟨x,0,none⟩)] 114);have HB1:=Hi Aj;have G7:=Hi (hl.below Aj);have Pv:=Hi (hx.below Aj);by_cases hf:L.fault=0
 ·have hg:I4 l=none:=NL.resolve_left (fun h=>h hf);have hR:Hid (Dx D L l=(D,L,5)):=Hi (by unfold Dx;rw[Ab (by simp[hf]),hg]);have hV:Hid (JD l=([],5)):=Hi (by unfold JD;rw[hg]);have HF:=Hi hf;clear hd hl hx hlen NL Aj hf hg
  go_in
  go_wp2_with fail;refine(gU G7).mono ?_;rw[HF.out];rintro e w1⟨rfl,rfl⟩;go_wp2_with fail;refine(dD l a cap _ Pv Fy (by omega)).mono ?_;rw[hV.out];rintro e w1⟨rfl,hb⟩;have HB:=Hi hb;clear hb;go_wp2;go_ret;exact uO hR.out rfl HD HL ((HB1.trans (HB.mono (by rw[Ay];omega))).alloc (Aw (HB1.size) HB.size) _)
 ·have hR:Hid (Dx D L l=(D,L,L.fault)):=Hi (by unfold Dx;rw[Ad hf]);have Bg:(L.fault == 0)=false:=by simp[hf]
  have Ac:(L.fault != 0)=true:=by simp[hf]
  clear hd hl hx hlen NL Aj hf
  go_in
  go_wp2_with fail;refine(gU G7).mono ?_;rintro e w1⟨rfl,rfl⟩;go_wp2;go_ret;exact uO hR.out rfl HD HL HB1.out
theorem aqH(hd:BB w b D fp)(hl:Cm w x b gv L)(hx:Du w a l)(W9:∀ p,a=some p→l≠[]→¬ fp p.block∧¬ BS x gv p.block)(hlen:l.length≤1000000)(D7:rowLen l≤1000000)(hf:L.fault=0){s:List UInt8}(hg:I4 l=some s)(I7:D.loose.length≤400000000)(OI:L.groups.length≤1000000):
  Calls prog 65 #[.pointer (some ⟨x,0,none⟩),.slice a l.length cap] w fun e w'=>Ze w x b gv fp (Dx D L l) e w':=by
 have HD:=Hi hd;have HL:=Hi hl;have nS:=Hi W9;have HF:=Hi hf;have HX:=Hi hx;have Aj:=(Ai w.heap.size w).alloc (Ae _) (.cells #[.pointer (some ⟨x,0,none⟩)] 114);have HB1:=Hi Aj;have Md:=Hi (AQ w (.cells #[.pointer (some ⟨x,0,none⟩)] 114));have G7:=Hi (hl.below Aj);have Pv:=Hi (hx.below Aj);have hV:Hid (JD l=(s,0)):=Hi (by unfold JD;rw[hg]);have hR:Dx D L l=if L.n -1 -L.used < s.length / 64 then(D,L,4) else
  if(Bu (L.acts s) D).2=0 then((Bu (L.acts s) D).1,L.grown l (s.length / 64),0) else((Bu (L.acts s) D).1,L.fell (Bu (L.acts s) D).2,(Bu (L.acts s) D).2):=by
  unfold Dx;rw[Ab (by simp[hf]),hg]
 have CG:s.length≤1000068:=by have:=aak l;rw[hV.out] at this;have h2:s.length≤rowLen l+68:=this;omega
 have g1:=hl.used;have g2:=hl.n;have Fy:=Hi (show l.length≤maxLen by unfold maxLen;omega);clear hd hl W9 Aj hf hg hx;by_cases Tt:L.n -1 -L.used < s.length / 64
 ·have HR:=Hi (hR.trans (Ad Tt));have hq:(L.n:Int) -1 -(L.used:Int) < (s.length:Int) / 64:=by omega
  have e1:IntKind.i64.wrap ((L.n:Int) -1)=(L.n:Int) -1:=ET _ (by omega);have e2:IntKind.i64.wrap ((L.n:Int) -1 -(L.used:Int))=(L.n:Int) -1 -(L.used:Int):=ET _ (by omega);clear hR Tt
  go_in
  go_wp2_with fail;refine(gU G7).mono ?_;rw[HF.out];rintro e w1⟨rfl,rfl⟩;go_wp2_with fail;refine(dD l a cap _ Pv Fy (by omega)).mono ?_;rw[hV.out];rintro e w1⟨rfl,hb⟩;have HB:=Hi hb;have c0:=Io ((hb.block w.heap.size (Ao Md)).trans Md);have eD:w.heap.size < w1.heap.size:=Hw (Ao Md) hb.size;obtain⟨d0,d1,d2,d3,d4,d5,d6,df⟩:=(G7.below hb).cells;have Gq:x < w1.heap.size:=Hw (G7.lt x (.inl rfl)) hb.size;clear hb df d6 d5;go_wp2
  go_quiet (fail)
  go_wp2;go_ret;exact uO HR rfl HD HL ((((HB1.trans (HB.mono (by rw[Ay];omega))).alloc (by omega) _).alloc (by rw[Ay];omega) _).trans (FB _ _ |>.mono (by rw[Ay,Ay];omega)))
 ·have YZ:=Hi (hR.trans (Ab Tt));have hq:(s.length:Int) / 64≤(L.n:Int) -1 -(L.used:Int):=by omega
  have e1:IntKind.i64.wrap ((L.n:Int) -1)=(L.n:Int) -1:=ET _ (by omega);have e2:IntKind.i64.wrap ((L.n:Int) -1 -(L.used:Int))=(L.n:Int) -1 -(L.used:Int):=ET _ (by omega);have ajB:((s.length / 64:Nat):Int)=(s.length:Int) / 64:=by omega
  have HK:=Hi ajB;have Y3:L.used+s.length / 64+1≤L.n:=by omega
  clear hR Tt ajB
  go_in
  go_wp2_with fail;refine(gU G7).mono ?_;rw[HF.out];rintro e w1⟨rfl,rfl⟩;go_wp2_with fail;refine(dD l a cap _ Pv Fy (by omega)).mono ?_;rw[hV.out];rintro e w1⟨rfl,hb⟩;have HB:=Hi hb;have c0:=Io ((hb.block w.heap.size (Ao Md)).trans Md);have eD:w.heap.size < w1.heap.size:=Hw (Ao Md) hb.size;have Mf:=Hi (G7.below hb);obtain⟨d0,d1,d2,d3,d4,d5,d6,df⟩:=Mf.cells;have Gq:x < w1.heap.size:=Mf.lt x (.inl rfl);clear hb df d6 d5;go_wp2
  go_quiet (fail)
  go_wp2_with fail;have BN:Qh (((w1.alloc (.cells #[.string (bs s)] 9)).alloc (.cells #[.int .i64 ((s.length:Int) / 64)] 3)).drewN nq) x b gv L w.heap.size w1.heap.size (w1.heap.size+1) s (s.length / 64):=by
   rw[←HK.out];have ba:Bw w1 (w1.alloc (.cells #[.string (bs s)] 9)):=(Ai _ _).alloc (Ae _) _;have bb:Below (w1.alloc (.cells #[.string (bs s)] 9)).heap.size (w1.alloc (.cells #[.string (bs s)] 9)) ((w1.alloc (.cells #[.string (bs s)] 9)).alloc (.cells #[.int .i64 ((s.length / 64:Nat):Int)] 3)):=(Ai _ _).alloc (Ae _) _;have Ac:Bw w1 (((w1.alloc (.cells #[.string (bs s)] 9)).alloc (.cells #[.int .i64 ((s.length / 64:Nat):Int)] 3)).drewN nq):=(ba.trans (bb.mono (by rw[Ay];omega))).trans ((FB _ nq).mono (by rw[Ay,Ay];omega));have TF:=AQ w1 (.cells #[.string (bs s)] 9);have Kc:=AQ (w1.alloc (.cells #[.string (bs s)] 9)) (.cells #[.int .i64 ((s.length / 64:Nat):Int)] 3);rw[Ay] at Kc;exact⟨Mf.below Ac,(Ac.block w.heap.size eD).trans ((HB.block w.heap.size (Ao Md)).trans Md),(bb.block w1.heap.size (by rw[Ay];omega)).trans TF,Kc⟩
  have Dk:Bw w (((w1.alloc (.cells #[.string (bs s)] 9)).alloc (.cells #[.int .i64 ((s.length:Int) / 64)] 3)).drewN nq):=(((HB1.trans (HB.mono (by rw[Ay];omega))).alloc (by omega) _).alloc (by rw[Ay];omega) _).trans ((FB _ nq).mono (by rw[Ay,Ay];omega));have FU:w1.heap.size+1 < (((w1.alloc (.cells #[.string (bs s)] 9)).alloc (.cells #[.int .i64 ((s.length:Int) / 64)] 3)).drewN nq).heap.size:=by
   show w1.heap.size+1 < ((w1.alloc _).alloc _).heap.size
   rw[Ay,Ay];omega
  have EE:=Hi BN;have Dc:=Hi Dk;clear d0 d1 d2 d3 d4 c0 BN Dk G7 Mf HB1 HB Md Pv hV e1 e2 hq;generalize (((w1.alloc (.cells #[.string (bs s)] 9)).alloc (.cells #[.int .i64 ((s.length:Int) / 64)] 3)).drewN nq)=W2 at*;generalize w1.heap.size=s0 at*;obtain⟨c0,_,c2,_,d1,d2,_⟩:=EE.cells;have PQ:=fun(nq:Nat)=>agF (w:=(W2.alloc (.cells #[.func (.func 145) #[] #[.pointer (some ⟨w.heap.size,0,none⟩),.pointer (some ⟨s0,0,none⟩)],.func (.func 143) #[.pointer (some ⟨b,0,none⟩)] #[],.func (.func 146) #[] #[.pointer (some ⟨w.heap.size,0,none⟩),.pointer (some ⟨s0+1,0,none⟩)],.func (.func 143) #[.pointer (some ⟨b,0,none⟩)] #[]] 129)).drewN nq) (g:=W2.heap.size) (n:=4) (cap:=4)
   ((HD.below Dc).below ((((Ai _ W2).alloc (Ae _) _).trans ((FB _ nq).mono (by rw[Ay];omega))))) (EE.DL.below ((((Ai _ W2).alloc (Ae _) _).trans ((FB _ nq).mono (by rw[Ay];omega))))) (EE.below ((((Ai _ W2).alloc (Ae _) _).trans ((FB _ nq).mono (by rw[Ay];omega))))) (fun _ _ _ _ h hd hu=>h.upd hd hu) (atf (by omega)) (fun i u hu=>(E5 W2 _ _ i).trans (by rw[←Dy];exact hu)) ⟨_,_,AQ W2 _⟩ rfl (by decide) I7
  obtain⟨E,k,hr⟩:∃ E k,Bu (L.acts s) D=(E,k):=⟨_,_,rfl⟩;have jO:Dx D L l=if k=0 then(E,L.grown l (s.length / 64),0) else(E,L.fell k,k):=by rw[YZ.out,hr]
  simp only[hr] at PQ;have Qn:=Hi PQ;have Ff:=Hi jO;have Yk:x < w.heap.size:=HL.lt x (.inl rfl);have ZB:=HD.lt;have HFW:=Hi ZB;have xC:=Hi (show ¬ (fp w.heap.size∨w.heap.size=x) from fun hk=>hk.elim (fun h=>by have:=ZB _ h;omega) (fun e=>by omega));have iC:=Hi (show ¬ (fp (s0+1)∨s0+1=x) from fun hk=>hk.elim (fun h=>by have:=ZB _ h;omega) (fun e=>by omega));clear PQ hr jO ZB
  go_region_held3 (fun V=>V.cell? ⟨w.heap.size,0,none⟩=some (.pointer (some ⟨x,0,none⟩))∧V.cell? ⟨x,2,none⟩=some (.pointer (some ⟨b,0,none⟩)))
   (first|exact⟨c0,d2⟩|exact⟨c3,Og.cells.2.2.1⟩|go_keep)
   (first
    |(go_at_call 148;refine(Qn 1).mono ?_;rintro e w3 ⟨rfl,dA,PO,GL,De,V5⟩;have Ye:=(A7.of_below (F:=fun k=>fp k∨k=x) (((Ai _ W2).alloc (Ae _) _).trans ((FB _ 1).mono (by rw[Ay];omega)))).trans De (fun i hi=>.inl hi);have c3:w3.cell? ⟨w.heap.size,0,none⟩=some (.pointer (some ⟨x,0,none⟩)):=(Ye.cell (p:=⟨w.heap.size,0,none⟩) (Ao EE.box) xC).trans EE.cells.1;have k3:w3.cell? ⟨s0+1,0,none⟩=some (.int .i64 ((s.length / 64:Nat):Int)):=(Ye.cell (p:=⟨s0+1,0,none⟩) (Ao EE.num) iC).trans EE.cells.2.2.1;have Og:=Hi GL;have Pj:=Hi PO;have JX:=Hi Ye;have Jw:=Hi V5;clear PO GL De V5 Ye))
  all_goals
   clear c0 c2 d1 d2;have Oe:=Hi k3;clear k3;by_cases h0:k=0
   ·subst h0;have HR:=Hi (Ff.trans (Ad rfl));have GL:Cm w3 x b gv L:=(by have:=Og.out;rwa[Ad rfl] at this);obtain⟨_,d1,_,_,_,d5,_,df⟩:=GL.cells;have qd:=df 1;have T9:=df 5;have Vx:=Hi GL;have k3:=Oe.out;have e3:IntKind.i64.wrap ((L.used:Int)+((s.length / 64:Nat):Int))=(L.used:Int)+((s.length / 64:Nat):Int):=ET _ (by omega);clear df GL;generalize s.length / 64=kk at*;go_wp2;go_region;all_goals
     go_wp2_with fail;have KW:=(Vx.aAD (L.used+kk) (by omega)).below ((Ai _ (w3.setCell ⟨x,1,none⟩ (.int .i64 ((L.used+kk:Nat):Int)))).drew);rw[Int.natCast_add] at KW;have UM:BB (w3.setCell ⟨x,1,none⟩ (.int .i64 ((L.used:Int)+(kk:Int)))).drew b E dA:=(Pj.upd (F:=fun i=>i=x) ((A7.refl (fun i=>i=x) w3).setCell (p:=⟨x,1,none⟩) (.inl rfl) _) (fun i hi e=>Vx.apart Pj (by rw[←e];exact hi))).below ((Ai _ _).drew);have c4:(w3.setCell ⟨x,1,none⟩ (.int .i64 ((L.used:Int)+(kk:Int)))).drew.cell? ⟨w.heap.size,0,none⟩=some (.pointer (some ⟨x,0,none⟩)):=by
      rw[←c3];exact World.cell?_setCell_far _ _ _ _ (by show x≠w.heap.size;omega)
     have OT:A7 (fun k=>fp k∨k=x) w (w3.setCell ⟨x,1,none⟩ (.int .i64 ((L.used:Int)+(kk:Int)))).drew:=(((A7.of_below (F:=fun k=>fp k∨k=x) Dc).trans JX (fun i hi=>.inl hi)).setCell (p:=⟨x,1,none⟩) (.inl (.inr rfl)) _).trans (A7.of_below (F:=fun k=>fp k∨k=x) ((Ai _ _).drew)) (fun i hi=>.inl hi);have H8:=HX.upd OT (fun p hp hne hk=>hk.elim (nS p hp hne).1 (fun e=>(nS p hp hne).2 (.inl e)));have Vy:=Hi KW;have Vs:=Hi UM;have Ul:=Hi OT;have Z9:=Hi H8;clear KW UM OT H8 c3 k3 d1 d5 qd T9;generalize (w3.setCell ⟨x,1,none⟩ (.int .i64 ((L.used:Int)+(kk:Int)))).drew=w4 at*;obtain⟨cs,GH,GY,K8,Mr⟩:=Vy.groups;obtain⟨qg,cg,rfl⟩:=Bo GH;have bg:=Hi GH;have Qk:=Hi GY;have WV:=Hi K8;have xm:=Hi Mr;obtain⟨_,_,_,_,_,d5,_,df⟩:=Vy.cells;have T9:=df 5;obtain⟨i0,Bl,AY,Ba,Be⟩:=DC adf;have hne:=Vy.ne;have Gq:=Vy.lt x (.inl rfl);have RZ:=Ul.size;have aiP:w.heap.size < w4.heap.size:=Cr c4;have aw7:(Value.slice qg L.groups.length cg).ownBlock≠some w.heap.size:=fun e=>by
      have:=HL.lt _ (.inr e);omega
     clear df GH GY K8 Mr;have Vw:=Hi (fun(V:World) (hb:Bw w4 V)=>(⟨(hb.cell (p:=⟨w.heap.size,0,none⟩) (Cr c4)).trans c4,(hb.cell (p:=⟨x,5,none⟩) Gq).trans d5⟩:(fun V:World=>V.cell? ⟨w.heap.size,0,none⟩=some (.pointer (some ⟨x,0,none⟩))∧V.cell? ⟨x,5,none⟩=some (.slice qg L.groups.length cg)) V));have YT:=Hi (Cw d5 T9);have B1:=Hi (show Bw w4 w4.drew from(Ai _ _).drew);clear c4 d5 T9;refine aCL (z:=11) (S:=(fun V:World=>V.cell? ⟨w.heap.size,0,none⟩=some (.pointer (some ⟨x,0,none⟩))∧V.cell? ⟨x,5,none⟩=some (.slice qg L.groups.length cg))) (by kernel_rfl) ?_;refine gW (i:=0) (oi:=⟨some 71,.load 114 (.tmp 2),114,"wal.go:149",#[],none⟩) (v:=?_) rfl (by kernel_rfl) (by kernel_rfl) (by kernel_rfl) (by kernel_rfl) (fun _ _ _ h=>h) (Or.inl ⟨by rfl,?_⟩) (Vw _ B1) ?_
     rotate_left
     ·intro V hV;try dsimp only at hV
      go_simp;all_goals with_reducible rfl
     try simp only[Act.put,np]
     refine gW (i:=1) (oi:=⟨some 72,.load 114 (.tmp 2),114,"wal.go:149",#[],none⟩) (v:=?_) rfl (by kernel_rfl) (by kernel_rfl) (by kernel_rfl) (by kernel_rfl) (fun _ _ _ h=>h) (Or.inl ⟨by rfl,?_⟩) (Vw _ B1) ?_
     rotate_left
     ·intro V hV;try dsimp only at hV
      go_simp;all_goals with_reducible rfl
     try simp only[Act.put,np]
     refine gW (i:=2) (oi:=⟨some 73,.nilCheck (.tmp 72),0,"wal.go:149",#[⟨1,.data⟩],none⟩) (v:=?_) rfl (by kernel_rfl) (by kernel_rfl) (by kernel_rfl) (by kernel_rfl) (fun _ _ _ h=>h) (Or.inl ⟨by rfl,?_⟩) (Vw _ B1) ?_
     rotate_left
     ·intro V hV;try dsimp only at hV
      go_simp;all_goals with_reducible rfl
     try simp only[Act.put,np]
     refine gW (i:=3) (oi:=⟨some 74,.fieldAddr 224 (.tmp 73) 4,0,"wal.go:149",#[⟨2,.data⟩],none⟩) (v:=?_) rfl (by kernel_rfl) (by kernel_rfl) (by kernel_rfl) (by kernel_rfl) (fun _ _ _ h=>h) (Or.inl ⟨by rfl,?_⟩) (Vw _ B1) ?_
     rotate_left
     ·intro V hV;try dsimp only at hV
      go_simp;all_goals with_reducible rfl
     try simp only[Act.put,np]
     refine gW (i:=4) (oi:=⟨some 75,.load 155 (.tmp 74),155,"wal.go:149",#[⟨3,.data⟩],none⟩) (v:=?_) rfl (by kernel_rfl) (by kernel_rfl) (by kernel_rfl) (by kernel_rfl) (fun _ _ _ h=>h) (Or.inl ⟨by rfl,?_⟩) (Vw _ B1) ?_
     rotate_left
     ·intro V hV;try dsimp only at hV
      go_simp;all_goals with_reducible rfl
     try simp only[Act.put,np]
     refine gW (i:=5) (oi:=⟨some 76,.move (.tmp 1),61,"wal.go:149",#[],none⟩) (v:=?_) rfl (by kernel_rfl) (by kernel_rfl) (by kernel_rfl) (by kernel_rfl) (fun _ _ _ h=>h) (Or.inl ⟨by rfl,?_⟩) (Vw _ B1) ?_
     rotate_left
     ·intro V hV;try dsimp only at hV
      go_simp;all_goals with_reducible rfl
     try simp only[Act.put,np]
     refine gV (i:=6) (o:=⟨some 77,.call ⟨.value (.func 149),#[.tmp 76],#[61]⟩,61,"wal.go:149",#[⟨5,.data⟩],none⟩) (by kernel_rfl) rfl (fun K1 Jh=>?_);go_simp
     go_at_call 149
     refine(anU w4.drew a cap l (Z9.below (Ai _ w4).drew) (by omega)).mono ?_;rintro e w5⟨lv,rfl,Ya,BF,eH⟩;have B5:=Hi (B1.trans (BF.mono (Ae _)));obtain⟨ql,cl,rfl⟩:=Bo Ya;have KH:=Hi (Jy.CX Ya);have ap9:=Hi (Bv bg (ub B5) (fun _ _ f=>f));have bE:=Hi (Vy.below B5);have apa:=Hi (fun i (h:i < L.groups.length) (h':i < cs.length)=>(xm i h h').upd (ub B5) (fun _ _ f=>f));clear Ya BF eH;go_simp;refine Jh _ _ (fun _=>Vw _ B5) ?_;try simp only[Act.put,np]
     refine gV (i:=7) (o:=⟨some 78,.buildSlice 155 1 #[(0,.tmp 77)],155,"wal.go:149",#[⟨6,.data⟩],none⟩) (by kernel_rfl) rfl (fun K2 Dv=>?_);go_simp;refine Dv _ _ (fun _=>Vw _ (B5.alloc B5.size _)) ?_;try simp only[Act.put,np]
     refine gV (i:=8) (o:=⟨some 79,.call ⟨.builtin .append,#[.tmp 75,.tmp 78],#[155,155]⟩,155,"wal.go:149",#[⟨4,.data⟩,⟨7,.data⟩,⟨6,.chain⟩],none⟩) (by kernel_rfl) rfl (fun K3 PK=>?_);refine step_append_lies _ (by rfl) _ _ _ (by rfl) 0 61 i0 _ 1 24 underlying155 Bl AY Ba Be (by rfl) (by omega) (.slice qg L.groups.length cg) L.groups.length cs (by rfl) (ap9.alloc _) ⟨w5.heap.size,0,none⟩ 1 1 [.slice ql l.length cl] (by rfl) (by rfl) (World.news_of_block (cs:=#[.slice ql l.length cl]) (t:=61) (fr:=(0,0)) (AQ w5 _)) (fun u hu=>by rw[FJ] at hu;subst hu;exact KH.one) (by omega) (by unfold maxLen;omega) (by omega) (AV _) _ (by rfl) ?_;intro gg cap2 w6 ak9 AJ hat avV;have abv:=bE.ne;have ko:=(AJ.cell_far ⟨x,5,none⟩ (Hw Gq (Aw B5.size (by rw[Ay];omega))) (Ne.symm abv)).trans (((B5.alloc B5.size (.cells #[.slice ql l.length cl] 61)).cell (p:=⟨x,5,none⟩) Gq).trans YT.1);have hf6:=(AJ.frozen_far ⟨x,5,none⟩ (Hw Gq (Aw B5.size (by rw[Ay];omega))) (Ne.symm abv)).trans (((B5.alloc B5.size (.cells #[.slice ql l.length cl] 61)).frozen (p:=⟨x,5,none⟩) Gq).trans YT.2);have aiK:=(AJ.cell_far ⟨w.heap.size,0,none⟩ (Hw aiP (Aw B5.size (by rw[Ay];omega))) (Ne.symm aw7)).trans (((B5.alloc B5.size (.cells #[.slice ql l.length cl] 61)).cell (p:=⟨w.heap.size,0,none⟩) aiP).trans (Vw _ (Ai _ _)).1);have Xb:=Hi (Cw aiK ko);have oo:=Hi (bE.pushed KH Qk WV apa ((Ai w5.heap.size w5).alloc (Ae _) _) AJ ak9 (hat.imp (fun h=>h.symm) (fun h=>by rw[h];rfl)));clear AJ ak9 hat avV abv aiK
     refine PK _ _ (fun _=>Xb.out) ?_;try simp only[Act.put,np]
     refine gV (i:=9) (o:=⟨some 80,.nilCheck (.tmp 71),0,"wal.go:149",#[⟨0,.data⟩,⟨0,.phase⟩,⟨1,.phase⟩,⟨2,.phase⟩,⟨3,.phase⟩,⟨4,.phase⟩,⟨5,.phase⟩,⟨6,.phase⟩,⟨7,.phase⟩,⟨8,.phase⟩],none⟩) (by kernel_rfl) rfl (fun K4 jJ=>?_);go_simp;refine jJ _ _ (fun _=>Xb.out) ?_;try simp only[Act.put,np]
     refine gV (i:=10) (o:=⟨some 81,.fieldAddr 224 (.tmp 80) 4,0,"wal.go:149",#[⟨9,.data⟩,⟨0,.phase⟩,⟨1,.phase⟩,⟨2,.phase⟩,⟨3,.phase⟩,⟨4,.phase⟩,⟨5,.phase⟩,⟨6,.phase⟩,⟨7,.phase⟩,⟨8,.phase⟩],none⟩) (by kernel_rfl) rfl (fun K5 jK=>?_);go_simp;refine jK _ _ (fun _=>Xb.out) ?_;try simp only[Act.put,np]
     refine gV (i:=11) (o:=⟨none,.store 155 (.tmp 81) (.tmp 79),0,"wal.go:149",#[⟨10,.data⟩,⟨8,.data⟩,⟨8,.chain⟩,⟨0,.phase⟩,⟨1,.phase⟩,⟨2,.phase⟩,⟨3,.phase⟩,⟨4,.phase⟩,⟨5,.phase⟩,⟨6,.phase⟩,⟨7,.phase⟩,⟨8,.phase⟩],none⟩) (by kernel_rfl) rfl (fun K6 hK6=>?_);go_simp;refine hK6 _ _ (fun h=>absurd rfl h) ?_;try simp only[Act.put,np]
     refine aCJ (by kernel_rfl) ?_ _;clear Jh Dv PK jJ jK hK6 K1 K2 K3 K4 K5 K6;go_wp2;go_ret;have tH:=B5.size;refine uN HR rfl (BB.upd (Vs.below B5) oo.2.1 (fun k hk=>bE.aqD (Vs.below B5) k hk)) oo.1 ?_ ?_ ?_
     ·exact((Ul.mono (fun i hi=>hi.elim .inl (fun e=>.inr (.inl e)))).trans (A7.of_below (F:=fun k=>fp k∨BS x (.slice qg L.groups.length cg) k) B5) (fun i hi=>.inl hi)).trans oo.2.1 (fun i hi=>.inl (.inr hi))
     ·intro i hi;rcases Jw i hi with h|h
      ·exact .inl h
      ·exact .inr (Aw Dc.size (Aw (by show W2.heap.size≤(W2.alloc _).heap.size;rw[Ay];omega) h))
     ·intro i hi;rcases oo.2.2 i hi with h|h
      ·exact .inl h
      ·exact .inr (Aw RZ (Aw tH h))
   ·have Aj:(k != 0)=true:=(by simp[h0]);have HR:=Hi (Ff.trans (Ab h0));have Vx:Hid (Cm w3 x b gv (L.fell k)):=Hi (by have:=Og.out;rwa[Ab h0] at this);clear h0;go_wp2;go_ret;refine uN HR rfl Pj Vx.out ?_ ?_ (fun _ h=>.inl h)
    ·exact((A7.of_below (F:=fun k=>fp k∨BS x gv k) Dc).trans JX (fun i hi=>.inl (hi.elim .inl (fun e=>.inr (.inl e)))))
    ·intro i hi;rcases Jw i hi with h|h
     ·exact .inl h
     ·exact .inr (Aw Dc.size (Aw (by show W2.heap.size≤(W2.alloc _).heap.size;rw[Ay];omega) h))
theorem aqF(hd:BB w b D fp)(hl:Cm w x b gv L)(hx:Du w a l)(W9:∀ p,a=some p→l≠[]→¬ fp p.block∧¬ BS x gv p.block)(hlen:l.length≤1000000)(D7:rowLen l≤1000000)(I7:D.loose.length≤400000000)(OI:L.groups.length≤1000000):
  Calls prog 65 #[.pointer (some ⟨x,0,none⟩),.slice a l.length cap] w fun e w'=>Ze w x b gv fp (Dx D L l) e w':=by
 by_cases hf:L.fault=0
 ·cases hg:I4 l with
  |none=>exact afH hd hl hx (by unfold maxLen;omega) D7 (.inr hg)
  |some s=>exact aqH hd hl hx W9 hlen D7 hf hg I7 OI
 ·exact afH hd hl hx (by unfold maxLen;omega) D7 (.inl hf)
theorem Cm.aAA{w:World}{x b:Nat}{gv:Value}{L:BD}(h:Cm w x b gv L)(g:Nat)(hg:g < 18446744073709551616):Cm (((w.setCell ⟨x,0,none⟩ (.int .u64 (g:Int))).setCell ⟨x,1,none⟩ (.int .i64 0)).setCell ⟨x,5,none⟩ (.slice none 0 0)) x b (.slice none 0 0) { L with gen:=g,used:=0,groups:=[] }:=by
 have e1:=Cu w x 0 _ _ (.int .u64 (g:Int)) h.struct;have e2:=Cu _ x 1 _ _ (.int .i64 0) e1;have e3:=Cu _ x 5 _ _ (.slice none 0 0) e2;exact⟨e3,Kw.none _,hg,by have:=h.used;show 0+1≤L.n;omega,h.n⟩
theorem amU(hd:BB w b D fp)(hl:Cm w x b gv L)(I7:D.loose.length≤400000000):
  Calls prog 83 #[.pointer (some ⟨x,0,none⟩)] w fun e w'=>Ze w x b gv fp (DN D L) e w':=by
 have HD:=Hi hd;have HL:=Hi hl;have Aj:=(Ai w.heap.size w).alloc (Ae _) (.cells #[.pointer (some ⟨x,0,none⟩)] 114);have HB1:=Hi Aj;have G7:=Hi (hl.below Aj);by_cases hf:L.fault=0
 ·have HF:=Hi hf;have Zp:DN D L=if(Bu L.LZ D).2=0 then((Bu L.LZ D).1,L.Uw,0) else((Bu L.LZ D).1,L.fell (Bu L.LZ D).2,(Bu L.LZ D).2):=by
   unfold DN;rw[Ab (by simp[hf])]
  have Yk:x < w.heap.size:=hl.lt x (.inl rfl);have ZB:=hd.lt;have xC:=Hi (show ¬ (fp w.heap.size∨w.heap.size=x) from fun hk=>hk.elim (fun h=>by have:=ZB _ h;omega) (fun e=>by omega));obtain⟨E,k,hr⟩:∃ E k,Bu L.LZ D=(E,k):=⟨_,_,rfl⟩;have jO:DN D L=if k=0 then(E,L.Uw,0) else(E,L.fell k,k):=by rw[Zp,hr]
  have BN:=SY.of (hl.below Aj) (AQ w (.cells #[.pointer (some ⟨x,0,none⟩)] 114));have PQ:=fun(nq:Nat)=>agF (w:=((w.alloc (.cells #[.pointer (some ⟨x,0,none⟩)] 114)).alloc (.cells #[.func (.func 166) #[] #[.pointer (some ⟨w.heap.size,0,none⟩)],.func (.func 143) #[.pointer (some ⟨b,0,none⟩)] #[]] 129)).drewN nq) (g:=(w.alloc (.cells #[.pointer (some ⟨x,0,none⟩)] 114)).heap.size) (n:=2) (cap:=2)
   ((hd.below Aj).below ((((Ai _ _).alloc (Ae _) _).trans ((FB _ nq).mono (by simp only[Ay];omega))))) (BN.DL.below ((((Ai _ _).alloc (Ae _) _).trans ((FB _ nq).mono (by simp only[Ay];omega))))) (BN.below ((((Ai _ _).alloc (Ae _) _).trans ((FB _ nq).mono (by simp only[Ay];omega))))) (fun _ _ _ _ h hd hu=>h.upd hd hu) ath (fun i u hu=>(E5 _ _ _ i).trans (by rw[←Dy];exact hu)) ⟨_,_,AQ _ _⟩ rfl (by decide) I7
  simp only[hr] at PQ;rw[Ay] at PQ;have Qn:=Hi PQ;have Ff:=Hi jO;have EE:=Hi BN;have c0:=Io BN.box;have d2:=BN.DL.cells.2.2.1;clear hd hl Aj hf Zp ZB hr jO BN PQ
  go_in
  go_wp2_with fail;refine(gU G7).mono ?_;rw[HF.out];rintro e w1⟨rfl,rfl⟩;go_wp2
  go_region_held3 (fun V=>V.cell? ⟨w.heap.size,0,none⟩=some (.pointer (some ⟨x,0,none⟩))∧V.cell? ⟨x,2,none⟩=some (.pointer (some ⟨b,0,none⟩)))
   (first|exact⟨c0,d2⟩|exact⟨c3,Og.cells.2.2.1⟩|go_keep)
   (first
    |(go_at_call 148;refine(Qn 1).mono ?_;rintro e w3 ⟨rfl,dA,PO,GL,De,V5⟩;have Ye:=(A7.of_below (F:=fun k=>fp k∨k=x) (((Ai _ (w.alloc (.cells #[.pointer (some ⟨x,0,none⟩)] 114))).alloc (Ae _) _).trans ((FB _ 1).mono (by simp only[Ay];omega)))).trans De (fun i hi=>.inl hi);have c3:w3.cell? ⟨w.heap.size,0,none⟩=some (.pointer (some ⟨x,0,none⟩)):=(Ye.cell (p:=⟨w.heap.size,0,none⟩) (Ao EE.box) xC).trans c0;have Og:=Hi GL;have Pj:=Hi PO;have JX:=Hi ((A7.of_below (F:=fun k=>fp k∨k=x) HB1).trans Ye (fun i hi=>.inl hi));have Jw:=Hi V5;clear PO GL De V5 Ye))
  all_goals
   clear c0 d2;have Bc:Dj fp dA w:=fun i hi=>by
    rcases Jw i hi with h|h
    ·exact .inl h
    ·exact .inr (Aw (by show w.heap.size≤((w.alloc _).alloc _).heap.size;rw[Ay,Ay];omega) h)
   have Bh:=Hi Bc;clear Bc;by_cases h0:k=0
   ·subst h0;have HR:=Hi (Ff.trans (Ad rfl));have GL:Cm w3 x b gv L:=(by have:=Og.out;rwa[Ad rfl] at this);obtain⟨d0,d1,_,_,_,d5,_,df⟩:=GL.cells;have df0:=df 0;have qd:=df 1;have T9:=df 5;have Vx:=Hi GL;have e3:=adG L.gen;have Jk:(L.gen+1) % 18446744073709551616 < 18446744073709551616:=Nat.mod_lt _ (by decide);have HGM:=Hi (Cw Jk (show L.Uw={ L with gen:=(L.gen+1) % 18446744073709551616,used:=0,groups:=[] } from rfl));clear df GL Jk;generalize (L.gen+1) % 18446744073709551616=g at*;go_wp2;go_region;all_goals
     go_wp2;go_ret;have LW:A7 (fun i=>i=x) w3 (((w3.setCell ⟨x,0,none⟩ (.int .u64 (g:Int))).setCell ⟨x,1,none⟩ (.int .i64 0)).setCell ⟨x,5,none⟩ (.slice none 0 0)).drew:=((((A7.refl (fun i=>i=x) w3).setCell (p:=⟨x,0,none⟩) (.inl rfl) _).setCell (p:=⟨x,1,none⟩) (.inl rfl) _).setCell (p:=⟨x,5,none⟩) (.inl rfl) _).trans (A7.of_below (F:=fun i=>i=x) ((Ai _ _).drew)) (fun i hi=>.inl hi);refine uN HR rfl (Pj.upd LW (fun i hi e=>Vx.apart Pj (by rw[←e];exact hi))) (L:=L.Uw) (Fp:=.slice none 0 0) (by rw[HGM.2];exact(Vx.aAA g HGM.1).below ((Ai _ _).drew)) ?_ Bh.out ?_
     ·exact(JX.mono (fun i hi=>hi.elim .inl (fun e=>.inr (.inl e)))).trans LW (fun i hi=>.inl (.inr (.inl hi)))
     ·rintro i (hi|hi)
      ·exact .inl (.inl hi)
      ·simp[Value.ownBlock] at hi
   ·have Aj:(k != 0)=true:=(by simp[h0]);have HR:=Hi (Ff.trans (Ab h0));have Vx:Hid (Cm w3 x b gv (L.fell k)):=Hi (by have:=Og.out;rwa[Ab h0] at this);clear h0;go_wp2;go_ret;exact uN HR rfl Pj Vx (JX.mono (fun i hi=>hi.elim .inl (fun e=>.inr (.inl e)))) Bh (fun _ h=>.inl h)
 ·have hR:Hid (DN D L=(D,L,L.fault)):=Hi (by unfold DN;rw[Ad hf]);have Bg:(L.fault == 0)=false:=by simp[hf]
  have Ac:(L.fault != 0)=true:=by simp[hf]
  clear hd hl Aj hf
  go_in
  go_wp2_with fail;refine(gU G7).mono ?_;rintro e w1⟨rfl,rfl⟩;go_wp2;go_ret;exact uO hR.out rfl HD HL HB1.out
