/- FilMade2 -/
import Derived.Test.YtmbbhdebddbhoaaGreatR9
import Derived.Test.YtmbbhdebddbhoaaGreatR10
set_option maxHeartbeats 2000000
set_option maxRecDepth 100000
set_option linter.all false
namespace Go.Proofs.YtmbbhdebddbhoaaGreat
open Tryz
section
open Go.RowKit Go.Maps
open Fil
structure QD(w:World)(q:Addr)(c:Aj):Prop where
 name:w.cell? (q.add 0)=some (.string (bs c.name))
 data:w.cell? (q.add 1)=some (.string (bs c.data))
 gone:w.cell? (q.add 2)=some (.bool c.gone)
theorem QD.cells{w:World}{q:Addr}{c:Aj}(h:QD w q c):w.cell? q=some (.string (bs c.name))∧w.cell? ⟨q.block,q.off+1,none⟩=some (.string (bs c.data))∧w.cell? ⟨q.block,q.off+2,none⟩=some (.bool c.gone):=by
 have h1:=h.name;rw[add_zero'] at h1;exact⟨h1,h.data,h.gone⟩
def DW(w:World)(a:Option Addr)(l:List Aj):Prop:=∀ i,(h:i < l.length)→∃ p:Addr,a=some p∧QD w (p.add (i*3)) l[i]
theorem QD.upd{F:Nat→Prop}{w w':World}{q:Addr}{c:Aj}(h:QD w q c)(hu:A7 F w w')(hF:¬ F q.block):QD w' q c:=by
 have b:∀ i,(q.add i).block=q.block:=add_block q;have hlt:=BS h.name;exact⟨(hu.cell hlt (by rw[b];exact hF)).trans h.name,(hu.cell (by rw[b];rw[b] at hlt;exact hlt) (by rw[b];exact hF)).trans h.data,(hu.cell (by rw[b];rw[b] at hlt;exact hlt) (by rw[b];exact hF)).trans h.gone⟩
theorem DW.upd{F:Nat→Prop}{w w':World}{a:Option Addr}{l:List Aj}(h:DW w a l)(hu:A7 F w w')(hF:∀ p,a=some p→l≠[]→¬ F p.block):DW w' a l:=fun i hi=>by
 obtain⟨p,hp,h1⟩:=h i hi;exact⟨p,hp,h1.upd hu (by rw[add_block];exact hF p hp (by intro e;rw[e] at hi;simp at hi))⟩
theorem QD.below{w w':World}{q:Addr}{c:Aj}(h:QD w q c)(hb:Bw w w'):QD w' q c:=h.upd (ub hb) (fun f=>f)
theorem DW.below{w w':World}{a:Option Addr}{l:List Aj}(h:DW w a l)(hb:Bw w w'):DW w' a l:=h.upd (ub hb) (fun _ _ _ f=>f)
theorem DW.index{w:World}{a:Option Addr}{l:List Aj}(h:DW w a l)(cap k:Nat)(hk:k < l.length):
  ∃ q:Addr,(∀ W,(Instr.indexAt 24 (.slice a l.length cap) (.int .i64 (k:Int))).run prog W=.ok (.pointer (some q)) W)∧QD w q l[k]∧∃ p:Addr,a=some p∧q.block=p.block:=by
 obtain⟨p,rfl,h1⟩:=h k hk;exact⟨_,fun W=>Hr prog _ 65 underlying24 3 (by kernel_rfl) p l.length cap k hk W,h1,p,rfl,add_block _ _⟩
theorem Zy{w:World}{p:Addr}{v:Value}(h:w.cell? p=some v){m:Nat}{es:Array MapEntry}{c:Nat}(hm:w.heap[m]?=some (.map es c)):p.block≠m:=by
 intro e;subst e;unfold World.cell? at h;rw[hm] at h;simp at h
theorem awW(F:M)(c:Aj):(Aj.on F c).length≤F.length+1:=by
 unfold Aj.on;split
 ·unfold del;have:=NB (fun p:T×T=>!(p.1 == c.name)) F;omega
 ·unfold put;rw[Au,Br];have:(F.filter fun p=>decide (p.1 < c.name)).length+(F.filter fun p=>decide (c.name < p.1)).length≤F.length:=by
   induction F with
   |nil=>simp
   |cons p F ih=>
    by_cases h1:p.1 < c.name
    ·have h2:=Qr h1;rw[Uv (by simpa using h1),QA (by simpa using h2)];simp only[Br];omega
    ·rw[QA (by simpa using h1)];have:=NB (fun q:T×T=>decide (c.name < q.1)) (p :: F);by_cases h2:c.name < p.1
     ·rw[Uv (by simpa using h2)];simp only[Br];omega
     ·rw[QA (by simpa using h2)];simp only[Br];omega
  omega
theorem ac2(F:M)(l:List Aj):(made F l).length≤F.length+l.length:=by
 induction l generalizing F with
 |nil=>exact Ac _
 |cons c l ih=>
  have h1:=ih (Aj.on F c);have h2:=awW F c
  show(made (Aj.on F c) l).length≤_
  rw[Br];omega
theorem zx{w:World}{m:Nat}{F:M}{a:Option Addr}{cap:Nat}{l:List Aj}(hM:Co w m F)(hL:DW w a l)(hlen:l.length≤1000000)(hF:F.length≤1000000000000000)(Cb:∀ c∈l,c.name.length≤maxLen):
  Calls prog 57 #[.map (some m),.slice a l.length cap] w fun e w'=>e=.returned (.tuple #[])∧Co w' m (made F l)∧A7 (fun k=>k=m) w w':=by
 have HM:=Hi hM;have HL:=Hi hL;have FQ:=Hi Cb;clear hM hL Cb;go_enter func57,ntmps57;go_wp2_with fail
 go_loopw [8] (fun i wr=>∃ k:Nat,k≤l.length∧i=.int .i64 k∧Co wr m (made F (l.take k))∧A7 (fun k=>k=m) w wr) (fun i _=>l.length -(intOf i).toNat)
 case atStart=>exact⟨0,AB _,rfl,HM,A7.refl _ _⟩
 case round=>
  obtain⟨k,hk,rfl,hm,hu⟩:=hrel;by_cases hlt:k < l.length
  ·obtain⟨q,Cu,hq,-⟩:=HL.index cap k hlt;obtain⟨es,ck,O1⟩:=HM.is;have CV:=hq.upd hu (Zy (hq.cells).1 O1);have Be:=FQ _ (Ci hlt);have HT:=Hi (show made F (l.take (k+1))=Aj.on (made F (l.take k)) l[k] by rw[Cw hlt,ac3]);generalize l[k]=c at*;obtain⟨cn,cd,cg⟩:=c;simp only at Be;obtain⟨c0,c1,c2⟩:=CV.cells;simp only at c0 c1 c2;have EC:=ac2 F (l.take k);rw[AL] at EC;have hb:Bw wr (wr.alloc (.cells #[.string (bs cn),.string (bs cd),.bool cg] 65)):=(Af _ _).alloc (Ac _) _;have Mr:=hm.below hb;have HU:=Hi hu;have HB:=Hi hb;cases cg with
   |true=>
    have hd:=fun ty=>Mr.delete cn Be ty
    obtain⟨w2,O0,Nj,OQ⟩:=hd 0;have MP:=Hi Nj;have Oq:=Hi OQ;clear hq CV O1 hm Mr hu hb EC Nj OQ hd;go_wp2_with fail;go_roundw
    case rel=>exact⟨k+1,by omega,by go_num,by rw[HT.out];exact MP.out,(HU.trans (A7.of_below (F:=fun k=>k=m) HB) (fun i hi=>.inl hi)).trans (A7.of_grownBy (F:=fun k=>k=m) Oq (fun k e=>by cases e;rfl)) (fun i hi=>.inl hi)⟩
    case measure=>simp[intOf];omega
   |false=>
    obtain⟨w2,O0,Nj,OQ⟩:=Mr.update cn cd Be (by unfold maxLen;omega);have MP:=Hi Nj;have Oq:=Hi OQ;clear hq CV O1 hm Mr hu hb EC Nj OQ;go_wp2_with fail;go_roundw
    case rel=>exact⟨k+1,by omega,by go_num,by rw[HT.out];exact MP.out,(HU.trans (A7.of_below (F:=fun k=>k=m) HB) (fun i hi=>.inl hi)).trans (A7.of_grownBy (F:=fun k=>k=m) Oq (fun k e=>by cases e;rfl)) (fun i hi=>.inl hi)⟩
    case measure=>simp[intOf];omega
  ·obtain rfl:k=l.length:=(by omega);rw[CY] at hm;have ax:=Hi hm;have HU:=Hi hu;clear hm hu;go_wp2_with fail
   go_end0
   exact⟨rfl,ax,HU⟩
theorem afr(w:World)(x y:Value)(t:TypeId):∀ j u,[x,y][j]?=some u→(w.alloc (.cells #[x,y] t)).cell? ((⟨w.heap.size,0,none⟩:Addr).add j)=some u:=by
 intro j u hj;rw[add_plain,DF]
 match j,hj with
 |0,hj=>simpa using hj
 |1,hj=>simpa using hj
theorem asP(l:List Aj)(k:Nat)(h:k < l.length):group (l.take (k+1))=group (l.take k)++[TN l[k].gone :: l[k].name,l[k].data]:=by
 rw[Cw h,asO]
theorem arW{w:World}{a:Option Addr}{cap:Nat}{l:List Aj}(hL:DW w a l)(hlen:l.length≤1000000)(Cb:∀ c∈l,c.name.length≤1000000):
  Calls prog 97 #[.slice a l.length cap] w fun e w'=>∃ q cap',e=.returned (.slice q (group l).length cap')∧w'.ownsRow w.heap.size 9 1 (.slice q (group l).length cap') (group l).length (strCells (group l))∧Bw w w':=by
 obtain⟨i0,Ba,AQ,AU,AV⟩:=Du Ta;have HL:=Hi hL;have FQ:=Hi Cb;clear hL Cb;go_enter func97,ntmps97;go_wp2_with fail
 go_loopw [2,8] (fun s i wr=>∃ (k:Nat) (q:Option Addr) (c:Nat),k≤l.length∧i=.int .i64 k∧s=.slice q (2*k) c∧wr.ownsRow w.heap.size 9 1 (.slice q (2*k) c) (2*k) (strCells (group (l.take k)))∧Bw w wr) (fun _ i _=>l.length -(intOf i).toNat)
 case atStart=>exact⟨0,none,0,AB _,rfl,rfl,by rw[GZ];show World.ownsRow _ _ _ _ _ 0 (strCells []);rw[lu];exact EI _ _ _ _,Af _ _⟩
 case round=>
  obtain⟨k,q,c,hk,rfl,rfl,Ah,hb⟩:=hrel;by_cases hlt:k < l.length
  ·obtain⟨qa,Cu,hq,-⟩:=HL.index cap k hlt;have CV:=hq.below hb;have Be:=FQ _ (Ci hlt);have HT:=Hi (asP l k hlt);have h0:({ data:=#[0] }:ByteArray)=bs [0]:=rfl;have h1:({ data:=#[1] }:ByteArray)=bs [1]:=rfl;generalize l[k]=x at*;obtain⟨cn,cd,cg⟩:=x;simp only at Be;obtain⟨c0,c1,c2⟩:=CV.cells;simp only at c0 c1 c2;have hsz:=hb.size;have HR:=Hi Ah;have HB:=Hi hb;clear hq CV Ah hb;cases cg with
   |true=>
    go_wp2_with (at_builtin;refine wpList_append_own_at _ rfl _ _ 27 rfl w.heap.size 9 i0 _ 1 16 underlying27 Ba AQ AU AV rfl (by decide) _ (2*k) _ rfl ((HR.alloc _).alloc _) ⟨wr.heap.size+1,0,none⟩ 2 2 [.string (bs (1 :: cn)),.string (bs cd)] rfl rfl (by have h:=afr (wr.alloc (.cells #[.string (bs cn),.string (bs cd),.bool true] 65)) (.string (bs (1 :: cn))) (.string (bs cd)) 9;rw[Aq] at h;exact h) (by simp[Value.oneCell']) (by unfold maxLen;omega) (by omega) (by simp;omega) ?_;intro v' w1 BB Az _ hat;obtain⟨g',cap',rfl⟩:=ownsRow_succ BB;have HO:=Hi BB;have HG:=Hi Az;clear BB Az hat);go_roundw
    case rel=>
     refine⟨k+1,_,_,by omega,by go_num,rfl,?_,?_⟩
     ·rw[HT.out];unfold TN;have e:strCells (group (l.take k)++[1 :: cn,cd])=strCells (group (l.take k))++[.string (bs (1 :: cn)),.string (bs cd)]:=by
       rw[show group (l.take k)++[1 :: cn,cd]=(group (l.take k)++[1 :: cn])++[cd] by simp,Rl,Rl,Dp];rfl
      exact e▸HO.out
     ·exact((HB.alloc HB.size _).alloc (by simp;omega) _).grown HG (by simp;omega) (fun j hj=>by
       have KL:(Value.slice q (2*k) c).ownBlock=some j:=hj;rcases HR.2 with⟨e1,_⟩|⟨g,c2,cur,e1,Lx,_⟩
       ·rw[e1] at KL;simp[Value.ownBlock] at KL
       ·rw[e1] at KL;simp[Value.ownBlock] at KL;omega)
    case measure=>simp[intOf];omega
   |false=>
    go_wp2_with (at_builtin;refine wpList_append_own_at _ rfl _ _ 27 rfl w.heap.size 9 i0 _ 1 16 underlying27 Ba AQ AU AV rfl (by decide) _ (2*k) _ rfl ((HR.alloc _).alloc _) ⟨wr.heap.size+1,0,none⟩ 2 2 [.string (bs (0 :: cn)),.string (bs cd)] rfl rfl (by have h:=afr (wr.alloc (.cells #[.string (bs cn),.string (bs cd),.bool false] 65)) (.string (bs (0 :: cn))) (.string (bs cd)) 9;rw[Aq] at h;exact h) (by simp[Value.oneCell']) (by unfold maxLen;omega) (by omega) (by simp;omega) ?_;intro v' w1 BB Az _ hat;obtain⟨g',cap',rfl⟩:=ownsRow_succ BB;have HO:=Hi BB;have HG:=Hi Az;clear BB Az hat);go_roundw
    case rel=>
     refine⟨k+1,_,_,by omega,by go_num,rfl,?_,?_⟩
     ·rw[HT.out];unfold TN;have e:strCells (group (l.take k)++[0 :: cn,cd])=strCells (group (l.take k))++[.string (bs (0 :: cn)),.string (bs cd)]:=by
       rw[show group (l.take k)++[0 :: cn,cd]=(group (l.take k)++[0 :: cn])++[cd] by simp,Rl,Rl,Dp];rfl
      exact e▸HO.out
     ·exact((HB.alloc HB.size _).alloc (by simp;omega) _).grown HG (by simp;omega) (fun j hj=>by
       have KL:(Value.slice q (2*k) c).ownBlock=some j:=hj;rcases HR.2 with⟨e1,_⟩|⟨g,c2,cur,e1,Lx,_⟩
       ·rw[e1] at KL;simp[Value.ownBlock] at KL
       ·rw[e1] at KL;simp[Value.ownBlock] at KL;omega)
    case measure=>simp[intOf];omega
  ·obtain rfl:k=l.length:=(by omega);rw[CY] at Ah;have O6:=ah4 l;rw[←O6] at Ah ⊢;have HR:=Hi Ah;have HB:=Hi hb;clear Ah hb O6;go_wp2_with fail;go_ret;exact⟨_,_,rfl,HR,HB⟩
end
section
open Go.RowKit Go.Maps
open Fil
theorem azJ:∀ (n:Nat) (l:List T),l.length≤n→l.length % 2=1→ungroup l=none:=by
 intro n
 induction n with
 |zero=>intro l hn h;omega
 |succ n ih=>
  intro l hn h
  match l,h with
  |[_],_=>rfl
  |[] :: _ :: _,_=>rfl
  |(b :: k) :: d :: l,h=>
   simp only[ungroup];split
   ·rw[ih l (by simp at hn;omega) (by simp at h;omega)];rfl
   ·rfl
theorem anw{l R:List T}{cs:List Aj}{b:UInt8}{n d:T}(h:ungroup l=(ungroup ((b :: n) :: d :: R)).map (cs++ ·))(hb:b.toNat≤1)(hm:Aj.may ⟨n,d,b == 1⟩=true):ungroup l=(ungroup R).map ((cs++[⟨n,d,b == 1⟩])++ ·):=by
 rw[h];simp only[ungroup];rw[Ab ⟨hb,hm⟩,Option.map_map]
 congr 1
 funext q
 simp
theorem adj{l R:List T}{cs:List Aj}{b:UInt8}{n d:T}(h:ungroup l=(ungroup ((b :: n) :: d :: R)).map (cs++ ·))(hb:¬ (b.toNat≤1∧Aj.may ⟨n,d,b == 1⟩=true)):ungroup l=none:=by
 rw[h];simp only[ungroup];rw[Aa hb];rfl
theorem azI{l R:List T}{cs:List Aj}{d:T}(h:ungroup l=(ungroup ([] :: d :: R)).map (cs++ ·)):ungroup l=none:=by
 rw[h];rfl
@[irreducible] def Mg (l:List Aj):List Value:=l.flatMap fun c=>[.string (bs c.name),.string (bs c.data),.bool c.gone]
theorem yI:Mg []=[]:=by unfold Mg;rfl
theorem yJ(l:List Aj)(c:Aj):Mg (l++[c])=Mg l++[.string (bs c.name),.string (bs c.data),.bool c.gone]:=by unfold Mg;simp
theorem aqv(l:List Aj)(k:Nat)(hk:k < l.length)(j:Nat)(hj:j < 3):(Mg l)[k*3+j]?=([.string (bs l[k].name),.string (bs l[k].data),.bool l[k].gone]:List Value)[j]? :=by
 unfold Mg
 induction l generalizing k with
 |nil=>simp at hk
 |cons c l ih=>
  rw[List.flatMap_cons];cases k with
  |zero=>
   rw[Nat.zero_mul,GJ,List.getElem?_append_left (by simp;omega)];rfl
  |succ k=>
   rw[List.getElem?_append_right (by simp;omega),show(k+1)*3+j -([Value.string (bs c.name),.string (bs c.data),.bool c.gone]:List Value).length=k*3+j by simp;omega];exact ih k (by simpa using hk)
theorem DW.CG{w:World}{base:Nat}{q:Option Addr}{c:Nat}{l:List Aj}(h:w.ownsRow base 65 3 (.slice q l.length c) l.length (Mg l)):DW w q l:=fun i hi=>by
 rcases h.2 with⟨e1,e2⟩|⟨g,cap,cur,e1,_⟩
 ·omega
 ·have e2:q=some ⟨g,0,none⟩:=by injection e1
  subst e2;have hc:∀ j,j < 3→∀ v,([.string (bs l[i].name),.string (bs l[i].data),.bool l[i].gone]:List Value)[j]?=some v→w.cell? (((⟨g,0,none⟩:Addr).add (i*3)).add j)=some v:=fun j hj v hv=>by
   rw[←aqv l i hi j hj] at hv;have:=h.cells (g:=g) rfl _ _ hv;rw[add_plain] at this ⊢;rw[WC];exact this
  exact⟨_,rfl,hc 0 (by omega) _ rfl,hc 1 (by omega) _ rfl,hc 2 (by omega) _ rfl⟩
theorem yK:(prog.info? 65).map (fun i=>(i.zero,i.size,i.bytes))=some (some (.agg #[.string ByteArray.empty,.string ByteArray.empty,.bool false]),3,40):=by kernel_rfl
def WB(w:World)(l:List T)(e:Ending)(w':World):Prop:=
 match ungroup l with
 |none=>e=.returned (.tuple #[.slice none 0 0,.bool false])∧Bw w w'
 |some cs=>∃ q c,e=.returned (.tuple #[.slice q cs.length c,.bool true])∧w'.ownsRow w.heap.size 65 3 (.slice q cs.length c) cs.length (Mg cs)∧Bw w w'
theorem lN{w w':World}{l:List T}{e:Ending}(h:ungroup l=none)(he:e=.returned (.tuple #[.slice none 0 0,.bool false]))(hb:Bw w w'):WB w l e w':=by
 unfold WB;rw[h];exact⟨he,hb⟩
theorem azH{w w':World}{l:List T}{e:Ending}{cs:List Aj}{q:Option Addr}{c:Nat}(h:ungroup l=some cs)(he:e=.returned (.tuple #[.slice q cs.length c,.bool true]))(ho:w'.ownsRow w.heap.size 65 3 (.slice q cs.length c) cs.length (Mg cs))(hb:Bw w w'):WB w l e w':=by
 unfold WB;rw[h];exact⟨q,c,he,ho,hb⟩
theorem zD{w:World}{a:Option Addr}{cap:Nat}{l:List T}(hL:Cg w a l)(hlen:l.length≤1000000)(Cb:∀ s∈l,s.length≤1000000000):
  Calls prog 56 #[.slice a l.length cap] w fun e w'=>WB w l e w':=by
 have HL:=Hi hL;have FQ:=Hi Cb;clear hL Cb;by_cases Xk:l.length % 2=1
 ·have HN:=Hi (azJ _ l (Ac _) Xk);have h1:(l.length:Int) % 2=1:=by omega
  clear Xk;go_enter func56,ntmps56;go_wp2_with fail;go_ret2;exact lN HN rfl (Af _ _)
 ·obtain⟨n,hn⟩:∃ n,l.length=2*n:=⟨l.length / 2,by omega⟩;have h1:(l.length:Int) % 2=0:=by omega
  clear Xk;obtain⟨i0,Ba,AQ,AU,AV⟩:=Du yK;have HNN:=Hi hn;clear hn;go_enter func56,ntmps56;go_wp2_with fail;clear h1
  go_loopw [2,4] (fun s i wr=>∃ (k:Nat) (cs:List Aj) (q:Option Addr) (c:Nat),k≤n∧cs.length=k∧i=.int .i64 (2*(k:Int))∧s=.slice q cs.length c∧wr.ownsRow w.heap.size 65 3 (.slice q cs.length c) cs.length (Mg cs)∧Bw w wr∧ungroup l=(ungroup (l.drop (2*k))).map (cs++ ·)) (fun _ i _=>l.length -(intOf i).toNat)
  case atStart=>exact⟨0,[],none,0,AB _,rfl,rfl,rfl,by rw[yI];exact EI _ _ _ _,Af _ _,by rw[List.drop_zero];cases ungroup l<;>rfl⟩
  case round=>
   obtain⟨k,cs,q,c,hk,BH,rfl,rfl,Ah,hb,GA⟩:=hrel;by_cases hlt:k < n
   ·have jJ:=HNN.out;have hk1:2*k < l.length:=(by omega);have hk2:2*k+1 < l.length:=(by omega);obtain⟨p,hp,MB⟩:=HL (2*k) hk1;obtain⟨p',Mw,Kl⟩:=HL (2*k+1) hk2;obtain rfl:p=p':=(by rw[hp] at Mw;exact G7 Mw);have hd:l.drop (2*k)=l[2*k] :: l[2*k+1] :: l.drop (2*(k+1)):=by
     rw[Qz hk1,Qz hk2];rfl
    rw[hd] at GA;clear hd;have aum:∀ W,(Instr.indexAt 27 (.slice (some p) l.length cap) (.int .i64 (2*(k:Int)))).run prog W=.ok (.pointer (some (p.add (2*k)))) W:=fun W=>by
     have:=Hr prog 27 9 underlying27 1 (by kernel_rfl) p l.length cap (2*k) hk1 W;rw[Nat.mul_one,show((2*k:Nat):Int)=2*(k:Int) by omega] at this;exact this
    have qN:∀ W,(Instr.indexAt 27 (.slice (some p) l.length cap) (.int .i64 (2*(k:Int)+1))).run prog W=.ok (.pointer (some (p.add (2*k+1)))) W:=fun W=>by
     have:=Hr prog 27 9 underlying27 1 (by kernel_rfl) p l.length cap (2*k+1) hk2 W;rw[Nat.mul_one,show((2*k+1:Nat):Int)=2*(k:Int)+1 by omega] at this;exact this
    have Dj:=FQ _ (Ci hk1);have Dc:=FQ _ (Ci hk2);subst hp;have rE:=(hb.cell (BS MB)).trans MB;have rF:=(hb.cell (BS Kl)).trans Kl;have ajO:∀ o,(wr.alloc o).cell? (p.add (2*k))=some (.string (bs l[2*k])):=fun o=>(((Af _ wr).alloc (Ac _) o).cell (BS rE)).trans rE
    have ajP:∀ o,(wr.alloc o).cell? (p.add (2*k+1))=some (.string (bs l[2*k+1])):=fun o=>(((Af _ wr).alloc (Ac _) o).cell (BS rF)).trans rF
    have HR:=Hi Ah;have HB:=Hi hb;have Ev:=Hi BH;have rH:=hb.size;clear HL;generalize p.add (2*k)=q1 at*;generalize p.add (2*k+1)=q2 at*;generalize l[2*k]=s1 at*;generalize l[2*k+1]=s2 at*;obtain⟨R,hR⟩:=ex (l.drop (2*(k+1)));rw[hR] at GA;have QN:=Hi hR;clear hR;clear Ah hb MB Kl Mw BH;cases s1 with
    |nil=>
     have HN:=Hi (azI GA);clear GA jJ;go_wp2_with fail;go_ret2;exact lN HN rfl HB.out
    |cons b nm=>
     by_cases Ad:b.toNat≤1
     ·rcases(show b=0∨b=1 by
       have h1:=UInt8.toNat_lt b;rcases(show b.toNat=0∨b.toNat=1 by omega) with h|h
       ·exact .inl (UInt8.toNat_inj.1 h)
       ·exact .inr (UInt8.toNat_inj.1 h)) with rfl|rfl
      all_goals clear Ad jJ
      ·have X3:∀ W,(Instr.slice 9 (.string (bs (0 :: nm))) (some (.int .i64 1)) none none).run prog W=.ok (.string (bs nm)) W:=fun W=>LQ prog W 9 underlying9 (0 :: nm) 1 (by simp)
       have Ee:nm.length≤1000000000:=(by simp at Dj;omega);have Yb:=Hi Ee;have Yo:=Hi GA;have e0:(0:Nat) < (0 :: nm).length:=(by simp);clear GA Dj;go_wp2_with fail;go_region;all_goals
        have CL:=Hi (show Bw wr (wr.alloc (.cells #[.string (bs nm),.string (bs s2),.bool false] 65)).drew from((Af _ _).alloc (Ac _) _).drew);have d0:((wr.alloc (.cells #[.string (bs nm),.string (bs s2),.bool false] 65)).drew).cell? ⟨wr.heap.size,0,none⟩=some (.string (bs nm)):=(by simp);have d1:((wr.alloc (.cells #[.string (bs nm),.string (bs s2),.bool false] 65)).drew).cell? ⟨wr.heap.size,1,none⟩=some (.string (bs s2)):=(by simp);have d2:((wr.alloc (.cells #[.string (bs nm),.string (bs s2),.bool false] 65)).drew).cell? ⟨wr.heap.size,2,none⟩=some (.bool false):=(by simp);have FL:=Hi (show((wr.alloc (.cells #[.string (bs nm),.string (bs s2),.bool false] 65)).drew).heap.size=wr.heap.size+1 by simp);clear rE ajO rF ajP;generalize (wr.alloc (.cells #[.string (bs nm),.string (bs s2),.bool false] 65)).drew=W1 at*;go_wp2_with fail;refine(oQ nm s2 false _ (by have:=Yb.out;unfold maxLen;omega) (by unfold maxLen;omega)).mono ?_;rintro e w2⟨rfl,A8⟩;have Vq:wr.heap.size < W1.heap.size:=(by have:=FL.out;omega);have f0:=(A8.cell (p:=⟨wr.heap.size,0,none⟩) Vq).trans d0;have f1:=(A8.cell (p:=⟨wr.heap.size,1,none⟩) Vq).trans d1;have f2:=(A8.cell (p:=⟨wr.heap.size,2,none⟩) Vq).trans d2;have Ag:=Hi (CL.trans (A8.mono CL.size));clear d0 d1 d2 A8 Vq;obtain⟨mv,DZ⟩:=ex (Aj.may ⟨nm,s2,false⟩);have QL:=Hi DZ;rw[DZ];clear DZ;cases mv with
        |false=>
         have HN:=Hi (adj Yo (fun h=>by have h2:=h.2;rw[show((0:UInt8) == 1)=false from rfl,QL.out] at h2;cases h2));go_wp2_with fail;go_ret2;exact lN HN rfl (HB.trans (Ag.mono HB.size))
        |true=>
         have HY:=Hi (anw Yo (by decide) (by rw[show((0:UInt8) == 1)=false from rfl];exact QL.out));have SH:=Ag.size;have hwz:w.heap.size≤w2.heap.size:=Ap rH SH;have ai7:cs.length≤1000000:=(by have:=Ev.out;omega);have BI:=Hi (Bh HR (ub Ag) (fun _ _ f=>f));go_wp2_with (at_builtin;refine wpList_append_own_at _ rfl _ _ 24 rfl w.heap.size 65 i0 _ 3 40 underlying24 Ba AQ AU AV rfl (by decide) _ cs.length _ rfl (BI.alloc _) ⟨w2.heap.size,0,none⟩ 1 1 [.string (bs nm),.string (bs s2),.bool false] rfl rfl (by intro j u hj;rw[add_plain,DF];exact(Dn▸hj)) (by simp[Value.oneCell']) (by unfold maxLen;omega) (by omega) (by simp;omega) ?_;intro v' w1 BB Az _ hat;obtain⟨g',cap',rfl⟩:=ownsRow_succ BB;have HO:=Hi BB;have HG:=Hi Az;clear BB Az hat);go_roundw
         case rel=>
           refine⟨k+1,cs++[⟨nm,s2,false⟩],_,_,by omega,by rw[Au,Ev.out];rfl,by go_num,by rw[Au];rfl,?_,?_,by rw[QN.out];exact HY.out⟩
           ·rw[Au,yJ];exact HO.out
           ·exact((HB.trans (Ag.mono HB.size)).alloc hwz _).grown HG (by simp;omega) (fun j hj=>by
             have KL:(Value.slice q cs.length c).ownBlock=some j:=hj;rcases HR.2 with⟨e1,_⟩|⟨g,c2,cur,e1,Lx,_⟩
             ·rw[e1] at KL;simp[Value.ownBlock] at KL
             ·rw[e1] at KL;simp[Value.ownBlock] at KL;omega)
         case measure=>simp[intOf];omega
      ·have X3:∀ W,(Instr.slice 9 (.string (bs (1 :: nm))) (some (.int .i64 1)) none none).run prog W=.ok (.string (bs nm)) W:=fun W=>LQ prog W 9 underlying9 (1 :: nm) 1 (by simp)
       have Ee:nm.length≤1000000000:=(by simp at Dj;omega);have Yb:=Hi Ee;have Yo:=Hi GA;have e0:(0:Nat) < (1 :: nm).length:=(by simp);clear GA Dj;go_wp2_with fail;go_region;all_goals
        have CL:=Hi (show Bw wr (wr.alloc (.cells #[.string (bs nm),.string (bs s2),.bool true] 65)).drew from((Af _ _).alloc (Ac _) _).drew);have d0:((wr.alloc (.cells #[.string (bs nm),.string (bs s2),.bool true] 65)).drew).cell? ⟨wr.heap.size,0,none⟩=some (.string (bs nm)):=(by simp);have d1:((wr.alloc (.cells #[.string (bs nm),.string (bs s2),.bool true] 65)).drew).cell? ⟨wr.heap.size,1,none⟩=some (.string (bs s2)):=(by simp);have d2:((wr.alloc (.cells #[.string (bs nm),.string (bs s2),.bool true] 65)).drew).cell? ⟨wr.heap.size,2,none⟩=some (.bool true):=(by simp);have FL:=Hi (show((wr.alloc (.cells #[.string (bs nm),.string (bs s2),.bool true] 65)).drew).heap.size=wr.heap.size+1 by simp);clear rE ajO rF ajP;generalize (wr.alloc (.cells #[.string (bs nm),.string (bs s2),.bool true] 65)).drew=W1 at*;go_wp2_with fail;refine(oQ nm s2 true _ (by have:=Yb.out;unfold maxLen;omega) (by unfold maxLen;omega)).mono ?_;rintro e w2⟨rfl,A8⟩;have Vq:wr.heap.size < W1.heap.size:=(by have:=FL.out;omega);have f0:=(A8.cell (p:=⟨wr.heap.size,0,none⟩) Vq).trans d0;have f1:=(A8.cell (p:=⟨wr.heap.size,1,none⟩) Vq).trans d1;have f2:=(A8.cell (p:=⟨wr.heap.size,2,none⟩) Vq).trans d2;have Ag:=Hi (CL.trans (A8.mono CL.size));clear d0 d1 d2 A8 Vq;obtain⟨mv,DZ⟩:=ex (Aj.may ⟨nm,s2,true⟩);have QL:=Hi DZ;rw[DZ];clear DZ;cases mv with
        |false=>
         have HN:=Hi (adj Yo (fun h=>by have h2:=h.2;rw[show((1:UInt8) == 1)=true from rfl,QL.out] at h2;cases h2));go_wp2_with fail;go_ret2;exact lN HN rfl (HB.trans (Ag.mono HB.size))
        |true=>
         have HY:=Hi (anw Yo (by decide) (by rw[show((1:UInt8) == 1)=true from rfl];exact QL.out));have SH:=Ag.size;have hwz:w.heap.size≤w2.heap.size:=Ap rH SH;have ai7:cs.length≤1000000:=(by have:=Ev.out;omega);have BI:=Hi (Bh HR (ub Ag) (fun _ _ f=>f));go_wp2_with (at_builtin;refine wpList_append_own_at _ rfl _ _ 24 rfl w.heap.size 65 i0 _ 3 40 underlying24 Ba AQ AU AV rfl (by decide) _ cs.length _ rfl (BI.alloc _) ⟨w2.heap.size,0,none⟩ 1 1 [.string (bs nm),.string (bs s2),.bool true] rfl rfl (by intro j u hj;rw[add_plain,DF];exact(Dn▸hj)) (by simp[Value.oneCell']) (by unfold maxLen;omega) (by omega) (by simp;omega) ?_;intro v' w1 BB Az _ hat;obtain⟨g',cap',rfl⟩:=ownsRow_succ BB;have HO:=Hi BB;have HG:=Hi Az;clear BB Az hat);go_roundw
         case rel=>
           refine⟨k+1,cs++[⟨nm,s2,true⟩],_,_,by omega,by rw[Au,Ev.out];rfl,by go_num,by rw[Au];rfl,?_,?_,by rw[QN.out];exact HY.out⟩
           ·rw[Au,yJ];exact HO.out
           ·exact((HB.trans (Ag.mono HB.size)).alloc hwz _).grown HG (by simp;omega) (fun j hj=>by
             have KL:(Value.slice q cs.length c).ownBlock=some j:=hj;rcases HR.2 with⟨e1,_⟩|⟨g,c2,cur,e1,Lx,_⟩
             ·rw[e1] at KL;simp[Value.ownBlock] at KL
             ·rw[e1] at KL;simp[Value.ownBlock] at KL;omega)
         case measure=>simp[intOf];omega
     ·have HN:=Hi (adj GA (fun h=>Ad h.1));have hbi:(1:Int) < (b.toNat:Int):=(by omega);clear GA jJ Ad;go_wp2_with fail;go_ret2;exact lN HN rfl HB.out
   ·obtain rfl:k=n:=(by omega);have jJ:=HNN.out;rw[List.drop_of_length_le (by omega)] at GA;have Yo:=Hi (show ungroup l=some cs by rw[GA];simp[ungroup]);have HR:=Hi Ah;have HB:=Hi hb;clear Ah hb GA;go_wp2_with fail;go_ret2;exact azH Yo rfl HR HB.out
end
end Go.Proofs.YtmbbhdebddbhoaaGreat
