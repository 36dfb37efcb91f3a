/- FilMade2 -/
import Derived.Test.YtmbbhdebddbhoaaGreatQ9
import Derived.Test.YtmbbhdebddbhoaaGreatQ10
set_option maxHeartbeats 2000000
set_option maxRecDepth 100000
set_option linter.all false
namespace Go.Proofs.YtmbbhdebddbhoaaGreat
open Tryz
section
open Go.RowKit Go.Maps
open Fil
structure Mq(w:World)(q:Addr)(c:Af):Prop where
 name:w.cell? (q.add 0)=some (.string (bs c.name))
 data:w.cell? (q.add 1)=some (.string (bs c.data))
 gone:w.cell? (q.add 2)=some (.bool c.gone)
theorem Mq.cells{w:World}{q:Addr}{c:Af}(h:Mq w q c):w.cell? q=some (.string (bs c.name))∧w.cell? ⟨q.block,q.off+1,none⟩=some (.string (bs c.data))∧w.cell? ⟨q.block,q.off+2,none⟩=some (.bool c.gone):=by
 have h1:=h.name;rw[add_zero'] at h1;exact⟨h1,h.data,h.gone⟩
def D7(w:World)(a:Option Addr)(l:List Af):Prop:=∀ i,(h:i < l.length)→∃ p:Addr,a=some p∧Mq w (p.add (i*3)) l[i]
theorem Mq.upd{F:Nat→Prop}{w w':World}{q:Addr}{c:Af}(h:Mq w q c)(hu:A7 F w w')(hF:¬ F q.block):Mq w' q c:=by
 have b:∀ i,(q.add i).block=q.block:=add_block q;have hlt:=Bz h.name;exact⟨(hu.cell hlt (by rw[b];exact hF)).trans h.name,(hu.cell (by rw[b];rw[b] at hlt;exact hlt) (by rw[b];exact hF)).trans h.data,(hu.cell (by rw[b];rw[b] at hlt;exact hlt) (by rw[b];exact hF)).trans h.gone⟩
theorem D7.upd{F:Nat→Prop}{w w':World}{a:Option Addr}{l:List Af}(h:D7 w a l)(hu:A7 F w w')(hF:∀ p,a=some p→l≠[]→¬ F p.block):D7 w' a l:=fun i hi=>by
 obtain⟨p,hp,h1⟩:=h i hi;exact⟨p,hp,h1.upd hu (by rw[add_block];exact hF p hp (by intro e;rw[e] at hi;simp at hi))⟩
theorem Mq.below{w w':World}{q:Addr}{c:Af}(h:Mq w q c)(hb:Bw w w'):Mq w' q c:=h.upd (ub hb) (fun f=>f)
theorem D7.below{w w':World}{a:Option Addr}{l:List Af}(h:D7 w a l)(hb:Bw w w'):D7 w' a l:=h.upd (ub hb) (fun _ _ _ f=>f)
theorem D7.index{w:World}{a:Option Addr}{l:List Af}(h:D7 w a l)(cap k:Nat)(hk:k < l.length):
  ∃ q:Addr,(∀ W,(Instr.indexAt 24 (.slice a l.length cap) (.int .i64 (k:Int))).run prog W=.ok (.pointer (some q)) W)∧Mq w q l[k]∧∃ p:Addr,a=some p∧q.block=p.block:=by
 obtain⟨p,rfl,h1⟩:=h k hk;exact⟨_,fun W=>Fw prog _ 65 underlying24 3 (by kernel_rfl) p l.length cap k hk W,h1,p,rfl,add_block _ _⟩
theorem Sl{w:World}{p:Addr}{v:Value}(h:w.cell? p=some v){m:Nat}{es:Array MapEntry}{c:Nat}(hm:w.heap[m]?=some (.map es c)):p.block≠m:=by
 intro e;subst e;unfold World.cell? at h;rw[hm] at h;simp at h
theorem ahS(F:M)(c:Af):(Af.on F c).length≤F.length+1:=by
 unfold Af.on;split
 ·unfold del;have:=Km (fun p:T×T=>!(p.1 == c.name)) F;omega
 ·unfold put;rw[Aj,AX];have:(F.filter fun p=>decide (p.1 < c.name)).length+(F.filter fun p=>decide (c.name < p.1)).length≤F.length:=by
   induction F with
   |nil=>simp
   |cons p F ih=>
    by_cases h1:p.1 < c.name
    ·have h2:=Lp h1;rw[Qn (by simpa using h1),N9 (by simpa using h2)];simp only[AX];omega
    ·rw[N9 (by simpa using h1)];have:=Km (fun q:T×T=>decide (c.name < q.1)) (p :: F);by_cases h2:c.name < p.1
     ·rw[Qn (by simpa using h2)];simp only[AX];omega
     ·rw[N9 (by simpa using h2)];simp only[AX];omega
  omega
theorem j6(F:M)(l:List Af):(made F l).length≤F.length+l.length:=by
 induction l generalizing F with
 |nil=>exact Ab _
 |cons c l ih=>
  have h1:=ih (Af.on F c);have h2:=ahS F c
  show(made (Af.on F c) l).length≤_
  rw[AX];omega
theorem ja{w:World}{m:Nat}{F:M}{a:Option Addr}{cap:Nat}{l:List Af}(hM:BJ w m F)(hL:D7 w a l)(hlen:l.length≤1000000)(hF:F.length≤1000000000000000)(hok:∀ c∈l,c.name.length≤maxLen):
  Calls prog 57 #[.map (some m),.slice a l.length cap] w fun e w'=>e=.returned (.tuple #[])∧BJ w' m (made F l)∧A7 (fun k=>k=m) w w':=by
 have HM:=Hi hM;have HL:=Hi hL;have Es:=Hi hok;clear hM hL hok;go_enter func57,ntmps57;go_wp2_with fail
 go_loopw [8] (fun i wr=>∃ k:Nat,k≤l.length∧i=.int .i64 k∧BJ wr m (made F (l.take k))∧A7 (fun k=>k=m) w wr) (fun i _=>l.length -(intOf i).toNat)
 case atStart=>exact⟨0,Ar _,rfl,HM,A7.refl _ _⟩
 case round=>
  obtain⟨k,hk,rfl,hm,hu⟩:=hrel;by_cases hlt:k < l.length
  ·obtain⟨q,hix,hq,-⟩:=HL.index cap k hlt;obtain⟨es,ck,hes⟩:=HM.is;have hq2:=hq.upd hu (Sl (hq.cells).1 hes);have hin:=Es _ (BF hlt);have HT:=Hi (show made F (l.take (k+1))=Af.on (made F (l.take k)) l[k] by rw[BS hlt,il]);generalize l[k]=c at*;obtain⟨cn,cd,cg⟩:=c;simp only at hin;obtain⟨c0,c1,c2⟩:=hq2.cells;simp only at c0 c1 c2;have DU:=j6 F (l.take k);rw[Aw] at DU;have hb:Bw wr (wr.alloc (.cells #[.string (bs cn),.string (bs cd),.bool cg] 65)):=(Ad _ _).alloc (Ab _) _;have hm2:=hm.below hb;have HU:=Hi hu;have HB:=Hi hb;cases cg with
   |true=>
    have hd:=fun ty=>hm2.delete cn hin ty
    obtain⟨w2,hd1,hd2,hd3⟩:=hd 0;have HD2:=Hi hd2;have HD3:=Hi hd3;clear hq hq2 hes hm hm2 hu hb DU hd2 hd3 hd;go_wp2_with fail;go_roundw
    case rel=>exact⟨k+1,by omega,by go_num,by rw[HT.out];exact HD2.out,(HU.trans (A7.of_below (F:=fun k=>k=m) HB) (fun i hi=>.inl hi)).trans (A7.of_grownBy (F:=fun k=>k=m) HD3 (fun k e=>by cases e;rfl)) (fun i hi=>.inl hi)⟩
    case measure=>simp[intOf];omega
   |false=>
    obtain⟨w2,hd1,hd2,hd3⟩:=hm2.update cn cd hin (by unfold maxLen;omega);have HD2:=Hi hd2;have HD3:=Hi hd3;clear hq hq2 hes hm hm2 hu hb DU hd2 hd3;go_wp2_with fail;go_roundw
    case rel=>exact⟨k+1,by omega,by go_num,by rw[HT.out];exact HD2.out,(HU.trans (A7.of_below (F:=fun k=>k=m) HB) (fun i hi=>.inl hi)).trans (A7.of_grownBy (F:=fun k=>k=m) HD3 (fun k e=>by cases e;rfl)) (fun i hi=>.inl hi)⟩
    case measure=>simp[intOf];omega
  ·obtain rfl:k=l.length:=(by omega);rw[Ck] at hm;have UA:=Hi hm;have HU:=Hi hu;clear hm hu;go_wp2_with fail
   go_end0
   exact⟨rfl,UA,HU⟩
theorem xu(w:World)(x y:Value)(t:TypeId):∀ j u,[x,y][j]?=some u→(w.alloc (.cells #[x,y] t)).cell? ((⟨w.heap.size,0,none⟩:Addr).add j)=some u:=by
 intro j u hj;rw[add_plain,CV]
 match j,hj with
 |0,hj=>simpa using hj
 |1,hj=>simpa using hj
theorem ahT(l:List Af)(k:Nat)(h:k < l.length):group (l.take (k+1))=group (l.take k)++[Oc l[k].gone :: l[k].name,l[k].data]:=by
 rw[BS h,agX]
theorem ahU{w:World}{a:Option Addr}{cap:Nat}{l:List Af}(hL:D7 w a l)(hlen:l.length≤1000000)(hok:∀ c∈l,c.name.length≤1000000):
  Calls prog 97 #[.slice a l.length cap] w fun e w'=>∃ q cap',e=.returned (.slice q (group l).length cap')∧w'.ownsRow w.heap.size 9 1 (.slice q (group l).length cap') (group l).length (strCells (group l))∧Bw w w':=by
 obtain⟨i0,hi0,hz0,hz1,hz2⟩:=Cz Nr;have HL:=Hi hL;have Es:=Hi hok;clear hL hok;go_enter func97,ntmps97;go_wp2_with fail
 go_loopw [2,8] (fun s i wr=>∃ (k:Nat) (q:Option Addr) (c:Nat),k≤l.length∧i=.int .i64 k∧s=.slice q (2*k) c∧wr.ownsRow w.heap.size 9 1 (.slice q (2*k) c) (2*k) (strCells (group (l.take k)))∧Bw w wr) (fun _ i _=>l.length -(intOf i).toNat)
 case atStart=>exact⟨0,none,0,Ar _,rfl,rfl,by rw[FJ];show World.ownsRow _ _ _ _ _ 0 (strCells []);rw[WM];exact DJ _ _ _ _,Ad _ _⟩
 case round=>
  obtain⟨k,q,c,hk,rfl,rfl,ast,hb⟩:=hrel;by_cases hlt:k < l.length
  ·obtain⟨qa,hix,hq,-⟩:=HL.index cap k hlt;have hq2:=hq.below hb;have hin:=Es _ (BF hlt);have HT:=Hi (ahT l k hlt);have h0:({ data:=#[0] }:ByteArray)=bs [0]:=rfl;have h1:({ data:=#[1] }:ByteArray)=bs [1]:=rfl;generalize l[k]=x at*;obtain⟨cn,cd,cg⟩:=x;simp only at hin;obtain⟨c0,c1,c2⟩:=hq2.cells;simp only at c0 c1 c2;have hsz:=hb.size;have HR:=Hi ast;have HB:=Hi hb;clear hq hq2 ast hb;cases cg with
   |true=>
    go_wp2_with (at_builtin;refine wpList_append_own_at _ rfl _ _ 27 rfl w.heap.size 9 i0 _ 1 16 underlying27 hi0 hz0 hz1 hz2 rfl (by decide) _ (2*k) _ rfl ((HR.alloc _).alloc _) ⟨wr.heap.size+1,0,none⟩ 2 2 [.string (bs (1 :: cn)),.string (bs cd)] rfl rfl (by have h:=xu (wr.alloc (.cells #[.string (bs cn),.string (bs cd),.bool true] 65)) (.string (bs (1 :: cn))) (.string (bs cd)) 9;rw[Ai] at h;exact h) (by simp[Value.oneCell']) (by unfold maxLen;omega) (by omega) (by simp;omega) ?_;intro v' w1 asJ asx _ hat;obtain⟨g',cap',rfl⟩:=ownsRow_succ asJ;have HO:=Hi asJ;have HG:=Hi asx;clear asJ asx hat);go_roundw
    case rel=>
     refine⟨k+1,_,_,by omega,by go_num,rfl,?_,?_⟩
     ·rw[HT.out];unfold Oc;have e:strCells (group (l.take k)++[1 :: cn,cd])=strCells (group (l.take k))++[.string (bs (1 :: cn)),.string (bs cd)]:=by
       rw[show group (l.take k)++[1 :: cn,cd]=(group (l.take k)++[1 :: cn])++[cd] by simp,Mi,Mi,Cw];rfl
      exact e▸HO.out
     ·exact((HB.alloc HB.size _).alloc (by simp;omega) _).grown HG (by simp;omega) (fun j hj=>by
       have hj':(Value.slice q (2*k) c).ownBlock=some j:=hj;rcases HR.2 with⟨e1,_⟩|⟨g,c2,cur,e1,auJ,_⟩
       ·rw[e1] at hj';simp[Value.ownBlock] at hj'
       ·rw[e1] at hj';simp[Value.ownBlock] at hj';omega)
    case measure=>simp[intOf];omega
   |false=>
    go_wp2_with (at_builtin;refine wpList_append_own_at _ rfl _ _ 27 rfl w.heap.size 9 i0 _ 1 16 underlying27 hi0 hz0 hz1 hz2 rfl (by decide) _ (2*k) _ rfl ((HR.alloc _).alloc _) ⟨wr.heap.size+1,0,none⟩ 2 2 [.string (bs (0 :: cn)),.string (bs cd)] rfl rfl (by have h:=xu (wr.alloc (.cells #[.string (bs cn),.string (bs cd),.bool false] 65)) (.string (bs (0 :: cn))) (.string (bs cd)) 9;rw[Ai] at h;exact h) (by simp[Value.oneCell']) (by unfold maxLen;omega) (by omega) (by simp;omega) ?_;intro v' w1 asJ asx _ hat;obtain⟨g',cap',rfl⟩:=ownsRow_succ asJ;have HO:=Hi asJ;have HG:=Hi asx;clear asJ asx hat);go_roundw
    case rel=>
     refine⟨k+1,_,_,by omega,by go_num,rfl,?_,?_⟩
     ·rw[HT.out];unfold Oc;have e:strCells (group (l.take k)++[0 :: cn,cd])=strCells (group (l.take k))++[.string (bs (0 :: cn)),.string (bs cd)]:=by
       rw[show group (l.take k)++[0 :: cn,cd]=(group (l.take k)++[0 :: cn])++[cd] by simp,Mi,Mi,Cw];rfl
      exact e▸HO.out
     ·exact((HB.alloc HB.size _).alloc (by simp;omega) _).grown HG (by simp;omega) (fun j hj=>by
       have hj':(Value.slice q (2*k) c).ownBlock=some j:=hj;rcases HR.2 with⟨e1,_⟩|⟨g,c2,cur,e1,auJ,_⟩
       ·rw[e1] at hj';simp[Value.ownBlock] at hj'
       ·rw[e1] at hj';simp[Value.ownBlock] at hj';omega)
    case measure=>simp[intOf];omega
  ·obtain rfl:k=l.length:=(by omega);rw[Ck] at ast;have hgl:=vF l;rw[←hgl] at ast ⊢;have HR:=Hi ast;have HB:=Hi hb;clear ast hb hgl;go_wp2_with fail;go_ret;exact⟨_,_,rfl,HR,HB⟩
end
section
open Go.RowKit Go.Maps
open Fil
theorem ahV:∀ (n:Nat) (l:List T),l.length≤n→l.length % 2=1→ungroup l=none:=by
 intro n
 induction n with
 |zero=>intro l hn h;omega
 |succ n ih=>
  intro l hn h
  match l,h with
  |[_],_=>rfl
  |[] :: _ :: _,_=>rfl
  |(b :: k) :: d :: l,h=>
   simp only[ungroup];split
   ·rw[ih l (by simp at hn;omega) (by simp at h;omega)];rfl
   ·rfl
theorem xx{l R:List T}{cs:List Af}{b:UInt8}{n d:T}(h:ungroup l=(ungroup ((b :: n) :: d :: R)).map (cs++ ·))(hb:b.toNat≤1)(hm:Af.may ⟨n,d,b == 1⟩=true):ungroup l=(ungroup R).map ((cs++[⟨n,d,b == 1⟩])++ ·):=by
 rw[h];simp only[ungroup];rw[Ac ⟨hb,hm⟩,Option.map_map]
 congr 1
 funext q
 simp
theorem jb{l R:List T}{cs:List Af}{b:UInt8}{n d:T}(h:ungroup l=(ungroup ((b :: n) :: d :: R)).map (cs++ ·))(hb:¬ (b.toNat≤1∧Af.may ⟨n,d,b == 1⟩=true)):ungroup l=none:=by
 rw[h];simp only[ungroup];rw[Aa hb];rfl
theorem ahW{l R:List T}{cs:List Af}{d:T}(h:ungroup l=(ungroup ([] :: d :: R)).map (cs++ ·)):ungroup l=none:=by
 rw[h];rfl
@[irreducible] def IW (l:List Af):List Value:=l.flatMap fun c=>[.string (bs c.name),.string (bs c.data),.bool c.gone]
theorem jc:IW []=[]:=by unfold IW;rfl
theorem jd(l:List Af)(c:Af):IW (l++[c])=IW l++[.string (bs c.name),.string (bs c.data),.bool c.gone]:=by unfold IW;simp
theorem ahX(l:List Af)(k:Nat)(hk:k < l.length)(j:Nat)(hj:j < 3):(IW l)[k*3+j]?=([.string (bs l[k].name),.string (bs l[k].data),.bool l[k].gone]:List Value)[j]? :=by
 unfold IW
 induction l generalizing k with
 |nil=>simp at hk
 |cons c l ih=>
  rw[List.flatMap_cons];cases k with
  |zero=>
   rw[Nat.zero_mul,Fs,List.getElem?_append_left (by simp;omega)];rfl
  |succ k=>
   rw[List.getElem?_append_right (by simp;omega),show(k+1)*3+j -([Value.string (bs c.name),.string (bs c.data),.bool c.gone]:List Value).length=k*3+j by simp;omega];exact ih k (by simpa using hk)
theorem D7.BU{w:World}{base:Nat}{q:Option Addr}{c:Nat}{l:List Af}(h:w.ownsRow base 65 3 (.slice q l.length c) l.length (IW l)):D7 w q l:=fun i hi=>by
 rcases h.2 with⟨e1,e2⟩|⟨g,cap,cur,e1,_⟩
 ·omega
 ·have e2:q=some ⟨g,0,none⟩:=by injection e1
  subst e2;have hc:∀ j,j < 3→∀ v,([.string (bs l[i].name),.string (bs l[i].data),.bool l[i].gone]:List Value)[j]?=some v→w.cell? (((⟨g,0,none⟩:Addr).add (i*3)).add j)=some v:=fun j hj v hv=>by
   rw[←ahX l i hi j hj] at hv;have:=h.cells (g:=g) rfl _ _ hv;rw[add_plain] at this ⊢;rw[Qr];exact this
  exact⟨_,rfl,hc 0 (by omega) _ rfl,hc 1 (by omega) _ rfl,hc 2 (by omega) _ rfl⟩
theorem je:(prog.info? 65).map (fun i=>(i.zero,i.size,i.bytes))=some (some (.agg #[.string ByteArray.empty,.string ByteArray.empty,.bool false]),3,40):=by kernel_rfl
def QO(w:World)(l:List T)(e:Ending)(w':World):Prop:=
 match ungroup l with
 |none=>e=.returned (.tuple #[.slice none 0 0,.bool false])∧Bw w w'
 |some cs=>∃ q c,e=.returned (.tuple #[.slice q cs.length c,.bool true])∧w'.ownsRow w.heap.size 65 3 (.slice q cs.length c) cs.length (IW cs)∧Bw w w'
theorem WS{w w':World}{l:List T}{e:Ending}(h:ungroup l=none)(he:e=.returned (.tuple #[.slice none 0 0,.bool false]))(hb:Bw w w'):QO w l e w':=by
 unfold QO;rw[h];exact⟨he,hb⟩
theorem ahY{w w':World}{l:List T}{e:Ending}{cs:List Af}{q:Option Addr}{c:Nat}(h:ungroup l=some cs)(he:e=.returned (.tuple #[.slice q cs.length c,.bool true]))(ho:w'.ownsRow w.heap.size 65 3 (.slice q cs.length c) cs.length (IW cs))(hb:Bw w w'):QO w l e w':=by
 unfold QO;rw[h];exact⟨q,c,he,ho,hb⟩
theorem jf{w:World}{a:Option Addr}{cap:Nat}{l:List T}(hL:BB w a l)(hlen:l.length≤1000000)(hok:∀ s∈l,s.length≤1000000000):
  Calls prog 56 #[.slice a l.length cap] w fun e w'=>QO w l e w':=by
 have HL:=Hi hL;have Es:=Hi hok;clear hL hok;by_cases axd:l.length % 2=1
 ·have HN:=Hi (ahV _ l (Ab _) axd);have h1:(l.length:Int) % 2=1:=by omega
  clear axd;go_enter func56,ntmps56;go_wp2_with fail;go_ret2;exact WS HN rfl (Ad _ _)
 ·obtain⟨n,hn⟩:∃ n,l.length=2*n:=⟨l.length / 2,by omega⟩;have h1:(l.length:Int) % 2=0:=by omega
  clear axd;obtain⟨i0,hi0,hz0,hz1,hz2⟩:=Cz je;have xy:=Hi hn;clear hn;go_enter func56,ntmps56;go_wp2_with fail;clear h1
  go_loopw [2,4] (fun s i wr=>∃ (k:Nat) (cs:List Af) (q:Option Addr) (c:Nat),k≤n∧cs.length=k∧i=.int .i64 (2*(k:Int))∧s=.slice q cs.length c∧wr.ownsRow w.heap.size 65 3 (.slice q cs.length c) cs.length (IW cs)∧Bw w wr∧ungroup l=(ungroup (l.drop (2*k))).map (cs++ ·)) (fun _ i _=>l.length -(intOf i).toNat)
  case atStart=>exact⟨0,[],none,0,Ar _,rfl,rfl,rfl,by rw[jc];exact DJ _ _ _ _,Ad _ _,by rw[List.drop_zero];cases ungroup l<;>rfl⟩
  case round=>
   obtain⟨k,cs,q,c,hk,hcl,rfl,rfl,ast,hb,EI⟩:=hrel;by_cases hlt:k < n
   ·have hnn:=xy.out;have hk1:2*k < l.length:=(by omega);have hk2:2*k+1 < l.length:=(by omega);obtain⟨p,hp,hs1⟩:=HL (2*k) hk1;obtain⟨p',hp',hs2⟩:=HL (2*k+1) hk2;obtain rfl:p=p':=(by rw[hp] at hp';exact EH hp');have hd:l.drop (2*k)=l[2*k] :: l[2*k+1] :: l.drop (2*(k+1)):=by
     rw[Na hk1,Na hk2];rfl
    rw[hd] at EI;clear hd;have ahZ:∀ W,(Instr.indexAt 27 (.slice (some p) l.length cap) (.int .i64 (2*(k:Int)))).run prog W=.ok (.pointer (some (p.add (2*k)))) W:=fun W=>by
     have:=Fw prog 27 9 underlying27 1 (by kernel_rfl) p l.length cap (2*k) hk1 W;rw[Nat.mul_one,show((2*k:Nat):Int)=2*(k:Int) by omega] at this;exact this
    have ZK:∀ W,(Instr.indexAt 27 (.slice (some p) l.length cap) (.int .i64 (2*(k:Int)+1))).run prog W=.ok (.pointer (some (p.add (2*k+1)))) W:=fun W=>by
     have:=Fw prog 27 9 underlying27 1 (by kernel_rfl) p l.length cap (2*k+1) hk2 W;rw[Nat.mul_one,show((2*k+1:Nat):Int)=2*(k:Int)+1 by omega] at this;exact this
    have ho1:=Es _ (BF hk1);have ho2:=Es _ (BF hk2);subst hp;have ZL:=(hb.cell (Bz hs1)).trans hs1;have ZM:=(hb.cell (Bz hs2)).trans hs2;have xz:∀ o,(wr.alloc o).cell? (p.add (2*k))=some (.string (bs l[2*k])):=fun o=>(((Ad _ wr).alloc (Ab _) o).cell (Bz ZL)).trans ZL
    have xA:∀ o,(wr.alloc o).cell? (p.add (2*k+1))=some (.string (bs l[2*k+1])):=fun o=>(((Ad _ wr).alloc (Ab _) o).cell (Bz ZM)).trans ZM
    have HR:=Hi ast;have HB:=Hi hb;have D6:=Hi hcl;have ZN:=hb.size;clear HL;generalize p.add (2*k)=q1 at*;generalize p.add (2*k+1)=q2 at*;generalize l[2*k]=s1 at*;generalize l[2*k+1]=s2 at*;obtain⟨R,hR⟩:=ex (l.drop (2*(k+1)));rw[hR] at EI;have Mr:=Hi hR;clear hR;clear ast hb hs1 hs2 hp' hcl;cases s1 with
    |nil=>
     have HN:=Hi (ahW EI);clear EI hnn;go_wp2_with fail;go_ret2;exact WS HN rfl HB.out
    |cons b nm=>
     by_cases hb1:b.toNat≤1
     ·rcases(show b=0∨b=1 by
       have h1:=UInt8.toNat_lt b;rcases(show b.toNat=0∨b.toNat=1 by omega) with h|h
       ·exact .inl (UInt8.toNat_inj.1 h)
       ·exact .inr (UInt8.toNat_inj.1 h)) with rfl|rfl
      all_goals clear hb1 hnn
      ·have hcf:∀ W,(Instr.slice 9 (.string (bs (0 :: nm))) (some (.int .i64 1)) none none).run prog W=.ok (.string (bs nm)) W:=fun W=>Ik prog W 9 underlying9 (0 :: nm) 1 (by simp)
       have hnl:nm.length≤1000000000:=(by simp at ho1;omega);have Sm:=Hi hnl;have Sn:=Hi EI;have e0:(0:Nat) < (0 :: nm).length:=(by simp);clear EI ho1;go_wp2_with fail;go_region;all_goals
        have BM:=Hi (show Bw wr (wr.alloc (.cells #[.string (bs nm),.string (bs s2),.bool false] 65)).drew from((Ad _ _).alloc (Ab _) _).drew);have d0:((wr.alloc (.cells #[.string (bs nm),.string (bs s2),.bool false] 65)).drew).cell? ⟨wr.heap.size,0,none⟩=some (.string (bs nm)):=(by simp);have d1:((wr.alloc (.cells #[.string (bs nm),.string (bs s2),.bool false] 65)).drew).cell? ⟨wr.heap.size,1,none⟩=some (.string (bs s2)):=(by simp);have d2:((wr.alloc (.cells #[.string (bs nm),.string (bs s2),.bool false] 65)).drew).cell? ⟨wr.heap.size,2,none⟩=some (.bool false):=(by simp);have DV:=Hi (show((wr.alloc (.cells #[.string (bs nm),.string (bs s2),.bool false] 65)).drew).heap.size=wr.heap.size+1 by simp);clear ZL xz ZM xA;generalize (wr.alloc (.cells #[.string (bs nm),.string (bs s2),.bool false] 65)).drew=W1 at*;go_wp2_with fail;refine(Zz nm s2 false _ (by have:=Sm.out;unfold maxLen;omega) (by unfold maxLen;omega)).mono ?_;rintro e w2⟨rfl,hb2⟩;have awQ:wr.heap.size < W1.heap.size:=(by have:=DV.out;omega);have f0:=(hb2.cell (p:=⟨wr.heap.size,0,none⟩) awQ).trans d0;have f1:=(hb2.cell (p:=⟨wr.heap.size,1,none⟩) awQ).trans d1;have f2:=(hb2.cell (p:=⟨wr.heap.size,2,none⟩) awQ).trans d2;have HB2:=Hi (BM.trans (hb2.mono BM.size));clear d0 d1 d2 hb2 awQ;obtain⟨mv,hmv⟩:=ex (Af.may ⟨nm,s2,false⟩);have Ms:=Hi hmv;rw[hmv];clear hmv;cases mv with
        |false=>
         have HN:=Hi (jb Sn (fun h=>by have h2:=h.2;rw[show((0:UInt8) == 1)=false from rfl,Ms.out] at h2;cases h2));go_wp2_with fail;go_ret2;exact WS HN rfl (HB.trans (HB2.mono HB.size))
        |true=>
         have HY:=Hi (xx Sn (by decide) (by rw[show((0:UInt8) == 1)=false from rfl];exact Ms.out));have awl:=HB2.size;have hwz:w.heap.size≤w2.heap.size:=Ah ZN awl;have xB:cs.length≤1000000:=(by have:=D6.out;omega);have HR2:=Hi (AL HR (ub HB2) (fun _ _ f=>f));go_wp2_with (at_builtin;refine wpList_append_own_at _ rfl _ _ 24 rfl w.heap.size 65 i0 _ 3 40 underlying24 hi0 hz0 hz1 hz2 rfl (by decide) _ cs.length _ rfl (HR2.alloc _) ⟨w2.heap.size,0,none⟩ 1 1 [.string (bs nm),.string (bs s2),.bool false] rfl rfl (by intro j u hj;rw[add_plain,CV];exact(CB▸hj)) (by simp[Value.oneCell']) (by unfold maxLen;omega) (by omega) (by simp;omega) ?_;intro v' w1 asJ asx _ hat;obtain⟨g',cap',rfl⟩:=ownsRow_succ asJ;have HO:=Hi asJ;have HG:=Hi asx;clear asJ asx hat);go_roundw
         case rel=>
           refine⟨k+1,cs++[⟨nm,s2,false⟩],_,_,by omega,by rw[Aj,D6.out];rfl,by go_num,by rw[Aj];rfl,?_,?_,by rw[Mr.out];exact HY.out⟩
           ·rw[Aj,jd];exact HO.out
           ·exact((HB.trans (HB2.mono HB.size)).alloc hwz _).grown HG (by simp;omega) (fun j hj=>by
             have hj':(Value.slice q cs.length c).ownBlock=some j:=hj;rcases HR.2 with⟨e1,_⟩|⟨g,c2,cur,e1,auJ,_⟩
             ·rw[e1] at hj';simp[Value.ownBlock] at hj'
             ·rw[e1] at hj';simp[Value.ownBlock] at hj';omega)
         case measure=>simp[intOf];omega
      ·have hcf:∀ W,(Instr.slice 9 (.string (bs (1 :: nm))) (some (.int .i64 1)) none none).run prog W=.ok (.string (bs nm)) W:=fun W=>Ik prog W 9 underlying9 (1 :: nm) 1 (by simp)
       have hnl:nm.length≤1000000000:=(by simp at ho1;omega);have Sm:=Hi hnl;have Sn:=Hi EI;have e0:(0:Nat) < (1 :: nm).length:=(by simp);clear EI ho1;go_wp2_with fail;go_region;all_goals
        have BM:=Hi (show Bw wr (wr.alloc (.cells #[.string (bs nm),.string (bs s2),.bool true] 65)).drew from((Ad _ _).alloc (Ab _) _).drew);have d0:((wr.alloc (.cells #[.string (bs nm),.string (bs s2),.bool true] 65)).drew).cell? ⟨wr.heap.size,0,none⟩=some (.string (bs nm)):=(by simp);have d1:((wr.alloc (.cells #[.string (bs nm),.string (bs s2),.bool true] 65)).drew).cell? ⟨wr.heap.size,1,none⟩=some (.string (bs s2)):=(by simp);have d2:((wr.alloc (.cells #[.string (bs nm),.string (bs s2),.bool true] 65)).drew).cell? ⟨wr.heap.size,2,none⟩=some (.bool true):=(by simp);have DV:=Hi (show((wr.alloc (.cells #[.string (bs nm),.string (bs s2),.bool true] 65)).drew).heap.size=wr.heap.size+1 by simp);clear ZL xz ZM xA;generalize (wr.alloc (.cells #[.string (bs nm),.string (bs s2),.bool true] 65)).drew=W1 at*;go_wp2_with fail;refine(Zz nm s2 true _ (by have:=Sm.out;unfold maxLen;omega) (by unfold maxLen;omega)).mono ?_;rintro e w2⟨rfl,hb2⟩;have awQ:wr.heap.size < W1.heap.size:=(by have:=DV.out;omega);have f0:=(hb2.cell (p:=⟨wr.heap.size,0,none⟩) awQ).trans d0;have f1:=(hb2.cell (p:=⟨wr.heap.size,1,none⟩) awQ).trans d1;have f2:=(hb2.cell (p:=⟨wr.heap.size,2,none⟩) awQ).trans d2;have HB2:=Hi (BM.trans (hb2.mono BM.size));clear d0 d1 d2 hb2 awQ;obtain⟨mv,hmv⟩:=ex (Af.may ⟨nm,s2,true⟩);have Ms:=Hi hmv;rw[hmv];clear hmv;cases mv with
        |false=>
         have HN:=Hi (jb Sn (fun h=>by have h2:=h.2;rw[show((1:UInt8) == 1)=true from rfl,Ms.out] at h2;cases h2));go_wp2_with fail;go_ret2;exact WS HN rfl (HB.trans (HB2.mono HB.size))
        |true=>
         have HY:=Hi (xx Sn (by decide) (by rw[show((1:UInt8) == 1)=true from rfl];exact Ms.out));have awl:=HB2.size;have hwz:w.heap.size≤w2.heap.size:=Ah ZN awl;have xB:cs.length≤1000000:=(by have:=D6.out;omega);have HR2:=Hi (AL HR (ub HB2) (fun _ _ f=>f));go_wp2_with (at_builtin;refine wpList_append_own_at _ rfl _ _ 24 rfl w.heap.size 65 i0 _ 3 40 underlying24 hi0 hz0 hz1 hz2 rfl (by decide) _ cs.length _ rfl (HR2.alloc _) ⟨w2.heap.size,0,none⟩ 1 1 [.string (bs nm),.string (bs s2),.bool true] rfl rfl (by intro j u hj;rw[add_plain,CV];exact(CB▸hj)) (by simp[Value.oneCell']) (by unfold maxLen;omega) (by omega) (by simp;omega) ?_;intro v' w1 asJ asx _ hat;obtain⟨g',cap',rfl⟩:=ownsRow_succ asJ;have HO:=Hi asJ;have HG:=Hi asx;clear asJ asx hat);go_roundw
         case rel=>
           refine⟨k+1,cs++[⟨nm,s2,true⟩],_,_,by omega,by rw[Aj,D6.out];rfl,by go_num,by rw[Aj];rfl,?_,?_,by rw[Mr.out];exact HY.out⟩
           ·rw[Aj,jd];exact HO.out
           ·exact((HB.trans (HB2.mono HB.size)).alloc hwz _).grown HG (by simp;omega) (fun j hj=>by
             have hj':(Value.slice q cs.length c).ownBlock=some j:=hj;rcases HR.2 with⟨e1,_⟩|⟨g,c2,cur,e1,auJ,_⟩
             ·rw[e1] at hj';simp[Value.ownBlock] at hj'
             ·rw[e1] at hj';simp[Value.ownBlock] at hj';omega)
         case measure=>simp[intOf];omega
     ·have HN:=Hi (jb EI (fun h=>hb1 h.1));have hbi:(1:Int) < (b.toNat:Int):=(by omega);clear EI hnn hb1;go_wp2_with fail;go_ret2;exact WS HN rfl HB.out
   ·obtain rfl:k=n:=(by omega);have hnn:=xy.out;rw[List.drop_of_length_le (by omega)] at EI;have Sn:=Hi (show ungroup l=some cs by rw[EI];simp[ungroup]);have HR:=Hi ast;have HB:=Hi hb;clear ast hb EI;go_wp2_with fail;go_ret2;exact ahY Sn rfl HR HB.out
end
end Go.Proofs.YtmbbhdebddbhoaaGreat
