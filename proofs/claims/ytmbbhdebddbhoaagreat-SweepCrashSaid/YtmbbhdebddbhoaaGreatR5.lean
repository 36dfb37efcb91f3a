/- Oct -/
import Derived.Lib.EndianBits
import Derived.Outline
import Derived.Lib.AppendStr
import Derived.Test.YtmbbhdebddbhoaaGreatR4
set_option maxHeartbeats 4000000
set_option maxRecDepth 100000
set_option linter.all false
namespace Go.Proofs.YtmbbhdebddbhoaaGreat
open Tryz
section
open Go.RowKit
open Wal
theorem F6(w:World)(n:Nat):Bw w (w.drewN n):=⟨rfl,rfl,rfl,Ac _,fun _ _=>rfl⟩
theorem dW(P:Program)(W:World)(t:TypeId)(hu:P.underlying t=some .string)(s:List UInt8)(lo hi:Nat)(h1:lo≤hi)(h2:hi≤s.length):
  (Instr.slice t (.string (bs s)) (some (.int .i64 (lo:Int))) (some (.int .i64 (hi:Int))) none).run P W=.ok (.string (bs ((s.take hi).drop lo))) W:=by
 have g2:(hi:Int)≤(s.length:Int):=by omega
 simp[Instr.slice,Gp hu,Instr.sliceBounds,run_sliceBound,go_sem,h1,g2]
theorem ax1(V b k:Nat)(hV:V < 256 ^ k)(hb:b < 256)(hk:k < 8):bits BinOp.or IntKind.u64 (V:Int) (IntKind.u64.wrap (IntKind.u64.wrap (b:Int)*2 ^ (8*k)))=((V+256 ^ k*b:Nat):Int):=by
 have hp:(2:Int) ^ (8*k)=((256 ^ k:Nat):Int):=by rw[Int.pow_mul];norm_cast
 have hle:256 ^ k*256≤256 ^ 8:=by rw[←Nat.pow_succ];exact Nat.pow_le_pow_right (by decide) (by omega)
 have hmul:256 ^ k*b < 256 ^ 8:=DK (Nat.mul_lt_mul_of_pos_left hb (Nat.pow_pos (by decide))) hle;have ER:0 < 256 ^ k:=Nat.pow_pos (by decide);have h8:(256:Nat) ^ 8=18446744073709551616:=by decide
 have hV8:V < 18446744073709551616:=by
  have:256 ^ k≤256 ^ 8:=Nat.pow_le_pow_right (by decide) (by omega);rw[←h8];exact DK hV this
 have he:(b:Int)*2 ^ (8*k)=((256 ^ k*b:Nat):Int):=by rw[hp,Int.natCast_mul,Int.mul_comm]
 have hdv:((256 ^ k*b:Nat):Int) % 2 ^ (8*k)=0:=by rw[hp,←Int.natCast_emod,Nat.mul_mod_right];rfl
 have Va:(2:Int) ^ 64=18446744073709551616:=by decide
 have Vr:256 ^ k*b < 18446744073709551616:=by rw[←h8];exact hmul
 generalize 256 ^ k*b=m at*;have e1:IntKind.u64.wrap (b:Int)=(b:Int):=u64_wrap_id _ (by omega) (by omega);have e2:IntKind.u64.wrap (m:Int)=(m:Int):=u64_wrap_id _ (by omega) (by omega);rw[e1,he,e2];rw[bits_join_low .u64 64 (by decide) wraps_u64 (8*k) (V:Int) (m:Int) (by omega) (by rw[hp];omega) (by rw[Va];omega) (by omega) hdv (by rw[Va];omega)];exact(Int.natCast_add V m).symm
theorem adr(s:List UInt8)(k:Nat)(h:k < s.length):Crc.val (s.take (k+1))=Crc.val (s.take k)+256 ^ k*s[k].toNat:=by
 rw[Cw h,Crc.val_append,AL,H8 (by omega)];simp[Crc.val]
theorem WO(s:List UInt8)(w:World)(h1:1≤s.length)(h8:s.length≤8):
  Calls prog 122 #[.string (bs s)] w fun e w'=>e=.returned (.tuple #[.int .u64 (Crc.val s:Nat),.int .i64 0])∧w=w':=by
 have d1:decide ((s.length:Int) < 1)=false:=by simp;omega
 have d2:decide (8 < (s.length:Int))=false:=by simp;omega
 go_enter func122,ntmps122;go_wp2_with fail
 go_loop [2,15] (fun v i=>∃ k:Nat,k≤s.length∧i=.int .i64 k∧v=.int .u64 (Crc.val (s.take k):Nat)) (fun _ i=>s.length -(intOf i).toNat)
 case atStart=>exact⟨0,by omega,rfl,by simp[Crc.val]⟩
 case round=>
  obtain⟨k,hk,rfl,rfl⟩:=hrel;by_cases hlt:k < s.length
  ·have hv:=Crc.Ji (s.take k);rw[AL,H8 hk] at hv;have Za:=ax1 (Crc.val (s.take k)) s[k].toNat k hv (by have:=s[k].toNat_lt;omega) (by omega);rw[←adr s k hlt] at Za;have HOR:=Hi Za;clear Za hv;go_wp2_with fail
   go_round
   case rel=>exact⟨k+1,by omega,by go_num,by rw[HOR.out]⟩
   case measure=>simp[intOf];omega
  ·go_wp2_with fail;go_ret2;have Db:k=s.length:=(by omega);exact⟨by rw[Db,CY];rfl,rfl⟩
theorem aci(s:List UInt8)(w:World)(h:s.length≤65535):
  Calls prog 160 #[.string (bs s)] w fun e w'=>e=.returned (.tuple #[.string (bs (Crc.le 2 s.length++s)),.int .i64 0])∧Bw w w':=by
 go_enter func160,ntmps160;go_wp2_with fail;refine(gY s.length 2 _ (by decide)).mono ?_;rintro e w1⟨rfl,hb⟩;go_wp2_with fail;go_ret2;exact⟨rfl,hb⟩
theorem ach(s:List UInt8)(w:World)(h:65535 < s.length):
  Calls prog 160 #[.string (bs s)] w fun e w'=>e=.returned (.tuple #[.string (bs []),.int .i64 5])∧w=w':=by
 go_enter func160,ntmps160;go_wp2_with fail;go_ret2;exact⟨rfl,rfl⟩
theorem val_two(s:List UInt8)(h:2≤s.length):Crc.val (s.take 2)=s[0].toNat+256*s[1].toNat:=by
 rw[adr s 1 (by omega),adr s 0 (by omega)];simp[Crc.val]
def EU(s:List UInt8):List UInt8×Nat×Int:=match Ie s with|none=>([],0,6)|some p=>(p.1,p.2,0)
theorem dK(s:List UInt8)(w:World)(hl:s.length≤1099511627776):
  Calls prog 213 #[.string (bs s)] w fun e w'=>e=.returned (.tuple #[.string (bs (EU s).1),.int .i64 ((EU s).2.1:Nat),.int .i64 (EU s).2.2])∧Bw w w':=by
 by_cases h2:s.length < 2
 ·have hR:Hid (EU s=([],0,6)):=Hi (by unfold EU Ie;rw[Ab h2]);rw[hR.out];go_enter func213,ntmps213;go_wp2_with fail;go_ret3;exact⟨rfl,Af _ _⟩
 ·have hv:=val_two s (by omega);have b0:=s[0].toNat_lt;have b1:=s[1].toNat_lt;have hz:(0:Nat) < s.length:=by omega
  have AU:(1:Nat) < s.length:=by omega
  have AV:(1:Int) < (s.length:Int):=by omega
  have hz3:(2:Int)≤(s.length:Int):=by omega
  by_cases h3:2+Crc.val (s.take 2)≤s.length
  ·have hR:Hid (EU s=((s.take (2+Crc.val (s.take 2))).drop 2,2+Crc.val (s.take 2),0)):=Hi (by unfold EU Ie;rw[Aa h2,Ab h3]);rw[hR.out];rw[hv] at h3 ⊢;clear hv hR;go_enter func213,ntmps213;go_wp2_with fail
   go_quiet (fail)
   have e:(2:Int)+(s[0].toNat:Int)+(s[1].toNat:Int)*(256:Int)=((2+(s[0].toNat+256*s[1].toNat):Nat):Int):=(by omega);simp only[e];clear e;have EP:2≤2+(s[0].toNat+256*s[1].toNat):=(by omega);generalize hn:2+(s[0].toNat+256*s[1].toNat)=n at*;have HN:=Hi hn;clear hn;have hcut:∀ W,(Instr.slice 9 (.string (bs s)) (some (.int .i64 2)) (some (.int .i64 (n:Int))) none).run prog W=.ok (.string (bs ((s.take n).drop 2))) W:=fun W=>dW prog W 9 underlying9 s 2 n EP h3
   go_wp2_with fail;go_ret3;obtain rfl:=HN.out;exact⟨rfl,F6 _ _⟩
  ·have hR:Hid (EU s=([],0,6)):=Hi (by unfold EU Ie;rw[Aa h2,Aa h3]);rw[hR.out];rw[hv] at h3;clear hv hR;go_enter func213,ntmps213;go_wp2_with fail
   go_quiet (fail)
   go_wp2_with fail;go_ret3;exact⟨rfl,F6 _ _⟩
end
section
open Go.RowKit Go.Maps
open Wal
theorem az7(k:List UInt8):Lib.strCells (bs k)=BV k:=by unfold Lib.strCells BV CX;rfl
theorem ayq{P:Program}(w:World)(t u ty e:TypeId)(i:TypeInfo)(ht:P.underlying t=some (.slice e))(hu:P.underlying u=some .string)(hi:P.info? e=some i)(hz:i.zero=some (.int .u8 0))
  (Jc:i.size=1)(OP:i.bytes=1)(v:Value)(n:Nat)(xs:List Value)(hown:w.ownsRow 0 e 1 v n xs)(k:List UInt8)(hl:n+k.length≤140737488355328):
  ∃ v' w',(Builtin.append_ #[t,u] ty #[v,.string (bs k)]).run P w=.ok v' w'∧w'.ownsRow 0 e 1 v' (n+k.length) (xs++BV k)∧w.grownBy w' v.ownBlock∧
   (v'=.slice none 0 0↔v=.slice none 0 0∧k.length=0)∧(v'.ownBlock=v.ownBlock∨v'.ownBlock=some w.heap.size):=by
 have hsz:(bs k).size=k.length:=rfl;obtain⟨v',w',hr,h2,h3,h4⟩:=Lib.run_append_own_string (P:=P) w 0 t u ty e i ht hu hi hz Jc OP v n xs hown (bs k) (by unfold maxLen;rw[hsz];omega) (by rw[hsz];omega) (AB _);rw[az7] at h2;refine⟨v',w',hr,h2,h3,h4,?_⟩;rcases hown.2 with⟨rfl,rfl⟩|⟨g,cap,cur,rfl,_,hg,hnc,QX,Dv,av6⟩
 ·by_cases hk:k.length=0
  ·rw[h4.2 ⟨rfl,hk⟩];exact .inl rfl
  ·have Xm:=run_append_nil_string (P:=P) w t u ty e i (.int .u8 0) ht hu hi hz (bs k) (by rw[hsz];omega) (by rw[hsz];omega) (by rw[OP,hsz];omega);rw[hr] at Xm;injection Xm with e1 _
   rw[e1];exact .inr rfl
 ·by_cases Im:n+(bs k).size≤cap
  ·have Xm:=Lib.run_append_room_string (P:=P) w t u ty e i ht hu hi Jc g n cap cur hg (bs k) Im (by omega);rw[hr] at Xm;injection Xm with e1 _
   rw[e1];exact .inl rfl
  ·have Xm:=Lib.run_append_grow_string (P:=P) w t u ty e i (.int .u8 0) ht hu hi hz ⟨g,0,none⟩ n cap xs (by rw[Jc];exact hown.1) (hown.cells (g:=g) rfl) (bs k) (by omega) (by rw[hsz];omega) (by rw[OP];exact growslice_fits (by omega) (by rw[hsz];omega));rw[hr] at Xm;injection Xm with e1 _
   rw[e1];exact .inr rfl
theorem aAv{P:Program}{w:World}{ops:Array Oper}{rest:List Oper}{o:Oper}{a:Act}{Q:Exit→Act→World→Prop}(O4:o.guard=none)(sl x:Operand)(t u:TypeId)
  (ho:o.op=.call { callee:=.builtin .append,args:=#[sl,x],argTypes:=#[t,u] })
  (e:TypeId)(i:TypeInfo)(ht:P.underlying t=some (.slice e))(hu:P.underlying u=some .string)(hi:P.info? e=some i)(hz:i.zero=some (.int .u8 0))(Jc:i.size=1)(OP:i.bytes=1)
  (v:Value)(n:Nat)(xs:List Value)(hs:a.eval sl=v)(hown:w.ownsRow 0 e 1 v n xs)(k:List UInt8)(hx:a.eval x=.string (bs k))(hl:n+k.length≤140737488355328)
  (h:∀ v' w',w'.ownsRow 0 e 1 v' (n+k.length) (xs++BV k)→w.grownBy w' v.ownBlock→(v'=.slice none 0 0↔v=.slice none 0 0∧k.length=0)→(v'.ownBlock=v.ownBlock∨v'.ownBlock=some w.heap.size)→wpList P ops Q rest (a.put o.dst v') w'):wpList P ops Q (o :: rest) a w:=by
 refine wpList_plain O4 fun K hK=>?_
 obtain⟨v',w',hr,h2,h3,h4,h5⟩:=ayq (P:=P) w t u o.type e i ht hu hi hz Jc OP v n xs hown k hl;unfold Oper.wp execOp;simp only[ho,resolve,invoke,builtin,Sem.run_bind,Sem.run_pure,Result.andThen_ok,List.map_toArray,BL,List.map_nil,hs,hx,hr];exact hK _ _ (h v' w' h2 h3 h4 h5)
theorem WH{w:World}{b:Nat}{l:List UInt8}{fp:Nat→Prop}(h:DL w b l fp)(k:List UInt8)(hlen:l.length+k.length≤1099511627776):
  Calls prog 158 #[.pointer (some ⟨b,0,none⟩),.string (bs k)] w fun e w'=>e=.returned (.tuple #[.int .i64 (k.length:Int),.nilIface])∧∃ fp',DL w' b (l++k) fp'∧A7 fp w w'∧D6 fp fp' w:=by
 obtain⟨p,v,hb,hp,hown,hne,Xi,rfl⟩:=h;have mO:=Hi Xi;clear Xi;obtain⟨i0,hi,AQ,AU,AV⟩:=Du aU;go_enter func158,ntmps158;go_wp2_with fail;refine(yO b p v _ hb hp).mono ?_;rintro e w1⟨rfl,Ad,F8⟩;have jb:b < w.heap.size:=(CR.1 hb).1;have Kj:w1.ownsRow 0 5 1 v l.length (BV l):=Bh hown F8 (fun q hq e=>hne (by rw[hq,e]));have c1:w1.cell? ⟨b,1,none⟩=some v:=by rw[Lib.cell_of_heap Ad];rfl
 go_wp2_with (at_builtin;refine aAv rfl _ _ 232 9 rfl 5 i0 underlying232 underlying9 hi AQ AU AV _ _ _ rfl Kj k rfl ?c3 ?_)
 case c3=>omega
 intro v' w2 BB Az Vs hat;have MW:=Hi Vs;clear Vs;have A8:w2.heap[b]?=some (.cells #[.pointer (some ⟨b,0,none⟩),v] 234):=by
  rw[Az.block b (DK jb F8.size) (fun e=>hne e.symm)];exact Ad
 have d1:w2.cell? ⟨b,1,none⟩=some v:=by rw[Lib.cell_of_heap A8];rfl
 have f1:w2.frozen? ⟨b,1,none⟩=false:=Lib.frozen_of_heap A8 1;have Jd:v'.ownBlock≠some b:=by
  rcases hat with hat|hat
  ·rw[hat];exact hne
  ·rw[hat];intro e;have:=G7 e;have:=F8.size;omega
 have Ya:Hid (l++k=[]→v'=.slice none 0 0):=Hi (fun e=>by
  obtain⟨e1,e2⟩:=List.append_eq_nil_iff.1 e;exact MW.2 ⟨mO e1,by rw[e2]⟩)
 obtain⟨ao,n',cap,rfl⟩:∃ ao n' cap,v'=.slice ao n' cap:=by
  rcases BB.2 with⟨hv,_⟩|⟨g,cap,cur,hv,_⟩
  ·exact⟨_,_,_,hv⟩
  ·exact⟨_,_,_,hv⟩
 clear c1;go_wp2_with fail;go_ret2;have Ep:A7 (fun k=>k=b∨v.ownBlock=some k) w w2:=(F8.mono (fun i e=>Or.inl e)).trans (A7.of_grownBy (F:=fun k=>k=b∨v.ownBlock=some k) Az (fun q e=>.inr e)) (fun i e=>.inl e);have CP:=Ep.setCell (p:=⟨b,1,none⟩) (.inl (.inl rfl)) (.slice ao n' cap);refine⟨rfl,fun q=>q=b∨(Value.slice ao n' cap).ownBlock=some q,⟨some ⟨b,0,none⟩,.slice ao n' cap,BU w2 b 1 _ _ _ A8,.inr rfl,?_,Jd,Ya.out,rfl⟩,CP,?_⟩
 ·rw[Au,ZP];exact Bh BB ((A7.refl (fun q=>q=b) w2).setCell (p:=⟨b,1,none⟩) (.inl rfl) _) (fun q hq e=>Jd (by rw[hq,e]))
 ·rintro q (rfl|hq)
  ·exact .inl (.inl rfl)
  ·rcases hat with hat|hat
   ·exact .inl (.inr (by rw[←hat];exact hq))
   ·rw[hat] at hq;have:=G7 hq;exact .inr (by have:=F8.size;omega)
def Cg(w:World)(a:Option Addr)(l:List (List UInt8)):Prop:=∀ i,(h:i < l.length)→∃ p:Addr,a=some p∧w.cell? (p.add i)=some (.string (bs l[i]))
theorem Cg.below{w w':World}{a:Option Addr}{l:List (List UInt8)}(h:Cg w a l)(hb:Bw w w'):Cg w' a l:=fun i hi=>by
 obtain⟨p,hp,h1⟩:=h i hi;exact⟨p,hp,(hb.cell (BS h1)).trans h1⟩
theorem Cg.index{w:World}{a:Option Addr}{l:List (List UInt8)}(h:Cg w a l)(cap k:Nat)(hk:k < l.length):
  ∃ q:Addr,(∀ W,(Instr.indexAt 27 (.slice a l.length cap) (.int .i64 (k:Int))).run prog W=.ok (.pointer (some q)) W)∧w.cell? q=some (.string (bs l[k])):=by
 obtain⟨p,rfl,h1⟩:=h k hk;refine⟨p.add k,fun W=>?_,h1⟩;have:=Hr prog 27 9 underlying27 1 (by kernel_rfl) p l.length cap k hk W;rw[Nat.mul_one] at this;exact this
def rowLen(l:List (List UInt8)):Nat:=2+(l.map fun s=>2+s.length).sum
theorem ayc(l:List (List UInt8))(k:Nat)(h:k < l.length):rowLen (l.take (k+1))=rowLen (l.take k)+(2+l[k].length):=by
 unfold rowLen;rw[Cw h,CF,JH];simp;omega
theorem acL(l:List (List UInt8))(k:Nat):rowLen (l.take k)≤rowLen l:=by
 unfold rowLen
 conv=>rhs;rw[←M4 k l,CF,JH]
 omega
theorem VP{l:List (List UInt8)}{s:List UInt8}(h:textsE l=some s):2+s.length=rowLen l:=by
 induction l generalizing s with
 |nil=>simp[textsE] at h;subst h;rfl
 |cons x l ih=>
  simp only[textsE] at h;cases h1:DJ x with
  |none=>rw[h1] at h;cases h
  |some a=>
   cases h2:textsE l with
   |none=>rw[h1,h2] at h;cases h
   |some b=>
    rw[h1,h2] at h;simp at h;subst h;have h3:=ih h2;unfold DJ at h1;split at h1
    ·simp at h1;subst h1;simp[rowLen,Crc.BK] at h3 ⊢;omega
    ·cases h1
def Cq(l:List (List UInt8)):List UInt8×Int:=match FZ l with|none=>([],5)|some s=>(s,0)
theorem adb{l:List (List UInt8)}{k:Nat}(h:k < l.length){s:List UInt8}(hs:textsE (l.take k)=some s):textsE (l.take (k+1))=(DJ l[k]).map (s++ ·):=by
 rw[Cw h,anh,hs];simp only[Cj,textsE];cases DJ l[k] with
 |none=>rfl
 |some x=>simp
theorem uC{l:List (List UInt8)}{k:Nat}(h:k < l.length)(hk:65535 < l[k].length):textsE l=none:=by
 induction l generalizing k with
 |nil=>simp at h
 |cons x l ih=>
  simp only[textsE];cases k with
  |zero=>
   have:DJ x=none:=(by unfold DJ;rw[Aa (by simp at hk;omega)]);rw[this];rfl
  |succ k=>
   rw[ih (k:=k) (by simpa using h) (by simpa using hk)];cases DJ x<;>rfl
theorem ali(l:List (List UInt8))(a:Option Addr)(cap:Nat)(w:World)(hl:Cg w a l)(hlen:l.length≤maxLen)(CB:rowLen l≤1000000000):
  Calls prog 79 #[.slice a l.length cap] w fun e w'=>e=.returned (.tuple #[.string (bs (Cq l).1),.int .i64 (Cq l).2])∧Bw w w':=by
 unfold maxLen at hlen;by_cases aal:65535 < l.length
 ·have hR:Hid (Cq l=([],5)):=Hi (by unfold Cq FZ;rw[Aa (by omega)]);rw[hR.out];clear hl;go_enter func79,ntmps79;go_wp2_with fail;go_ret2;exact⟨rfl,Af _ _⟩
 ·have HL:=Hi hl;have Bq:Bw w (w.alloc (.cells #[.pointer none,.slice none 0 0] 234)):=(Af _ w).alloc (Ac _) _;have Bc:=Hi Bq;have D8:=Hi (DL.made w);have UN:=Hi CB;clear hl Bq CB;go_enter func79,ntmps79;go_wp2_with fail;refine(gY l.length 2 _ (by decide)).mono ?_;rintro e w1⟨rfl,hb⟩;have EO:=D8.upd (ub hb) (fun _ _ f=>f);have Ps:=Hi EO;have HB1:=Hi (Bc.trans (hb.mono (by rw[Aq];omega)));clear hb EO;go_wp2_with fail;refine(WH Ps (Crc.le 2 l.length) (by simp[Crc.BK])).mono ?_;rintro e w2⟨rfl,fp2,h1,h2,h3⟩;rw[Eu] at h1;have FU:∀ q,fp2 q→w.heap.size≤q:=fun q hq=>by
   rcases h3 q hq with h|h
   ·rcases h with h|h
    ·omega
    ·simp[Value.ownBlock] at h
   ·have:=HB1.size;omega
  have Ag:=Hi (Ca HB1 h2 (fun i hi=>by rcases hi with h|h;omega;simp[Value.ownBlock] at h) HB1.size);have Oo:=Hi h1;have EK:=Hi FU;clear h1 h2 h3 FU;go_wp2_with fail
  go_loopw [19] (fun i wr=>∃ (k:Nat) (S:List UInt8) (fp:Nat→Prop),k≤l.length∧i=.int .i64 k∧textsE (l.take k)=some S∧DL wr w.heap.size (Crc.le 2 l.length++S) fp∧(∀ q,fp q→w.heap.size≤q)∧Bw w wr) (fun i _=>l.length -(intOf i).toNat)
  case atStart=>exact⟨0,[],fp2,by omega,rfl,rfl,by rw[EH];exact Oo.out,EK,Ag⟩
  case round=>
   clear D8 Ps Oo Bc HB1 Ag EK;obtain⟨k,S,fp,hk,rfl,hS,EO,FU,hb⟩:=hrel;have HS:=Hi hS;have D8:=Hi EO;have EK:=Hi FU;have HB:=Hi hb;clear hS EO FU hb;by_cases hlt:k < l.length
   ·obtain⟨q,Hg,hq⟩:=(HL.below HB).index cap k hlt;have Ik:rowLen (l.take (k+1))=rowLen (l.take k)+(2+l[k].length):=ayc l k hlt;have F7:=acL l (k+1);have FV:=VP HS.out;have FW:=UN.out;have JS:=Hi (adb hlt HS);by_cases NW:65535 < l[k].length
    ·have hR:Hid (Cq l=([],5)):=Hi (by unfold Cq FZ;rw[Ab (by omega),uC hlt NW];rfl);clear Ik F7 FV FW;generalize l[k]=x at*;go_wp2_with fail;refine(ach x _ NW).mono ?_;rintro e w3⟨rfl,rfl⟩;go_wp2_with fail;go_ret2;rw[hR.out];exact⟨rfl,HB⟩
    ·have FN:l[k].length≤65535:=(by omega);have hle:S.length+l[k].length≤1000000000:=(by omega);clear Ik F7 FV FW NW;generalize l[k]=x at*;go_wp2_with fail;refine(aci x _ FN).mono ?_;rintro e w3⟨rfl,Ak⟩;have Tk:=Hi (D8.upd (ub Ak) (fun _ _ f=>f));have Am:=Hi (HB.trans (Ak.mono HB.size));clear Ak hq;go_wp2_with fail;refine(WH Tk (Crc.le 2 x.length++x) (by simp[Crc.BK];omega)).mono ?_;rintro e w4⟨rfl,OI,h1,h2,h3⟩;have vB:=Hi h1
     have vR:=Hi (show ∀ q,OI q→w.heap.size≤q from fun q hq=>by
      rcases h3 q hq with h|h
      ·exact EK q h
      ·exact Ap Am.size h)
     have AZ:=Hi (Ca Am h2 EK Am.size);clear h1 h2 h3;go_wp2_with fail;go_roundw
     case rel=>exact⟨k+1,S++(Crc.le 2 x.length++x),OI,by omega,by go_num,by rw[JS.out];unfold DJ;rw[Ab FN];rfl,by rw[←Dp];exact vB.out,vR,AZ⟩
     case measure=>simp[intOf];omega
   ·obtain rfl:k=l.length:=(by omega);go_wp2_with fail;refine(WG D8).mono ?_;rintro e w3⟨rfl,hu⟩;have Am:=Hi (Ca HB hu EK HB.size)
    have hR:Hid (Cq l=(Crc.le 2 l.length++S,0)):=Hi (by
     have h:=HS.out;rw[CY] at h;unfold Cq FZ;rw[Ab (by omega),h];rfl)
    clear hu;go_wp2_with fail;go_ret2;rw[hR.out];exact⟨rfl,Am⟩
end
section
open Go.RowKit Go.Maps
open Wal
theorem LQ(P:Program)(W:World)(t:TypeId)(hu:P.underlying t=some .string)(s:List UInt8)(lo:Nat)(h1:lo≤s.length):
  (Instr.slice t (.string (bs s)) (some (.int .i64 (lo:Int))) none none).run P W=.ok (.string (bs (s.drop lo))) W:=by
 have g2:(lo:Int)≤(s.length:Int):=by omega
 simp[Instr.slice,Gp hu,Instr.sliceBounds,run_sliceBound,go_sem,g2]
structure aR(w:World)(p q:Nat)(s:List UInt8)(l:List (List UInt8))(fp:Nat→Prop):Prop where
 left:w.heap[p]?=some (.cells #[.string (bs s)] 9)
 ne:p≠q
 row:∃ v,w.heap[q]?=some (.cells #[v] 27)∧w.ownsRow 0 9 1 v l.length (strCells l)∧v.ownBlock≠some p∧v.ownBlock≠some q∧fp=fun k=>k=p∨k=q∨v.ownBlock=some k
theorem axL{w w1 w2:World}{p q gg cap2:Nat}{v:Value}{s0 t:List UInt8}{l:List (List UInt8)}{ob:Obj}(hne:p≠q)(hb:Bw w w1)
  (hp:w1.heap[p]?=some (.cells #[.string (bs s0)] 9))(hq:w1.heap[q]?=some (.cells #[v] 27))(Xr:v.ownBlock≠some p)(VC:v.ownBlock≠some q)
  (Az:((w1.alloc ob).drew).grownBy w2 v.ownBlock)(hown:w2.ownsRow 0 9 1 (.slice (some ⟨gg,0,none⟩) (l.length+1) cap2) (l.length+1) (strCells l++[.string (bs t)]))
  (hat:v.ownBlock=some gg∨gg=w1.heap.size+1)(s:List UInt8)(Fu:p < w.heap.size)(rz:q < w.heap.size):
  A7 (fun k=>k=p∨k=q∨v.ownBlock=some k) w ((w2.setCell ⟨q,0,none⟩ (.slice (some ⟨gg,0,none⟩) (l.length+1) cap2)).setCell ⟨p,0,none⟩ (.string (bs s)))∧
  D6 (fun k=>k=p∨k=q∨v.ownBlock=some k) (fun k=>k=p∨k=q∨(Value.slice (some ⟨gg,0,none⟩) (l.length+1) cap2).ownBlock=some k) w∧
  aR ((w2.setCell ⟨q,0,none⟩ (.slice (some ⟨gg,0,none⟩) (l.length+1) cap2)).setCell ⟨p,0,none⟩ (.string (bs s))) p q s (l++[t]) (fun k=>k=p∨k=q∨(Value.slice (some ⟨gg,0,none⟩) (l.length+1) cap2).ownBlock=some k):=by
 have MB:=hb.size;have r9:p < w1.heap.size:=by omega
 have rA:q < w1.heap.size:=by omega
 have ha:Bw w1 (w1.alloc ob).drew:=((Af _ _).alloc (Ac _) _).drew;have u1:A7 (fun k=>k=p∨k=q∨v.ownBlock=some k) w w1:=A7.of_below hb;have u2:A7 (fun k=>k=p∨k=q∨v.ownBlock=some k) w (w1.alloc ob).drew:=u1.trans (G:=fun _=>False) (A7.of_below ha) (fun _ f=>f.elim);have u3:A7 (fun k=>k=p∨k=q∨v.ownBlock=some k) w w2:=u2.trans (A7.of_grownBy (F:=fun k=>v.ownBlock=some k) Az (fun k e=>e)) (fun k e=>.inl (.inr (.inr e)));have hsz:(w1.alloc ob).drew.heap.size=w1.heap.size+1:=by rw[World.size_drew,Aq]
 have Jb:w2.heap[p]?=some (.cells #[.string (bs s0)] 9):=(Az.block p (by omega) (Ne.symm Xr)).trans ((ha.block p r9).trans hp);have CV:w2.heap[q]?=some (.cells #[v] 27):=(Az.block q (by omega) (Ne.symm VC)).trans ((ha.block q rA).trans hq);have hgp:gg≠p:=fun e=>by
  rcases hat with hat|hat
  ·exact Xr (by rw[hat,e])
  ·omega
 have hgq:gg≠q:=fun e=>by
  rcases hat with hat|hat
  ·exact VC (by rw[hat,e])
  ·omega
 have LF:=BU w2 q 0 _ _ (.slice (some ⟨gg,0,none⟩) (l.length+1) cap2) CV;have c1:A7 (fun k=>k=q) w2 (w2.setCell ⟨q,0,none⟩ (.slice (some ⟨gg,0,none⟩) (l.length+1) cap2)):=(A7.refl (fun k=>k=q) w2).setCell (p:=⟨q,0,none⟩) (.inl rfl) _;have c2:A7 (fun k=>k=p) (w2.setCell ⟨q,0,none⟩ (.slice (some ⟨gg,0,none⟩) (l.length+1) cap2)) ((w2.setCell ⟨q,0,none⟩ (.slice (some ⟨gg,0,none⟩) (l.length+1) cap2)).setCell ⟨p,0,none⟩ (.string (bs s))):=(A7.refl (fun k=>k=p) _).setCell (p:=⟨p,0,none⟩) (.inl rfl) _;have qW:=(c1.block p (by have:=Az.size;omega) hne).trans Jb;have hz:q < w2.heap.size:=by have:=Az.size;omega
 refine⟨(u3.setCell (p:=⟨q,0,none⟩) (.inl (.inr (.inl rfl))) _).setCell (p:=⟨p,0,none⟩) (.inl (.inl rfl)) _,?_,⟨BU _ p 0 _ _ _ qW,hne,.slice (some ⟨gg,0,none⟩) (l.length+1) cap2,(c2.block q (by have:=c1.size;omega) (Ne.symm hne)).trans LF,?_,fun e=>hgp (by simpa[Value.ownBlock] using e),fun e=>hgq (by simpa[Value.ownBlock] using e),rfl⟩⟩
 ·rintro k (rfl|rfl|hk)
  ·exact .inl (.inl rfl)
  ·exact .inl (.inr (.inl rfl))
  ·simp[Value.ownBlock] at hk;subst hk;rcases hat with hat|hat
   ·exact .inl (.inr (.inr hat))
   ·exact .inr (by omega)
 ·rw[Au,Rl];exact Bh (Bh hown c1 (fun g hg e=>hgq (by simp[Value.ownBlock] at hg;omega))) c2 (fun g hg e=>hgp (by simp[Value.ownBlock] at hg;omega))
def af6(w:World)(p q:Nat)(s:List UInt8)(l:List (List UInt8))(fp:Nat→Prop)(e:Ending)(w':World):Prop:=
 ∃ fp',A7 fp w w'∧D6 fp fp' w∧match Ie s with
  |none=>e=.returned (.int .i64 6)∧aR w' p q s l fp'
  |some (t,n)=>e=.returned (.int .i64 0)∧aR w' p q (s.drop n) (l++[t]) fp'
theorem axM{w:World}{p q:Nat}{s:List UInt8}{l:List (List UInt8)}{fp:Nat→Prop}(h:aR w p q s l fp)(hs:s.length≤1000000000)(hl:l.length≤1000000):
  Calls prog 212 #[.pointer (some ⟨p,0,none⟩),.pointer (some ⟨q,0,none⟩)] w fun e w'=>af6 w p q s l fp e w':=by
 obtain⟨hp,hne,v,hq,hown,Xr,VC,rfl⟩:=h;have Fu:p < w.heap.size:=(CR.1 hp).1;have rz:q < w.heap.size:=(CR.1 hq).1;have cp:w.cell? ⟨p,0,none⟩=some (.string (bs s)):=by rw[BA w p _ _ _ _ hp];rfl
 have cq:w.cell? ⟨q,0,none⟩=some v:=by rw[BA w q _ _ _ _ hq];rfl
 have PW:=CJ w p 0 _ _ hp;have oV:=CJ w q 0 _ _ hq;unfold af6;cases hR:Ie s with
 |none=>
  have hV:EU s=([],0,6):=by unfold EU;rw[hR]
  have HP:=Hi hp;have HQ:=Hi hq;have HO:=Hi hown;have HV:=Hi hV;clear hp hq hown hR hV;go_enter func212,ntmps212;go_wp2_with fail;refine(dK s _ (by omega)).mono ?_;rw[HV.out];rintro e w1⟨rfl,hb⟩;have hu:A7 (fun k=>k=p∨k=q∨v.ownBlock=some k) w w1:=A7.of_below hb;have HU:=Hi hu;have HB:=Hi hb;clear hu hb;go_wp2_with fail;go_ret;exact⟨_,HU,fun _ h=>.inl h,rfl,(HB.block p Fu).trans HP.out,hne,v,(HB.block q rz).trans HQ.out,Bh HO (ub HB) (fun _ _ f=>f),Xr,VC,rfl⟩
 |some r=>
  obtain⟨t,n⟩:=r;obtain⟨_,DI,EP⟩:=ZG hR;have hV:EU s=(t,n,0):=by unfold EU;rw[hR]
  have HP:=Hi hp;have HQ:=Hi hq;have HO:=Hi hown;have HV:=Hi hV;clear hp hq hown hR hV;go_enter func212,ntmps212;go_wp2_with fail;refine(dK s _ (by omega)).mono ?_;rw[HV.out];rintro e w1⟨rfl,hb⟩;have HB:=Hi hb;have ER:=(hb.block p Fu).trans HP.out;have Ef:=(hb.block q rz).trans HQ.out;have Kj:=Bh HO (ub hb) (fun _ _ f=>f);have cp:w1.cell? ⟨p,0,none⟩=some (.string (bs s)):=by rw[BA w1 p _ _ _ _ ER];rfl
  have cq:w1.cell? ⟨q,0,none⟩=some v:=by rw[BA w1 q _ _ _ _ Ef];rfl
  have PW:=CJ w1 p 0 _ _ ER;have oV:=CJ w1 q 0 _ _ Ef;have r9:p < w1.heap.size:=(CR.1 ER).1;have rA:q < w1.heap.size:=(CR.1 Ef).1;have Yc:=Hi ER;have gK:=Hi Ef;have DN:=Hi Kj;have kk:=fun(ob:Obj)=>Cc (((((Af w1.heap.size w1).alloc (Ac _) ob).drew).cell (p:=⟨p,0,none⟩) r9).trans cp) (((((Af w1.heap.size w1).alloc (Ac _) ob).drew).cell (p:=⟨q,0,none⟩) rA).trans cq)
  have hcut:∀ W,(Instr.slice 9 (.string (bs s)) (some (.int .i64 (n:Int))) none none).run prog W=.ok (.string (bs (s.drop n))) W:=fun W=>LQ prog W 9 underlying9 s n DI
  obtain⟨i0,Ba,AQ,AU,AV⟩:=Du ad2;clear hb ER Ef Kj;go_wp2_with fail
  go_region_law
   ((refine step_append_lies _ (by rfl) _ _ _ (by rfl) 0 9 i0 _ 1 16 underlying27 Ba AQ AU AV (by rfl) (by omega) v l.length (strCells l) (by rfl) ((DN.alloc _).drew) ⟨w1.heap.size,0,none⟩ 1 1 [.string (bs t)] (by rfl) (by rfl) (World.news_of_block (cs:=#[.string (bs t)]) (t:=9) (fr:=(0,0)) (AJ w1 _)) (fun u hu=>by simp at hu;subst hu;rfl) (by omega) (by unfold maxLen;omega) (by omega) (AB _) (w1.heap.size+1) (by simp) ?_;intro gg cap2 w2 Ob Az hat O8;have atO:=(Az.cell_far ⟨p,0,none⟩ (by show p < (w1.alloc _).heap.size;rw[Aq];omega) (Ne.symm Xr)).trans (kk _).1;have atP:=(Az.cell_far ⟨q,0,none⟩ (by show q < (w1.alloc _).heap.size;rw[Aq];omega) (Ne.symm VC)).trans (kk _).2;have qG:=(Az.frozen_far ⟨p,0,none⟩ (by show p < (w1.alloc _).heap.size;rw[Aq];omega) (Ne.symm Xr)).trans (((((Af w1.heap.size w1).alloc (Ac _) _).drew).frozen (p:=⟨p,0,none⟩) r9).trans PW);have auc:=(Az.frozen_far ⟨q,0,none⟩ (by show q < (w1.alloc _).heap.size;rw[Aq];omega) (Ne.symm VC)).trans (((((Af w1.heap.size w1).alloc (Ac _) _).drew).frozen (p:=⟨q,0,none⟩) rA).trans oV)))
  all_goals
   have HD:=Hi (axL hne HB Yc gK Xr VC Az Ob hat (s.drop n) Fu rz);clear Ob Az hat atO atP qG auc;go_wp2_with fail;go_ret;exact⟨_,HD.1,HD.2.1,rfl,HD.2.2⟩
def Lr(w:World)(s:List UInt8)(e:Ending)(w':World):Prop:=
 match CW s with
 |none=>e=.returned (.tuple #[.slice none 0 0,.int .i64 7])∧Bw w w'
 |some l=>∃ v,e=.returned (.tuple #[v,.int .i64 0])∧w'.ownsRow 0 9 1 v l.length (strCells l)∧Bw w w'∧∀ g,v.ownBlock=some g→w.heap.size≤g
theorem La{w w':World}{s:List UInt8}{e:Ending}(h:CW s=none)(he:e=.returned (.tuple #[.slice none 0 0,.int .i64 7]))(hb:Bw w w'):Lr w s e w':=by
 unfold Lr;rw[h];exact⟨he,hb⟩
theorem kX{w w':World}{s:List UInt8}{l:List (List UInt8)}{e:Ending}{v:Value}(h:CW s=some l)(he:e=.returned (.tuple #[v,.int .i64 0]))(ho:w'.ownsRow 0 9 1 v l.length (strCells l))(hb:Bw w w')(hg:∀ g,v.ownBlock=some g→w.heap.size≤g):Lr w s e w':=by
 unfold Lr;rw[h];exact⟨v,he,ho,hb,hg⟩
theorem dP{k j:Nat}{s S t:List UInt8}{n:Nat}{l:List (List UInt8)}(hj:j < k)(h:readTs k s=(readTs (k -j) S).map fun q=>(l++q.1,q.2))(hr:Ie S=some (t,n)):
  readTs k s=(readTs (k -(j+1)) (S.drop n)).map fun q=>((l++[t])++q.1,q.2):=by
 rw[h,show k -j=(k -(j+1))+1 by omega];simp only[readTs,hr,Cj,Option.map_map]
 congr 1
 funext q
 simp
theorem dO{k j:Nat}{s S:List UInt8}{l:List (List UInt8)}(hj:j < k)(h:readTs k s=(readTs (k -j) S).map fun q=>(l++q.1,q.2))(hr:Ie S=none):readTs k s=none:=by
 rw[h,show k -j=(k -(j+1))+1 by omega];simp[readTs,hr]
theorem axN(w:World)(n':Nat)(s S:List UInt8):
  aR ((((w.alloc (.cells #[.string (bs s)] 9)).alloc (.cells #[.slice none 0 0] 27)).drewN n').setCell ⟨w.heap.size,0,none⟩ (.string (bs S))) w.heap.size (w.heap.size+1) S [] (fun k=>k=w.heap.size∨k=w.heap.size+1∨(Value.slice none 0 0).ownBlock=some k)∧
  Bw w ((((w.alloc (.cells #[.string (bs s)] 9)).alloc (.cells #[.slice none 0 0] 27)).drewN n').setCell ⟨w.heap.size,0,none⟩ (.string (bs S))):=by
 have ha:=((Af (w.heap.size+1) (w.alloc (.cells #[.string (bs s)] 9))).alloc (by rw[Aq];omega) (.cells #[.slice none 0 0] 27));have e1:(((w.alloc (.cells #[.string (bs s)] 9)).alloc (.cells #[.slice none 0 0] 27)).drewN n').heap[w.heap.size]?=some (.cells #[.string (bs s)] 9):=(ha.block w.heap.size (by omega)).trans (AJ w _);have e2:(((w.alloc (.cells #[.string (bs s)] 9)).alloc (.cells #[.slice none 0 0] 27)).drewN n').heap[w.heap.size+1]?=some (.cells #[.slice none 0 0] 27):=by
  have:=AJ (w.alloc (.cells #[.string (bs s)] 9)) (.cells #[.slice none 0 0] 27);rw[Aq] at this;exact this
 have c1:A7 (fun k=>k=w.heap.size) (((w.alloc (.cells #[.string (bs s)] 9)).alloc (.cells #[.slice none 0 0] 27)).drewN n') ((((w.alloc (.cells #[.string (bs s)] 9)).alloc (.cells #[.slice none 0 0] 27)).drewN n').setCell ⟨w.heap.size,0,none⟩ (.string (bs S))):=(A7.refl (fun k=>k=w.heap.size) _).setCell (p:=⟨w.heap.size,0,none⟩) (.inl rfl) _;refine⟨⟨BU _ w.heap.size 0 _ _ _ e1,by omega,.slice none 0 0,(c1.block _ (CR.1 e2).1 (by omega)).trans e2,?_,by simp[Value.ownBlock],by simp[Value.ownBlock],rfl⟩,?_⟩
 ·show World.ownsRow _ 0 _ 1 (.slice none 0 0) 0 (strCells [])
  have e:strCells []=[]:=by unfold strCells;rfl
  rw[e];exact EI _ _ _ _
 ·exact((((Af _ w).alloc (Ac _) _).alloc (by rw[Aq];omega) _).trans ((F6 _ n').mono (by rw[Aq,Aq];omega))).setCell (p:=⟨w.heap.size,0,none⟩) (Ac _) _
theorem kT(s:List UInt8)(w:World)(hs:s.length≤1000000000):
  Calls prog 178 #[.string (bs s)] w fun e w'=>Lr w s e w':=by
 by_cases h2:s.length < 2
 ·have hR:Hid (CW s=none):=Hi (by unfold CW;rw[Ab h2]);go_enter func178,ntmps178;go_wp2_with fail;exact El (v:=.tuple #[.slice none 0 0,.int .i64 7]) (by simp[results,results178,go_sem]) rfl (La hR.out rfl (((Af _ w).alloc (Ac _) _).alloc (by rw[Aq];omega) _))
 ·have hv:=val_two s (by omega);have b0:=s[0].toNat_lt;have b1:=s[1].toNat_lt;have hz:(0:Nat) < s.length:=by omega
  have AU:(1:Nat) < s.length:=by omega
  have AV:(1:Int) < (s.length:Int):=by omega
  have hz3:(2:Int)≤(s.length:Int):=by omega
  have hcut:∀ W,(Instr.slice 9 (.string (bs s)) (some (.int .i64 2)) none none).run prog W=.ok (.string (bs (s.drop 2))) W:=fun W=>LQ prog W 9 underlying9 s 2 (by omega)
  have HV:=Hi hv;clear hv;go_enter func178,ntmps178;go_wp2_with fail
  go_quiet (fail)
  have e:(s[0].toNat:Int)+(s[1].toNat:Int)*(256:Int)=((s[0].toNat+256*s[1].toNat:Nat):Int):=by omega
  simp only[e];clear e;have KT:s[0].toNat+256*s[1].toNat≤65535:=by omega
  generalize s[0].toNat+256*s[1].toNat=n at*;go_wp2_with fail;have AP:=fun(n':Nat)=>axN w n' s (s.drop 2)
  have AR:=Hi AP;clear AP
  go_loopw [21] (fun i wr=>∃ (j:Nat) (S:List UInt8) (l:List (List UInt8)) (fp:Nat→Prop),j≤n∧i=.int .i64 j∧aR wr w.heap.size (w.heap.size+1) S l fp∧l.length=j∧S.length≤s.length∧Bw w wr∧(∀ k,fp k→w.heap.size≤k)∧readTs n (s.drop 2)=(readTs (n -j) S).map fun q=>(l++q.1,q.2)) (fun i _=>n -(intOf i).toNat)
  case atStart=>
   refine⟨0,s.drop 2,[],_,by omega,rfl,(AR _).1,rfl,by rw[Ce];omega,(AR _).2,?_,?_⟩
   ·rintro k (rfl|rfl|hk)
    ·exact Ac _
    ·omega
    ·simp[Value.ownBlock] at hk
   ·simp
  case round=>
   obtain⟨j,S,l,fp,hj,rfl,Oc,EB,YK,hb,FU,LG⟩:=hrel;have He:=Hi Oc;have NK:=Hi EB;have HB:=Hi hb;have EK:=Hi FU;have Ex:=Hi LG;obtain⟨v,hq,hown,Xr,VC,aix⟩:=Oc.row;have hp:=Oc.left;have cp:wr.cell? ⟨w.heap.size,0,none⟩=some (.string (bs S)):=(by rw[BA wr _ _ _ _ _ hp];rfl);have cq:wr.cell? ⟨w.heap.size+1,0,none⟩=some v:=(by rw[BA wr _ _ _ _ _ hq];rfl);have oV:=CJ wr (w.heap.size+1) 0 _ _ hq;have HO:=Hi hown;have HQ:=Hi hq;have xE:=Hi (show ∀ g,v.ownBlock=some g→w.heap.size≤g from fun g hg=>FU g (by rw[aix];exact .inr (.inr hg)));clear Oc EB hb FU LG hq hown aix hp;have YI:∀ (o:Option (List (List UInt8))),CW s=o→Hid (CW s=o):=fun o h=>Hi h
   have ED:CW s=(readTs n (s.drop 2)).bind fun q=>if q.2=[] then some q.1 else none:=by unfold CW;rw[Aa h2,HV.out]
   have FD:=Hi ED;clear YI ED;by_cases hlt:j < n
   ·go_wp2_with fail;refine(axM He (by omega) (by rw[NK.out];omega)).mono ?_;rintro e w2⟨fp2,hu,Kl,ru⟩;have Ag:=Hi (Ca HB hu EK HB.size)
    have fM:=Hi (show ∀ k,fp2 k→w.heap.size≤k from fun k hk=>by
     rcases Kl k hk with h|h
     ·exact EK k h
     ·exact Ap HB.size h)
    clear hu Kl cp cq oV;cases hr:Ie S with
    |none=>
     rw[hr] at ru;obtain⟨rfl,jO⟩:=ru;obtain⟨v2,CV,_⟩:=jO.row;have cq2:w2.cell? ⟨w.heap.size+1,0,none⟩=some v2:=(by rw[BA w2 _ _ _ _ _ CV];rfl);have fq2:=CJ w2 (w.heap.size+1) 0 _ _ CV;have hR:Hid (CW s=none):=Hi (by rw[FD.out,dO hlt Ex hr];rfl);have TY:(w2.setCell ⟨w.heap.size+1,0,none⟩ (.slice none 0 0)).cell? ⟨w.heap.size+1,0,none⟩=some (.slice none 0 0):=cr (BU w2 _ 0 _ _ _ CV);clear jO CV hr;go_wp2_with fail;exact El (v:=.tuple #[.slice none 0 0,.int .i64 7]) (by simp[results,results178,go_sem,TY]) rfl (La hR.out rfl (Ag.setCell (p:=⟨w.heap.size+1,0,none⟩) (by show w.heap.size≤w.heap.size+1;omega) _))
    |some r=>
     obtain⟨t,m⟩:=r;rw[hr] at ru;obtain⟨rfl,jO⟩:=ru;have QM:=Hi jO;have Yg:=Hi (dP hlt Ex hr);clear jO hr;go_wp2_with fail;go_roundw
     case rel=>exact⟨j+1,S.drop m,l++[t],fp2,by omega,by go_num,QM,by rw[Au,NK.out];rfl,by rw[Ce];omega,Ag,fM,Yg⟩
     case measure=>simp[intOf];omega
   ·obtain rfl:j=n:=(by omega);by_cases hS:S=[]
    ·subst hS;have hR:Hid (CW s=some l):=Hi (by rw[FD.out,Ex.out,Nat.sub_self];simp[readTs]);obtain⟨qv,nY,rfl⟩:=Bg HO.out;have TY:(wr.setCell ⟨w.heap.size+1,0,none⟩ (.slice qv l.length nY)).cell? ⟨w.heap.size+1,0,none⟩=some (.slice qv l.length nY):=cr (BU wr _ 0 _ _ _ HQ);go_wp2_with fail;have hu:A7 (fun k=>k=w.heap.size+1) wr (wr.setCell ⟨w.heap.size+1,0,none⟩ (.slice qv l.length nY)):=(A7.refl (fun k=>k=w.heap.size+1) wr).setCell (p:=⟨w.heap.size+1,0,none⟩) (.inl rfl) _;exact El (v:=.tuple #[.slice qv l.length nY,.int .i64 0]) (by simp[results,results178,go_sem,TY]) rfl (kX hR.out rfl (Bh HO hu (fun g hg e=>VC (by rw[hg,e]))) (HB.setCell (p:=⟨w.heap.size+1,0,none⟩) (by show w.heap.size≤w.heap.size+1;omega) _) xE)
    ·have hR:Hid (CW s=none):=Hi (by rw[FD.out,Ex.out,Nat.sub_self];simp[readTs,hS]);have hne:S.isEmpty=false:=by
      cases S with
      |nil=>exact absurd rfl hS
      |cons=>rfl
     have TY:(wr.setCell ⟨w.heap.size+1,0,none⟩ (.slice none 0 0)).cell? ⟨w.heap.size+1,0,none⟩=some (.slice none 0 0):=cr (BU wr _ 0 _ _ _ HQ);clear hS;go_wp2_with fail;exact El (v:=.tuple #[.slice none 0 0,.int .i64 7]) (by simp[results,results178,go_sem,TY]) rfl (La hR.out rfl (HB.setCell (p:=⟨w.heap.size+1,0,none⟩) (by show w.heap.size≤w.heap.size+1;omega) _))
end
end Go.Proofs.YtmbbhdebddbhoaaGreat
