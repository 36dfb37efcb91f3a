/- Oct StrHeap WalT DiskCopy2 Trod2 DiskH Both Same DiskLaw DiskAlive KeepsRep WalRep WalLaw2 -/
import Derived.Lib.EndianBits
import Derived.Outline
import Derived.Lib.AppendStr
import Derived.Test.YtkmninbcgipliaaGreatDoorQ1
import Derived.StringKeys
import Derived.MapKept
import Derived.Deep.Slices
import Derived.Deep.Fields
import Derived.ChangeArms
set_option maxHeartbeats 4000000
set_option maxRecDepth 100000
set_option linter.all false
namespace Go.Proofs.YtkmninbcgipliaaGreatDoor
open Tryz
section
open Go.RowKit
open Aq
theorem FM(w:World)(n:Nat):Bw w (w.drewN n):=⟨rfl,rfl,rfl,Ae _,fun _ _=>rfl⟩
theorem Y4(P:Program)(W:World)(t:TypeId)(hu:P.underlying t=some .string)(s:List UInt8)(lo hi:Nat)(h1:lo≤hi)(h2:hi≤s.length):
  (Instr.slice t (.string (bs s)) (some (.int .i64 (lo:Int))) (some (.int .i64 (hi:Int))) none).run P W=.ok (.string (bs ((s.take hi).drop lo))) W:=by
 have g2:(hi:Int)≤(s.length:Int):=by omega
 simp[Instr.slice,GK hu,Instr.sliceBounds,run_sliceBound,go_sem,h1,g2]
theorem axF(V b k:Nat)(hV:V < 256 ^ k)(hb:b < 256)(hk:k < 8):bits BinOp.or IntKind.u64 (V:Int) (IntKind.u64.wrap (IntKind.u64.wrap (b:Int)*2 ^ (8*k)))=((V+256 ^ k*b:Nat):Int):=by
 have hp:(2:Int) ^ (8*k)=((256 ^ k:Nat):Int):=by rw[Int.pow_mul];norm_cast
 have hle:256 ^ k*256≤256 ^ 8:=by rw[←Nat.pow_succ];exact Nat.pow_le_pow_right (by decide) (by omega)
 have hmul:256 ^ k*b < 256 ^ 8:=I9 (Nat.mul_lt_mul_of_pos_left hb (Nat.pow_pos (by decide))) hle;have EC:0 < 256 ^ k:=Nat.pow_pos (by decide);have h8:(256:Nat) ^ 8=18446744073709551616:=by decide
 have hV8:V < 18446744073709551616:=by
  have:256 ^ k≤256 ^ 8:=Nat.pow_le_pow_right (by decide) (by omega);rw[←h8];exact I9 hV this
 have he:(b:Int)*2 ^ (8*k)=((256 ^ k*b:Nat):Int):=by rw[hp,Int.natCast_mul,Int.mul_comm]
 have hdv:((256 ^ k*b:Nat):Int) % 2 ^ (8*k)=0:=by rw[hp,←Int.natCast_emod,Nat.mul_mod_right];rfl
 have VC:(2:Int) ^ 64=18446744073709551616:=by decide
 have VM:256 ^ k*b < 18446744073709551616:=by rw[←h8];exact hmul
 generalize 256 ^ k*b=m at*;have e1:IntKind.u64.wrap (b:Int)=(b:Int):=u64_wrap_id _ (by omega) (by omega);have e2:IntKind.u64.wrap (m:Int)=(m:Int):=u64_wrap_id _ (by omega) (by omega);rw[e1,he,e2];rw[bits_join_low .u64 64 (by decide) wraps_u64 (8*k) (V:Int) (m:Int) (by omega) (by rw[hp];omega) (by rw[VC];omega) (by omega) hdv (by rw[VC];omega)];exact(Int.natCast_add V m).symm
theorem adj(s:List UInt8)(k:Nat)(h:k < s.length):A9.val (s.take (k+1))=A9.val (s.take k)+256 ^ k*s[k].toNat:=by
 rw[CQ h,A9.val_append,Be,Jc (by omega)];simp[A9.val]
theorem X9(s:List UInt8)(w:World)(h1:1≤s.length)(h8:s.length≤8):
  Calls prog 160 #[.string (bs s)] w fun e w'=>e=.returned (.tuple #[.int .u64 (A9.val s:Nat),.int .i64 0])∧w=w':=by
 have d1:decide ((s.length:Int) < 1)=false:=by simp;omega
 have d2:decide (8 < (s.length:Int))=false:=by simp;omega
 go_in
 go_wp2
 go_loop [2,15] (fun v i=>∃ k:Nat,k≤s.length∧i=.int .i64 k∧v=.int .u64 (A9.val (s.take k):Nat)) (fun _ i=>s.length -(intOf i).toNat)
 case atStart=>exact⟨0,by omega,rfl,by simp[A9.val]⟩
 case round=>
  obtain⟨k,hk,rfl,rfl⟩:=hrel;by_cases hlt:k < s.length
  ·have hv:=A9.Jb (s.take k);rw[Be,Jc hk] at hv;have RF:=axF (A9.val (s.take k)) s[k].toNat k hv (by have:=s[k].toNat_lt;omega) (by omega);rw[←adj s k hlt] at RF;have HOR:=Hi RF;clear RF hv;go_wp2
   go_round
   case rel=>exact⟨k+1,by omega,by go_num,by rw[HOR.out]⟩
   case measure=>simp[intOf];omega
  ·go_wp2;go_ret2;have DX:k=s.length:=(by omega);exact⟨by rw[DX,Dq];rfl,rfl⟩
theorem ac9(s:List UInt8)(w:World)(h:s.length≤65535):
  Calls prog 190 #[.string (bs s)] w fun e w'=>e=.returned (.tuple #[.string (bs (A9.le 2 s.length++s)),.int .i64 0])∧Bw w w':=by
 go_in
 go_wp2_with fail;refine(iL s.length 2 _ (by decide)).mono ?_;rintro e w1⟨rfl,hb⟩;go_wp2;go_ret2;exact⟨rfl,hb⟩
theorem ac8(s:List UInt8)(w:World)(h:65535 < s.length):
  Calls prog 190 #[.string (bs s)] w fun e w'=>e=.returned (.tuple #[.string (bs []),.int .i64 5])∧w=w':=by
 go_in
 go_wp2;go_ret2;exact⟨rfl,rfl⟩
theorem val_two(s:List UInt8)(h:2≤s.length):A9.val (s.take 2)=s[0].toNat+256*s[1].toNat:=by
 rw[adj s 1 (by omega),adj s 0 (by omega)];simp[A9.val]
def Fs(s:List UInt8):List UInt8×Nat×Int:=match DF s with|none=>([],0,6)|some p=>(p.1,p.2,0)
theorem eD(s:List UInt8)(w:World)(hl:s.length≤1099511627776):
  Calls prog 254 #[.string (bs s)] w fun e w'=>e=.returned (.tuple #[.string (bs (Fs s).1),.int .i64 ((Fs s).2.1:Nat),.int .i64 (Fs s).2.2])∧Bw w w':=by
 by_cases h2:s.length < 2
 ·have hR:Hid (Fs s=([],0,6)):=Hi (by unfold Fs DF;rw[Ac h2]);rw[hR.out]
  go_in
  go_wp2;go_ret3;exact⟨rfl,Ah _ _⟩
 ·have hv:=val_two s (by omega);have b0:=s[0].toNat_lt;have b1:=s[1].toNat_lt;have hz:(0:Nat) < s.length:=by omega
  have AY:(1:Nat) < s.length:=by omega
  have Ba:(1:Int) < (s.length:Int):=by omega
  have hz3:(2:Int)≤(s.length:Int):=by omega
  by_cases h3:2+A9.val (s.take 2)≤s.length
  ·have hR:Hid (Fs s=((s.take (2+A9.val (s.take 2))).drop 2,2+A9.val (s.take 2),0)):=Hi (by unfold Fs DF;rw[Aa h2,Ac h3]);rw[hR.out];rw[hv] at h3 ⊢;clear hv hR
   go_in
   go_wp2
   go_quiet (fail)
   have e:(2:Int)+(s[0].toNat:Int)+(s[1].toNat:Int)*(256:Int)=((2+(s[0].toNat+256*s[1].toNat):Nat):Int):=(by omega);simp only[e];clear e;have Gm:2≤2+(s[0].toNat+256*s[1].toNat):=(by omega);generalize hn:2+(s[0].toNat+256*s[1].toNat)=n at*;have HN:=Hi hn;clear hn;have hcut:∀ W,(Instr.slice 9 (.string (bs s)) (some (.int .i64 2)) (some (.int .i64 (n:Int))) none).run prog W=.ok (.string (bs ((s.take n).drop 2))) W:=fun W=>Y4 prog W 9 underlying9 s 2 n Gm h3
   go_wp2;go_ret3;obtain rfl:=HN.out;exact⟨rfl,FM _ _⟩
  ·have hR:Hid (Fs s=([],0,6)):=Hi (by unfold Fs DF;rw[Aa h2,Aa h3]);rw[hR.out];rw[hv] at h3;clear hv hR
   go_in
   go_wp2
   go_quiet (fail)
   go_wp2;go_ret3;exact⟨rfl,FM _ _⟩
end
section
open Go.RowKit Go.Maps
open Aq
theorem azZ(k:List UInt8):Lib.strCells (bs k)=Cc k:=by unfold Lib.strCells Cc Db;rfl
theorem az5{P:Program}(w:World)(t u ty e:TypeId)(i:TypeInfo)(ht:P.underlying t=some (.slice e))(hu:P.underlying u=some .string)(hi:P.info? e=some i)(hz:i.zero=some (.int .u8 0))
  (JJ:i.size=1)(Un:i.bytes=1)(v:Value)(n:Nat)(xs:List Value)(hown:w.ownsRow 0 e 1 v n xs)(k:List UInt8)(hl:n+k.length≤140737488355328):
  ∃ v' w',(Builtin.append_ #[t,u] ty #[v,.string (bs k)]).run P w=.ok v' w'∧w'.ownsRow 0 e 1 v' (n+k.length) (xs++Cc k)∧w.grownBy w' v.ownBlock∧
   (v'=.slice none 0 0↔v=.slice none 0 0∧k.length=0)∧(v'.ownBlock=v.ownBlock∨v'.ownBlock=some w.heap.size):=by
 have BL:(bs k).size=k.length:=rfl;obtain⟨v',w',hr,h2,h3,h4⟩:=Lib.run_append_own_string (P:=P) w 0 t u ty e i ht hu hi hz JJ Un v n xs hown (bs k) (by unfold maxLen;rw[BL];omega) (by rw[BL];omega) (AZ _);rw[azZ] at h2;refine⟨v',w',hr,h2,h3,h4,?_⟩;rcases hown.2 with⟨rfl,rfl⟩|⟨g,cap,cur,rfl,_,hg,hnc,PD,DK,avm⟩
 ·by_cases hk:k.length=0
  ·rw[h4.2 ⟨rfl,hk⟩];exact .inl rfl
  ·have XI:=run_append_nil_string (P:=P) w t u ty e i (.int .u8 0) ht hu hi hz (bs k) (by rw[BL];omega) (by rw[BL];omega) (by rw[Un,BL];omega);rw[hr] at XI;injection XI with e1 _
   rw[e1];exact .inr rfl
 ·by_cases J2:n+(bs k).size≤cap
  ·have XI:=Lib.run_append_room_string (P:=P) w t u ty e i ht hu hi JJ g n cap cur hg (bs k) J2 (by omega);rw[hr] at XI;injection XI with e1 _
   rw[e1];exact .inl rfl
  ·have XI:=Lib.run_append_grow_string (P:=P) w t u ty e i (.int .u8 0) ht hu hi hz ⟨g,0,none⟩ n cap xs (by rw[JJ];exact hown.1) (hown.cells (g:=g) rfl) (bs k) (by omega) (by rw[BL];omega) (by rw[Un];exact growslice_fits (by omega) (by rw[BL];omega));rw[hr] at XI;injection XI with e1 _
   rw[e1];exact .inr rfl
theorem aBp{P:Program}{w:World}{ops:Array Oper}{rest:List Oper}{o:Oper}{a:Act}{Q:Exit→Act→World→Prop}(PO:o.guard=none)(sl x:Operand)(t u:TypeId)
  (ho:o.op=.call { callee:=.builtin .append,args:=#[sl,x],argTypes:=#[t,u] })
  (e:TypeId)(i:TypeInfo)(ht:P.underlying t=some (.slice e))(hu:P.underlying u=some .string)(hi:P.info? e=some i)(hz:i.zero=some (.int .u8 0))(JJ:i.size=1)(Un:i.bytes=1)
  (v:Value)(n:Nat)(xs:List Value)(hs:a.eval sl=v)(hown:w.ownsRow 0 e 1 v n xs)(k:List UInt8)(hx:a.eval x=.string (bs k))(hl:n+k.length≤140737488355328)
  (h:∀ v' w',w'.ownsRow 0 e 1 v' (n+k.length) (xs++Cc k)→w.grownBy w' v.ownBlock→(v'=.slice none 0 0↔v=.slice none 0 0∧k.length=0)→(v'.ownBlock=v.ownBlock∨v'.ownBlock=some w.heap.size)→wpList P ops Q rest (a.put o.dst v') w'):wpList P ops Q (o :: rest) a w:=by
 refine wpList_plain PO fun K hK=>?_
 obtain⟨v',w',hr,h2,h3,h4,h5⟩:=az5 (P:=P) w t u o.type e i ht hu hi hz JJ Un v n xs hown k hl;unfold Oper.wp execOp;simp only[ho,resolve,invoke,builtin,Sem.run_bind,Sem.run_pure,Result.andThen_ok,List.map_toArray,Ce,Kq,hs,hx,hr];exact hK _ _ (h v' w' h2 h3 h4 h5)
theorem WY{w:World}{b:Nat}{l:List UInt8}{fp:Nat→Prop}(h:Ep w b l fp)(k:List UInt8)(hlen:l.length+k.length≤1099511627776):
  Calls prog 188 #[.pointer (some ⟨b,0,none⟩),.string (bs k)] w fun e w'=>e=.returned (.tuple #[.int .i64 (k.length:Int),.nilIface])∧∃ fp',Ep w' b (l++k) fp'∧A7 fp w w'∧Di fp fp' w:=by
 obtain⟨p,v,hb,hp,hown,hne,XG,rfl⟩:=h;have nk:=Hi XG;clear XG;obtain⟨i0,hi,AX,AY,Ba⟩:=DI YS
 go_in
 go_wp2_with fail;refine(yN b p v _ hb hp).mono ?_;rintro e w1⟨rfl,Ai,Gq⟩;have jB:b < w.heap.size:=(Dm.1 hb).1;have KT:w1.ownsRow 0 5 1 v l.length (Cc l):=BH hown Gq (fun q hq e=>hne (by rw[hq,e]));have c1:w1.cell? ⟨b,1,none⟩=some v:=by rw[Lib.cell_of_heap Ai];rfl
 go_wp2_with (at_builtin;refine aBp rfl _ _ 54 9 rfl 5 i0 underlying54 underlying9 hi AX AY Ba _ _ _ rfl KT k rfl ?c3 ?_)
 case c3=>omega
 intro v' w2 Ck AJ OC hat;have LZ:=Hi OC;clear OC;have Ad:w2.heap[b]?=some (.cells #[.pointer (some ⟨b,0,none⟩),v] 210):=by
  rw[AJ.block b (I9 jB Gq.size) (fun e=>hne e.symm)];exact Ai
 have d1:w2.cell? ⟨b,1,none⟩=some v:=by rw[Lib.cell_of_heap Ad];rfl
 have f1:w2.frozen? ⟨b,1,none⟩=false:=Lib.frozen_of_heap Ad 1;have JK:v'.ownBlock≠some b:=by
  rcases hat with hat|hat
  ·rw[hat];exact hne
  ·rw[hat];intro e;have:=Gu e;have:=Gq.size;omega
 have Yw:Hid (l++k=[]→v'=.slice none 0 0):=Hi (fun e=>by
  obtain⟨e1,e2⟩:=List.append_eq_nil_iff.1 e;exact LZ.2 ⟨nk e1,by rw[e2]⟩)
 obtain⟨ao,n',cap,rfl⟩:∃ ao n' cap,v'=.slice ao n' cap:=by
  rcases Ck.2 with⟨hv,_⟩|⟨g,cap,cur,hv,_⟩
  ·exact⟨_,_,_,hv⟩
  ·exact⟨_,_,_,hv⟩
 clear c1;go_wp2;go_ret2;have Eu:A7 (fun k=>k=b∨v.ownBlock=some k) w w2:=(Gq.mono (fun i e=>Or.inl e)).trans (A7.of_grownBy (F:=fun k=>k=b∨v.ownBlock=some k) AJ (fun q e=>.inr e)) (fun i e=>.inl e);have Dk:=Eu.setCell (p:=⟨b,1,none⟩) (.inl (.inl rfl)) (.slice ao n' cap);refine⟨rfl,fun q=>q=b∨(Value.slice ao n' cap).ownBlock=some q,⟨some ⟨b,0,none⟩,.slice ao n' cap,Cf w2 b 1 _ _ _ Ad,.inr rfl,?_,JK,Yw.out,rfl⟩,Dk,?_⟩
 ·rw[Az,Yc];exact BH Ck ((A7.refl (fun q=>q=b) w2).setCell (p:=⟨b,1,none⟩) (.inl rfl) _) (fun q hq e=>JK (by rw[hq,e]))
 ·rintro q (rfl|hq)
  ·exact .inl (.inl rfl)
  ·rcases hat with hat|hat
   ·exact .inl (.inr (by rw[←hat];exact hq))
   ·rw[hat] at hq;have:=Gu hq;exact .inr (by have:=Gq.size;omega)
def Dv(w:World)(a:Option Addr)(l:List (List UInt8)):Prop:=∀ i,(h:i < l.length)→∃ p:Addr,a=some p∧w.cell? (p.add i)=some (.string (bs l[i]))
theorem Dv.below{w w':World}{a:Option Addr}{l:List (List UInt8)}(h:Dv w a l)(hb:Bw w w'):Dv w' a l:=fun i hi=>by
 obtain⟨p,hp,h1⟩:=h i hi;exact⟨p,hp,(hb.cell (D7 h1)).trans h1⟩
theorem Dv.index{w:World}{a:Option Addr}{l:List (List UInt8)}(h:Dv w a l)(cap k:Nat)(hk:k < l.length):
  ∃ q:Addr,(∀ W,(Instr.indexAt 61 (.slice a l.length cap) (.int .i64 (k:Int))).run prog W=.ok (.pointer (some q)) W)∧w.cell? q=some (.string (bs l[k])):=by
 obtain⟨p,rfl,h1⟩:=h k hk;refine⟨p.add k,fun W=>?_,h1⟩;have:=IM prog 61 9 underlying61 1 (by kernel_rfl) p l.length cap k hk W;rw[Nat.mul_one] at this;exact this
def rowLen(l:List (List UInt8)):Nat:=2+(l.map fun s=>2+s.length).sum
theorem ayQ(l:List (List UInt8))(k:Nat)(h:k < l.length):rowLen (l.take (k+1))=rowLen (l.take k)+(2+l[k].length):=by
 unfold rowLen;rw[CQ h,D6,OQ];simp;omega
theorem acC(l:List (List UInt8))(k:Nat):rowLen (l.take k)≤rowLen l:=by
 unfold rowLen
 conv=>rhs;rw[←Mw k l,D6,OQ]
 omega
theorem Wo{l:List (List UInt8)}{s:List UInt8}(h:BB l=some s):2+s.length=rowLen l:=by
 induction l generalizing s with
 |nil=>simp[BB] at h;subst h;rfl
 |cons x l ih=>
  simp only[BB] at h;cases h1:Em x with
  |none=>rw[h1] at h;cases h
  |some a=>
   cases h2:BB l with
   |none=>rw[h1,h2] at h;cases h
   |some b=>
    rw[h1,h2] at h;simp at h;subst h;have h3:=ih h2;unfold Em at h1;split at h1
    ·simp at h1;subst h1;simp[rowLen,A9.BV] at h3 ⊢;omega
    ·cases h1
def D5(l:List (List UInt8)):List UInt8×Int:=match Gt l with|none=>([],5)|some s=>(s,0)
theorem acY{l:List (List UInt8)}{k:Nat}(h:k < l.length){s:List UInt8}(hs:BB (l.take k)=some s):BB (l.take (k+1))=(Em l[k]).map (s++ ·):=by
 rw[CQ h,anf,hs];simp only[CF,BB];cases Em l[k] with
 |none=>rfl
 |some x=>simp
theorem uL{l:List (List UInt8)}{k:Nat}(h:k < l.length)(hk:65535 < l[k].length):BB l=none:=by
 induction l generalizing k with
 |nil=>simp at h
 |cons x l ih=>
  simp only[BB];cases k with
  |zero=>
   have:Em x=none:=(by unfold Em;rw[Aa (by simp at hk;omega)]);rw[this];rfl
  |succ k=>
   rw[ih (k:=k) (by simpa using h) (by simpa using hk)];cases Em x<;>rfl
theorem al6(l:List (List UInt8))(a:Option Addr)(cap:Nat)(w:World)(hl:Dv w a l)(hlen:l.length≤maxLen)(DC:rowLen l≤1000000000):
  Calls prog 105 #[.slice a l.length cap] w fun e w'=>e=.returned (.tuple #[.string (bs (D5 l).1),.int .i64 (D5 l).2])∧Bw w w':=by
 unfold maxLen at hlen;by_cases bW:65535 < l.length
 ·have hR:Hid (D5 l=([],5)):=Hi (by unfold D5 Gt;rw[Aa (by omega)]);rw[hR.out];clear hl
  go_in
  go_wp2;go_ret2;exact⟨rfl,Ah _ _⟩
 ·have HL:=Hi hl;have Bb:Bw w (w.alloc (.cells #[.pointer none,.slice none 0 0] 210)):=(Ah _ w).alloc (Ae _) _;have AR:=Hi Bb;have De:=Hi (Ep.made w);have Vk:=Hi DC;clear hl Bb DC
  go_in
  go_wp2_with fail;refine(iL l.length 2 _ (by decide)).mono ?_;rintro e w1⟨rfl,hb⟩;have Fh:=De.upd (ub hb) (fun _ _ f=>f);have Q8:=Hi Fh;have HB1:=Hi (AR.trans (hb.mono (by rw[Ar];omega)));clear hb Fh;go_wp2_with fail;refine(WY Q8 (A9.le 2 l.length) (by simp[A9.BV])).mono ?_;rintro e w2⟨rfl,fp2,h1,h2,h3⟩;rw[Ev] at h1;have Gj:∀ q,fp2 q→w.heap.size≤q:=fun q hq=>by
   rcases h3 q hq with h|h
   ·rcases h with h|h
    ·omega
    ·simp[Value.ownBlock] at h
   ·have:=HB1.size;omega
  have Ak:=Hi (Cq HB1 h2 (fun i hi=>by rcases hi with h|h;omega;simp[Value.ownBlock] at h) HB1.size);have OW:=Hi h1;have Fa:=Hi Gj;clear h1 h2 h3 Gj;go_wp2
  go_loopw [19] (fun i wr=>∃ (k:Nat) (S:List UInt8) (fp:Nat→Prop),k≤l.length∧i=.int .i64 k∧BB (l.take k)=some S∧Ep wr w.heap.size (A9.le 2 l.length++S) fp∧(∀ q,fp q→w.heap.size≤q)∧Bw w wr) (fun i _=>l.length -(intOf i).toNat)
  case atStart=>exact⟨0,[],fp2,by omega,rfl,rfl,by rw[En];exact OW.out,Fa,Ak⟩
  case round=>
   clear De Q8 OW AR HB1 Ak Fa;obtain⟨k,S,fp,hk,rfl,hS,Fh,Gj,hb⟩:=hrel;have HS:=Hi hS;have De:=Hi Fh;have Fa:=Hi Gj;have HB:=Hi hb;clear hS Fh Gj hb;by_cases hlt:k < l.length
   ·obtain⟨q,Jm,hq⟩:=(HL.below HB).index cap k hlt;have Jn:rowLen (l.take (k+1))=rowLen (l.take k)+(2+l[k].length):=ayQ l k hlt;have GR:=acC l (k+1);have GU:=Wo HS.out;have GV:=Vk.out;have KE:=Hi (acY hlt HS);by_cases Om:65535 < l[k].length
    ·have hR:Hid (D5 l=([],5)):=Hi (by unfold D5 Gt;rw[Ac (by omega),uL hlt Om];rfl);clear Jn GR GU GV;generalize l[k]=x at*;go_wp2_with fail;refine(ac8 x _ Om).mono ?_;rintro e w3⟨rfl,rfl⟩;go_wp2;go_ret2;rw[hR.out];exact⟨rfl,HB⟩
    ·have IK:l[k].length≤65535:=(by omega);have hle:S.length+l[k].length≤1000000000:=(by omega);clear Jn GR GU GV Om;generalize l[k]=x at*;go_wp2_with fail;refine(ac9 x _ IK).mono ?_;rintro e w3⟨rfl,Aw⟩;have TN:=Hi (De.upd (ub Aw) (fun _ _ f=>f));have AA:=bH HB Aw;clear Aw hq;go_wp2_with fail;refine(WY TN (A9.le 2 x.length++x) (by simp[A9.BV];omega)).mono ?_;rintro e w4⟨rfl,Pt,h1,h2,h3⟩;have vN:=Hi h1
     have wu:=Hi (show ∀ q,Pt q→w.heap.size≤q from fun q hq=>by
      rcases h3 q hq with h|h
      ·exact Fa q h
      ·exact Ay AA.size h)
     have AU:=Hi (Cq AA h2 Fa AA.size);clear h1 h2 h3;go_wp2;go_roundw
     case rel=>exact⟨k+1,S++(A9.le 2 x.length++x),Pt,by omega,by go_num,by rw[KE.out];unfold Em;rw[Ac IK];rfl,by rw[←Dy];exact vN.out,wu.out,AU.out⟩
     case measure=>simp[intOf];omega
   ·obtain rfl:k=l.length:=(by omega);go_wp2_with fail;refine(WX De).mono ?_;rintro e w3⟨rfl,hu⟩;have AA:=Hi (Cq HB hu Fa HB.size)
    have hR:Hid (D5 l=(A9.le 2 l.length++S,0)):=Hi (by
     have h:=HS.out;rw[Dq] at h;unfold D5 Gt;rw[Ac (by omega),h];rfl)
    clear hu;go_wp2;go_ret2;rw[hR.out];exact⟨rfl,AA⟩
end
section
open Go.RowKit Go.Maps
open Aq
theorem Mk(P:Program)(W:World)(t:TypeId)(hu:P.underlying t=some .string)(s:List UInt8)(lo:Nat)(h1:lo≤s.length):
  (Instr.slice t (.string (bs s)) (some (.int .i64 (lo:Int))) none none).run P W=.ok (.string (bs (s.drop lo))) W:=by
 have g2:(lo:Int)≤(s.length:Int):=by omega
 simp[Instr.slice,GK hu,Instr.sliceBounds,run_sliceBound,go_sem,g2]
structure aY(w:World)(p q:Nat)(s:List UInt8)(l:List (List UInt8))(fp:Nat→Prop):Prop where
 left:w.heap[p]?=some (.cells #[.string (bs s)] 9)
 ne:p≠q
 row:∃ v,w.heap[q]?=some (.cells #[v] 61)∧w.ownsRow 0 9 1 v l.length (strCells l)∧v.ownBlock≠some p∧v.ownBlock≠some q∧fp=fun k=>k=p∨k=q∨v.ownBlock=some k
theorem ayj{w w1 w2:World}{p q gg cap2:Nat}{v:Value}{s0 t:List UInt8}{l:List (List UInt8)}{ob:Obj}(hne:p≠q)(hb:Bw w w1)
  (hp:w1.heap[p]?=some (.cells #[.string (bs s0)] 9))(hq:w1.heap[q]?=some (.cells #[v] 61))(XN:v.ownBlock≠some p)(VW:v.ownBlock≠some q)
  (AJ:((w1.alloc ob).drew).grownBy w2 v.ownBlock)(hown:w2.ownsRow 0 9 1 (.slice (some ⟨gg,0,none⟩) (l.length+1) cap2) (l.length+1) (strCells l++[.string (bs t)]))
  (hat:v.ownBlock=some gg∨gg=w1.heap.size+1)(s:List UInt8)(Gp:p < w.heap.size)(rO:q < w.heap.size):
  A7 (fun k=>k=p∨k=q∨v.ownBlock=some k) w ((w2.setCell ⟨q,0,none⟩ (.slice (some ⟨gg,0,none⟩) (l.length+1) cap2)).setCell ⟨p,0,none⟩ (.string (bs s)))∧
  Di (fun k=>k=p∨k=q∨v.ownBlock=some k) (fun k=>k=p∨k=q∨(Value.slice (some ⟨gg,0,none⟩) (l.length+1) cap2).ownBlock=some k) w∧
  aY ((w2.setCell ⟨q,0,none⟩ (.slice (some ⟨gg,0,none⟩) (l.length+1) cap2)).setCell ⟨p,0,none⟩ (.string (bs s))) p q s (l++[t]) (fun k=>k=p∨k=q∨(Value.slice (some ⟨gg,0,none⟩) (l.length+1) cap2).ownBlock=some k):=by
 have PR:=hb.size;have rH:p < w1.heap.size:=by omega
 have rP:q < w1.heap.size:=by omega
 have ha:Bw w1 (w1.alloc ob).drew:=((Ah _ _).alloc (Ae _) _).drew;have u1:A7 (fun k=>k=p∨k=q∨v.ownBlock=some k) w w1:=A7.of_below hb;have u2:A7 (fun k=>k=p∨k=q∨v.ownBlock=some k) w (w1.alloc ob).drew:=u1.trans (G:=fun _=>False) (A7.of_below ha) (fun _ f=>f.elim);have u3:A7 (fun k=>k=p∨k=q∨v.ownBlock=some k) w w2:=u2.trans (A7.of_grownBy (F:=fun k=>v.ownBlock=some k) AJ (fun k e=>e)) (fun k e=>.inl (.inr (.inr e)));have BL:(w1.alloc ob).drew.heap.size=w1.heap.size+1:=by rw[World.size_drew,Ar]
 have Jp:w2.heap[p]?=some (.cells #[.string (bs s0)] 9):=(AJ.block p (by omega) (Ne.symm XN)).trans ((ha.block p rH).trans hp);have Fp:w2.heap[q]?=some (.cells #[v] 61):=(AJ.block q (by omega) (Ne.symm VW)).trans ((ha.block q rP).trans hq);have hgp:gg≠p:=fun e=>by
  rcases hat with hat|hat
  ·exact XN (by rw[hat,e])
  ·omega
 have hgq:gg≠q:=fun e=>by
  rcases hat with hat|hat
  ·exact VW (by rw[hat,e])
  ·omega
 have Tk:=Cf w2 q 0 _ _ (.slice (some ⟨gg,0,none⟩) (l.length+1) cap2) Fp;have c1:A7 (fun k=>k=q) w2 (w2.setCell ⟨q,0,none⟩ (.slice (some ⟨gg,0,none⟩) (l.length+1) cap2)):=(A7.refl (fun k=>k=q) w2).setCell (p:=⟨q,0,none⟩) (.inl rfl) _;have c2:A7 (fun k=>k=p) (w2.setCell ⟨q,0,none⟩ (.slice (some ⟨gg,0,none⟩) (l.length+1) cap2)) ((w2.setCell ⟨q,0,none⟩ (.slice (some ⟨gg,0,none⟩) (l.length+1) cap2)).setCell ⟨p,0,none⟩ (.string (bs s))):=(A7.refl (fun k=>k=p) _).setCell (p:=⟨p,0,none⟩) (.inl rfl) _;have hp3:=(c1.block p (by have:=AJ.size;omega) hne).trans Jp;have hz:q < w2.heap.size:=by have:=AJ.size;omega
 refine⟨(u3.setCell (p:=⟨q,0,none⟩) (.inl (.inr (.inl rfl))) _).setCell (p:=⟨p,0,none⟩) (.inl (.inl rfl)) _,?_,⟨Cf _ p 0 _ _ _ hp3,hne,.slice (some ⟨gg,0,none⟩) (l.length+1) cap2,(c2.block q (by have:=c1.size;omega) (Ne.symm hne)).trans Tk,?_,fun e=>hgp (by simpa[Value.ownBlock] using e),fun e=>hgq (by simpa[Value.ownBlock] using e),rfl⟩⟩
 ·rintro k (rfl|rfl|hk)
  ·exact .inl (.inl rfl)
  ·exact .inl (.inr (.inl rfl))
  ·simp[Value.ownBlock] at hk;subst hk;rcases hat with hat|hat
   ·exact .inl (.inr (.inr hat))
   ·exact .inr (by omega)
 ·rw[Az,RV];exact BH (BH hown c1 (fun g hg e=>hgq (by simp[Value.ownBlock] at hg;omega))) c2 (fun g hg e=>hgp (by simp[Value.ownBlock] at hg;omega))
def aeS(w:World)(p q:Nat)(s:List UInt8)(l:List (List UInt8))(fp:Nat→Prop)(e:Ending)(w':World):Prop:=
 ∃ fp',A7 fp w w'∧Di fp fp' w∧match DF s with
  |none=>e=.returned (.int .i64 6)∧aY w' p q s l fp'
  |some (t,n)=>e=.returned (.int .i64 0)∧aY w' p q (s.drop n) (l++[t]) fp'
theorem ayk{w:World}{p q:Nat}{s:List UInt8}{l:List (List UInt8)}{fp:Nat→Prop}(h:aY w p q s l fp)(hs:s.length≤1000000000)(hl:l.length≤1000000):
  Calls prog 253 #[.pointer (some ⟨p,0,none⟩),.pointer (some ⟨q,0,none⟩)] w fun e w'=>aeS w p q s l fp e w':=by
 obtain⟨hp,hne,v,hq,hown,XN,VW,rfl⟩:=h;have Gp:p < w.heap.size:=(Dm.1 hp).1;have rO:q < w.heap.size:=(Dm.1 hq).1;have cp:w.cell? ⟨p,0,none⟩=some (.string (bs s)):=by rw[BF w p _ _ _ _ hp];rfl
 have cq:w.cell? ⟨q,0,none⟩=some v:=by rw[BF w q _ _ _ _ hq];rfl
 have Qq:=Cu w p 0 _ _ hp;have pE:=Cu w q 0 _ _ hq;unfold aeS;cases hR:DF s with
 |none=>
  have hV:Fs s=([],0,6):=by unfold Fs;rw[hR]
  have HP:=Hi hp;have HQ:=Hi hq;have HO:=Hi hown;have HV:=Hi hV;clear hp hq hown hR hV
  go_in
  go_wp2_with fail;refine(eD s _ (by omega)).mono ?_;rw[HV.out];rintro e w1⟨rfl,hb⟩;have hu:A7 (fun k=>k=p∨k=q∨v.ownBlock=some k) w w1:=A7.of_below hb;have HU:=Hi hu;have HB:=Hi hb;clear hu hb;go_wp2;go_ret;exact⟨_,HU,fun _ h=>.inl h,rfl,(HB.block p Gp).trans HP.out,hne,v,(HB.block q rO).trans HQ.out,BH HO (ub HB) (fun _ _ f=>f),XN,VW,rfl⟩
 |some r=>
  obtain⟨t,n⟩:=r;obtain⟨_,Et,Gm⟩:=ZV hR;have hV:Fs s=(t,n,0):=by unfold Fs;rw[hR]
  have HP:=Hi hp;have HQ:=Hi hq;have HO:=Hi hown;have HV:=Hi hV;clear hp hq hown hR hV
  go_in
  go_wp2_with fail;refine(eD s _ (by omega)).mono ?_;rw[HV.out];rintro e w1⟨rfl,hb⟩;have HB:=Hi hb;have EC:=(hb.block p Gp).trans HP.out;have GX:=(hb.block q rO).trans HQ.out;have KT:=BH HO (ub hb) (fun _ _ f=>f);have cp:w1.cell? ⟨p,0,none⟩=some (.string (bs s)):=by rw[BF w1 p _ _ _ _ EC];rfl
  have cq:w1.cell? ⟨q,0,none⟩=some v:=by rw[BF w1 q _ _ _ _ GX];rfl
  have Qq:=Cu w1 p 0 _ _ EC;have pE:=Cu w1 q 0 _ _ GX;have rH:p < w1.heap.size:=(Dm.1 EC).1;have rP:q < w1.heap.size:=(Dm.1 GX).1;have Yy:=Hi EC;have nE:=Hi GX;have CW:=Hi KT;have kk:=fun(ob:Obj)=>Cr (((((Ah w1.heap.size w1).alloc (Ae _) ob).drew).cell (p:=⟨p,0,none⟩) rH).trans cp) (((((Ah w1.heap.size w1).alloc (Ae _) ob).drew).cell (p:=⟨q,0,none⟩) rP).trans cq)
  have hcut:∀ W,(Instr.slice 9 (.string (bs s)) (some (.int .i64 (n:Int))) none none).run prog W=.ok (.string (bs (s.drop n))) W:=fun W=>Mk prog W 9 underlying9 s n Et
  obtain⟨i0,Bg,AX,AY,Ba⟩:=DI acR;clear hb EC GX KT;go_wp2_with fail
  go_region_law
   ((refine step_append_lies _ (by rfl) _ _ _ (by rfl) 0 9 i0 _ 1 16 underlying61 Bg AX AY Ba (by rfl) (by omega) v l.length (strCells l) (by rfl) ((CW.alloc _).drew) ⟨w1.heap.size,0,none⟩ 1 1 [.string (bs t)] (by rfl) (by rfl) (World.news_of_block (cs:=#[.string (bs t)]) (t:=9) (fr:=(0,0)) (AP w1 _)) (fun u hu=>by simp at hu;subst hu;rfl) (by omega) (by unfold maxLen;omega) (by omega) (AZ _) (w1.heap.size+1) (by simp) ?_;intro gg cap2 w2 OD AJ hat OA;have au6:=(AJ.cell_far ⟨p,0,none⟩ (by show p < (w1.alloc _).heap.size;rw[Ar];omega) (Ne.symm XN)).trans (kk _).1;have au7:=(AJ.cell_far ⟨q,0,none⟩ (by show q < (w1.alloc _).heap.size;rw[Ar];omega) (Ne.symm VW)).trans (kk _).2;have qL:=(AJ.frozen_far ⟨p,0,none⟩ (by show p < (w1.alloc _).heap.size;rw[Ar];omega) (Ne.symm XN)).trans (((((Ah w1.heap.size w1).alloc (Ae _) _).drew).frozen (p:=⟨p,0,none⟩) rH).trans Qq);have aut:=(AJ.frozen_far ⟨q,0,none⟩ (by show q < (w1.alloc _).heap.size;rw[Ar];omega) (Ne.symm VW)).trans (((((Ah w1.heap.size w1).alloc (Ae _) _).drew).frozen (p:=⟨q,0,none⟩) rP).trans pE)))
  all_goals
   have HD:=Hi (ayj hne HB Yy nE XN VW AJ OD hat (s.drop n) Gp rO);clear OD AJ hat au6 au7 qL aut;go_wp2;go_ret;exact⟨_,HD.1,HD.2.1,rfl,HD.2.2⟩
def M7(w:World)(s:List UInt8)(e:Ending)(w':World):Prop:=
 match Dl s with
 |none=>e=.returned (.tuple #[.slice none 0 0,.int .i64 7])∧Bw w w'
 |some l=>∃ v,e=.returned (.tuple #[v,.int .i64 0])∧w'.ownsRow 0 9 1 v l.length (strCells l)∧Bw w w'∧∀ g,v.ownBlock=some g→w.heap.size≤g
theorem LC{w w':World}{s:List UInt8}{e:Ending}(h:Dl s=none)(he:e=.returned (.tuple #[.slice none 0 0,.int .i64 7]))(hb:Bw w w'):M7 w s e w':=by
 unfold M7;rw[h];exact⟨he,hb⟩
theorem lu{w w':World}{s:List UInt8}{l:List (List UInt8)}{e:Ending}{v:Value}(h:Dl s=some l)(he:e=.returned (.tuple #[v,.int .i64 0]))(ho:w'.ownsRow 0 9 1 v l.length (strCells l))(hb:Bw w w')(hg:∀ g,v.ownBlock=some g→w.heap.size≤g):M7 w s e w':=by
 unfold M7;rw[h];exact⟨v,he,ho,hb,hg⟩
theorem eQ{k j:Nat}{s S t:List UInt8}{n:Nat}{l:List (List UInt8)}(hj:j < k)(h:EF k s=(EF (k -j) S).map fun q=>(l++q.1,q.2))(hr:DF S=some (t,n)):
  EF k s=(EF (k -(j+1)) (S.drop n)).map fun q=>((l++[t])++q.1,q.2):=by
 rw[h,show k -j=(k -(j+1))+1 by omega];simp only[EF,hr,CF,Option.map_map]
 congr 1
 funext q
 simp
theorem eO{k j:Nat}{s S:List UInt8}{l:List (List UInt8)}(hj:j < k)(h:EF k s=(EF (k -j) S).map fun q=>(l++q.1,q.2))(hr:DF S=none):EF k s=none:=by
 rw[h,show k -j=(k -(j+1))+1 by omega];simp[EF,hr]
theorem ayl(w:World)(n':Nat)(s S:List UInt8):
  aY ((((w.alloc (.cells #[.string (bs s)] 9)).alloc (.cells #[.slice none 0 0] 61)).drewN n').setCell ⟨w.heap.size,0,none⟩ (.string (bs S))) w.heap.size (w.heap.size+1) S [] (fun k=>k=w.heap.size∨k=w.heap.size+1∨(Value.slice none 0 0).ownBlock=some k)∧
  Bw w ((((w.alloc (.cells #[.string (bs s)] 9)).alloc (.cells #[.slice none 0 0] 61)).drewN n').setCell ⟨w.heap.size,0,none⟩ (.string (bs S))):=by
 have ha:=((Ah (w.heap.size+1) (w.alloc (.cells #[.string (bs s)] 9))).alloc (by rw[Ar];omega) (.cells #[.slice none 0 0] 61));have e1:(((w.alloc (.cells #[.string (bs s)] 9)).alloc (.cells #[.slice none 0 0] 61)).drewN n').heap[w.heap.size]?=some (.cells #[.string (bs s)] 9):=(ha.block w.heap.size (by omega)).trans (AP w _);have e2:(((w.alloc (.cells #[.string (bs s)] 9)).alloc (.cells #[.slice none 0 0] 61)).drewN n').heap[w.heap.size+1]?=some (.cells #[.slice none 0 0] 61):=by
  have:=AP (w.alloc (.cells #[.string (bs s)] 9)) (.cells #[.slice none 0 0] 61);rw[Ar] at this;exact this
 have c1:A7 (fun k=>k=w.heap.size) (((w.alloc (.cells #[.string (bs s)] 9)).alloc (.cells #[.slice none 0 0] 61)).drewN n') ((((w.alloc (.cells #[.string (bs s)] 9)).alloc (.cells #[.slice none 0 0] 61)).drewN n').setCell ⟨w.heap.size,0,none⟩ (.string (bs S))):=(A7.refl (fun k=>k=w.heap.size) _).setCell (p:=⟨w.heap.size,0,none⟩) (.inl rfl) _;refine⟨⟨Cf _ w.heap.size 0 _ _ _ e1,by omega,.slice none 0 0,(c1.block _ (Dm.1 e2).1 (by omega)).trans e2,?_,by simp[Value.ownBlock],by simp[Value.ownBlock],rfl⟩,?_⟩
 ·show World.ownsRow _ 0 _ 1 (.slice none 0 0) 0 (strCells [])
  have e:strCells []=[]:=by unfold strCells;rfl
  rw[e];exact E5 _ _ _ _
 ·exact((((Ah _ w).alloc (Ae _) _).alloc (by rw[Ar];omega) _).trans ((FM _ n').mono (by rw[Ar,Ar];omega))).setCell (p:=⟨w.heap.size,0,none⟩) (Ae _) _
theorem l9(s:List UInt8)(w:World)(hs:s.length≤1000000000):
  Calls prog 203 #[.string (bs s)] w fun e w'=>M7 w s e w':=by
 by_cases h2:s.length < 2
 ·have hR:Hid (Dl s=none):=Hi (by unfold Dl;rw[Ac h2])
  go_in
  go_wp2_with fail;exact EI (v:=.tuple #[.slice none 0 0,.int .i64 7]) (by simp[results,results203,go_sem]) rfl (LC hR.out rfl (((Ah _ w).alloc (Ae _) _).alloc (by rw[Ar];omega) _))
 ·have hv:=val_two s (by omega);have b0:=s[0].toNat_lt;have b1:=s[1].toNat_lt;have hz:(0:Nat) < s.length:=by omega
  have AY:(1:Nat) < s.length:=by omega
  have Ba:(1:Int) < (s.length:Int):=by omega
  have hz3:(2:Int)≤(s.length:Int):=by omega
  have hcut:∀ W,(Instr.slice 9 (.string (bs s)) (some (.int .i64 2)) none none).run prog W=.ok (.string (bs (s.drop 2))) W:=fun W=>Mk prog W 9 underlying9 s 2 (by omega)
  have HV:=Hi hv;clear hv
  go_in
  go_wp2
  go_quiet (fail)
  have e:(s[0].toNat:Int)+(s[1].toNat:Int)*(256:Int)=((s[0].toNat+256*s[1].toNat:Nat):Int):=by omega
  simp only[e];clear e;have JH:s[0].toNat+256*s[1].toNat≤65535:=by omega
  generalize s[0].toNat+256*s[1].toNat=n at*;go_wp2_with fail;have Bl:=fun(n':Nat)=>ayl w n' s (s.drop 2)
  have Bi:=Hi Bl;clear Bl
  go_loopw [21] (fun i wr=>∃ (j:Nat) (S:List UInt8) (l:List (List UInt8)) (fp:Nat→Prop),j≤n∧i=.int .i64 j∧aY wr w.heap.size (w.heap.size+1) S l fp∧l.length=j∧S.length≤s.length∧Bw w wr∧(∀ k,fp k→w.heap.size≤k)∧EF n (s.drop 2)=(EF (n -j) S).map fun q=>(l++q.1,q.2)) (fun i _=>n -(intOf i).toNat)
  case atStart=>
   refine⟨0,s.drop 2,[],_,by omega,rfl,(Bi _).1,rfl,by rw[Cs];omega,(Bi _).2,?_,?_⟩
   ·rintro k (rfl|rfl|hk)
    ·exact Ae _
    ·omega
    ·simp[Value.ownBlock] at hk
   ·simp
  case round=>
   obtain⟨j,S,l,fp,hj,rfl,KU,FN,Px,hb,Gj,Mh⟩:=hrel;have Ic:=Hi KU;have Nt:=Hi FN;have HB:=Hi hb;have Fa:=Hi Gj;have Ej:=Hi Mh;obtain⟨v,hq,hown,XN,VW,aih⟩:=KU.row;have hp:=KU.left;have cp:wr.cell? ⟨w.heap.size,0,none⟩=some (.string (bs S)):=(by rw[BF wr _ _ _ _ _ hp];rfl);have cq:wr.cell? ⟨w.heap.size+1,0,none⟩=some v:=(by rw[BF wr _ _ _ _ _ hq];rfl);have pE:=Cu wr (w.heap.size+1) 0 _ _ hq;have HO:=Hi hown;have HQ:=Hi hq;have xI:=Hi (show ∀ g,v.ownBlock=some g→w.heap.size≤g from fun g hg=>Gj g (by rw[aih];exact .inr (.inr hg)));clear KU FN hb Gj Mh hq hown aih hp;have YY:∀ (o:Option (List (List UInt8))),Dl s=o→Hid (Dl s=o):=fun o h=>Hi h
   have FP:Dl s=(EF n (s.drop 2)).bind fun q=>if q.2=[] then some q.1 else none:=by unfold Dl;rw[Aa h2,HV.out]
   have DT:=Hi FP;clear YY FP;by_cases hlt:j < n
   ·go_wp2_with fail;refine(ayk Ic (by omega) (by rw[Nt.out];omega)).mono ?_;rintro e w2⟨fp2,hu,Lu,rJ⟩;have Ak:=Hi (Cq HB hu Fa HB.size)
    have gK:=Hi (show ∀ k,fp2 k→w.heap.size≤k from fun k hk=>by
     rcases Lu k hk with h|h
     ·exact Fa k h
     ·exact Ay HB.size h)
    clear hu Lu cp cq pE;cases hr:DF S with
    |none=>
     rw[hr] at rJ;obtain⟨rfl,ko⟩:=rJ;obtain⟨v2,Fp,_⟩:=ko.row;have cq2:w2.cell? ⟨w.heap.size+1,0,none⟩=some v2:=(by rw[BF w2 _ _ _ _ _ Fp];rfl);have fq2:=Cu w2 (w.heap.size+1) 0 _ _ Fp;have hR:Hid (Dl s=none):=Hi (by rw[DT.out,eO hlt Ej hr];rfl);have Uq:(w2.setCell ⟨w.heap.size+1,0,none⟩ (.slice none 0 0)).cell? ⟨w.heap.size+1,0,none⟩=some (.slice none 0 0):=cr (Cf w2 _ 0 _ _ _ Fp);clear ko Fp hr;go_wp2_with fail;exact EI (v:=.tuple #[.slice none 0 0,.int .i64 7]) (by simp[results,results203,go_sem,Uq]) rfl (LC hR.out rfl (Ak.setCell (p:=⟨w.heap.size+1,0,none⟩) (by show w.heap.size≤w.heap.size+1;omega) _))
    |some r=>
     obtain⟨t,m⟩:=r;rw[hr] at rJ;obtain⟨rfl,ko⟩:=rJ;have Re:=Hi ko;have YE:=Hi (eQ hlt Ej hr);clear ko hr;go_wp2;go_roundw
     case rel=>exact⟨j+1,S.drop m,l++[t],fp2,by omega,by go_num,Re,by rw[Az,Nt.out];rfl,by rw[Cs];omega,Ak,gK,YE⟩
     case measure=>simp[intOf];omega
   ·obtain rfl:j=n:=(by omega);by_cases hS:S=[]
    ·subst hS;have hR:Hid (Dl s=some l):=Hi (by rw[DT.out,Ej.out,Nat.sub_self];simp[EF]);obtain⟨qv,oF,rfl⟩:=Bp HO.out;have Uq:(wr.setCell ⟨w.heap.size+1,0,none⟩ (.slice qv l.length oF)).cell? ⟨w.heap.size+1,0,none⟩=some (.slice qv l.length oF):=cr (Cf wr _ 0 _ _ _ HQ);go_wp2_with fail;have hu:A7 (fun k=>k=w.heap.size+1) wr (wr.setCell ⟨w.heap.size+1,0,none⟩ (.slice qv l.length oF)):=(A7.refl (fun k=>k=w.heap.size+1) wr).setCell (p:=⟨w.heap.size+1,0,none⟩) (.inl rfl) _;exact EI (v:=.tuple #[.slice qv l.length oF,.int .i64 0]) (by simp[results,results203,go_sem,Uq]) rfl (lu hR.out rfl (BH HO hu (fun g hg e=>VW (by rw[hg,e]))) (HB.setCell (p:=⟨w.heap.size+1,0,none⟩) (by show w.heap.size≤w.heap.size+1;omega) _) xI)
    ·have hR:Hid (Dl s=none):=Hi (by rw[DT.out,Ej.out,Nat.sub_self];simp[EF,hS]);have hne:S.isEmpty=false:=by
      cases S with
      |nil=>exact absurd rfl hS
      |cons=>rfl
     have Uq:(wr.setCell ⟨w.heap.size+1,0,none⟩ (.slice none 0 0)).cell? ⟨w.heap.size+1,0,none⟩=some (.slice none 0 0):=cr (Cf wr _ 0 _ _ _ HQ);clear hS;go_wp2_with fail;exact EI (v:=.tuple #[.slice none 0 0,.int .i64 7]) (by simp[results,results203,go_sem,Uq]) rfl (LC hR.out rfl (HB.setCell (p:=⟨w.heap.size+1,0,none⟩) (by show w.heap.size≤w.heap.size+1;omega) _))
end
section
open Go.RowKit Go.Maps Go.WideMaps
theorem uI{P:Program}{k:TypeId}(hk:P.underlying k=some .string){x:List UInt8}(hx:x.length≤maxLen):keyOf P k (.string (bs x))=some (.string x):=by
 have:=keyOf_string_mk hk (s:=bs x) hx;simpa using this
def DW(kv:List (List UInt8×Value))(i:List UInt8):Option Value:=(kv.find? (fun p=>p.1 == i)).map (·.2)
def J9(i:List UInt8)(kv:List (List UInt8×Value)):List (List UInt8×Value):=kv.filter (fun p=>!(p.1 == i))
def QS(i:List UInt8)(v:Value)(kv:List (List UInt8×Value)):List (List UInt8×Value):=(i,v) :: J9 i kv
theorem azC(i:List UInt8)(kv:List (List UInt8×Value)):DW (J9 i kv) i=none:=by
 unfold DW J9;rw[Option.map_eq_none_iff,List.find?_eq_none];intro p hp;have:=(FQ.1 hp).2;simpa using this
theorem amJ{i j:List UInt8}(h:j≠i)(kv:List (List UInt8×Value)):DW (J9 i kv) j=DW kv j:=by
 unfold DW J9;rw[find_filter_keep];intro p hp;simp at hp ⊢;intro e;exact h (hp.symm.trans e)
theorem amM(i:List UInt8)(v:Value)(kv:List (List UInt8×Value)):DW (QS i v kv) i=some v:=by simp[DW,QS]
theorem amL{i j:List UInt8}(h:j≠i)(v:Value)(kv:List (List UInt8×Value)):DW (QS i v kv) j=DW kv j:=by
 have h2:¬ i=j:=fun e=>h e.symm
 rw[←amJ h kv];simp[DW,QS,h2]
theorem amH{i:List UInt8}{kv:List (List UInt8×Value)}(hn:(kv.map (·.1)).Nodup):(J9 i kv).length+(if(DW kv i).isSome then 1 else 0)=kv.length:=by
 induction kv with
 |nil=>simp[J9,DW]
 |cons p kv ih=>
  simp only[Ce,Ju] at hn;have ih':=ih hn.2;by_cases h:p.1=i
  ·have h0:DW kv i=none:=by
    unfold DW;rw[Option.map_eq_none_iff,List.find?_eq_none];intro q hq;simp;intro e;exact hn.1 (by rw[h,←e];exact Hl hq)
   rw[h0] at ih';have e1:J9 i (p :: kv)=J9 i kv:=(by simp[J9,h]);have e2:DW (p :: kv) i=some p.2:=(by simp[DW,h]);rw[e1,e2];simpa using ih'
  ·have e1:J9 i (p :: kv)=p :: J9 i kv:=(by simp[J9,h]);have e2:DW (p :: kv) i=DW kv i:=(by simp[DW,h]);rw[e1,e2];simp only[BN];omega
theorem amI{i:List UInt8}{kv:List (List UInt8×Value)}(hn:(kv.map (·.1)).Nodup):((J9 i kv).map (·.1)).Nodup:=by
 unfold J9;exact hn.sublist (List.Sublist.map _ List.filter_sublist)
theorem azD{i:List UInt8}{v:Value}{kv:List (List UInt8×Value)}(hn:(kv.map (·.1)).Nodup):((QS i v kv).map (·.1)).Nodup:=by
 simp only[QS,Ce,Ju];refine⟨?_,amI hn⟩;intro h;obtain⟨p,hp,e⟩:=BA.1 h;have:=(FQ.1 hp).2;simp[e] at this
theorem uD{kv:List (List UInt8×Value)}{i:List UInt8}{v:Value}(h:DW kv i=some v):(i,v)∈kv:=by
 unfold DW at h;obtain⟨p,hp,rfl⟩:=Sc.1 h;have h1:=List.find?_some hp;simp at h1;subst h1;exact List.mem_of_find?_eq_some hp
def FU(P:Program)(K:TypeId)(w:World)(m:Nat)(kv:List (List UInt8×Value)):Prop:=
 (kv.map (·.1)).Nodup∧∃ D:DataW Value,w.ownsMap P K Rw m kv.length D∧Tidy D∧size D=kv.length∧∀ i z,D.atKey (.string i) z=(match DW kv i with|some v=>.held v|none=>z)
section
variable {P:Program}{K T E:TypeId}{w:World}{m:Nat}{kv:List (List UInt8×Value)}
theorem FU.lt(h:FU P K w m kv):m < w.heap.size:=h.2.choose_spec.1.lt
theorem FU.made(w:World):FU P K (w.alloc (.map #[] 0)) w.heap.size []:=
 ⟨by simp,.map [],World.ownsMap_made w P K Rw,tidy_empty,rfl,fun i z=>rfl⟩
theorem FU.kept{w':World}(h:FU P K w m kv)(e:w'.heap[m]?=w.heap[m]?):FU P K w' m kv:=by
 obtain⟨hn,D,⟨es,clock,hb,F,hs,hD⟩,rest⟩:=h;exact⟨hn,D,⟨es,clock,e.trans hb,F,hs,hD⟩,rest⟩
theorem FU.upd{F:Nat→Prop}{w':World}(h:FU P K w m kv)(hu:A7 F w w')(hF:¬ F m):FU P K w' m kv:=h.kept (hu.block m h.lt hF)
theorem FU.lookup(h:FU P K w m kv)(hk:P.underlying K=some .string)(ht:P.underlying T=some (.map K E)){z:Value}(hz:(zeroValue E).run P w=.ok z w)(i:List UInt8)(hw:i.length≤maxLen):
  (Instr.lookup T (.map (some m)) (.string (bs i)) false).run P w=.ok ((DW kv i).getD z) w:=by
 obtain⟨_,D,hown,_,_,hat⟩:=h;obtain⟨v,ps,hrun,hv⟩:=hown.lookup (string_keyed hk) ht hz (zd:=.held z) (zp:=[]) rfl (uI hk hw);have e:=hat i (.held z);simp only[Rw,Ci,Mx] at hv;rw[e] at hv;rw[hrun];cases hg:DW kv i with
 |none=>rw[hg] at hv;simp at hv ⊢;exact hv.1
 |some u=>rw[hg] at hv;simp at hv ⊢;exact hv.1
theorem FU.ZK(h:FU P K w m kv)(hk:P.underlying K=some .string)(ht:P.underlying T=some (.map K E)){z:Value}(hz:(zeroValue E).run P w=.ok z w)(i:List UInt8)(hw:i.length≤maxLen):
  (Instr.lookup T (.map (some m)) (.string (bs i)) true).run P w=.ok (.tuple #[(DW kv i).getD z,.bool (DW kv i).isSome]) w:=by
 obtain⟨_,D,⟨es,clock,hb,F,_,rfl⟩,_,_,hat⟩:=h;rcases Maps.fit_look true (string_keyed hk) ht hz hb F (uI hk hw) with⟨hrun,_,h2⟩|⟨e0,y,_,_,hrun,qj,h2,_⟩
 ·cases hg:DW kv i with
  |none=>simpa using hrun
  |some u=>
   have:=hat i .nil;rw[h2 .nil,hg] at this;cases this
 ·cases hg:DW kv i with
  |none=>
   have:=hat i .nil;rw[h2 .nil,hg] at this;simp only[Rw,Ci] at qj;rw[←qj] at this;cases this
  |some u=>
   have:=hat i .nil;rw[h2 .nil,hg] at this;simp only[Rw,Ci] at qj;rw[←qj] at this;simp at this;simpa[this] using hrun
theorem FU.update(h:FU P K w m kv)(hk:P.underlying K=some .string)(ht:P.underlying T=some (.map K E))(i:List UInt8)(hw:i.length≤maxLen)(v:Value)(J2:kv.length < maxLen):
  ∃ w',(Instr.mapUpdate T (.map (some m)) (.string (bs i)) v).run P w=.ok () w'∧FU P K w' m (QS i v kv)∧w.grownBy w' (some m):=by
 obtain⟨hn,D,hown,UD,BL,hat⟩:=h;obtain⟨w',hrun,Ck,hg⟩:=hown.update (string_keyed hk) ht J2 (key:=.string (bs i)) (val:=v) (uI hk hw) (d:=.held v) (ps:=[]) rfl;have JJ:size (D.put (.string i) (.held v))=(QS i v kv).length:=by
  rw[size_put UD,jv (hat i),BL];have:=amH (i:=i) hn;simp only[QS,BN];cases Qx:(DW kv i).isSome<;>simp[Qx] at this ⊢ <;>omega
 refine⟨w',hrun,⟨azD hn,_,?_,UD.put (show WideAt.IsKeyLit (.string i) from trivial) _,JJ,fun j z=>?_⟩,hg⟩
 ·obtain⟨es,clock,hb,F,_,hD⟩:=Ck;refine⟨es,clock,hb,F,?_,hD⟩;rw[←JJ,hD,size_eq,length_sorted];simp
 ·by_cases e:j=i
  ·subst e;rw[atKey_put_same UD.isMap (show WideAt.IsKeyLit (.string j) from trivial),amM]
  ·rw[atKey_put_other (fun e'=>e (by cases e';rfl)),amL e];exact hat j z
theorem FU.delete(h:FU P K w m kv)(hk:P.underlying K=some .string)(ht:P.underlying T=some (.map K E))(i:List UInt8)(hw:i.length≤maxLen)(ty:TypeId):
  ∃ w',(Builtin.delete_ #[T,K] ty #[.map (some m),.string (bs i)]).run P w=.ok (.tuple #[]) w'∧FU P K w' m (J9 i kv)∧w.grownBy w' (some m):=by
 obtain⟨hn,D,hown,UD,BL,hat⟩:=h;obtain⟨es,clock,hb,F,hs,hD⟩:=hown;obtain⟨es',hrun,F',hle,qH,_⟩:=Maps.fit_drop (ty:=ty) (string_keyed hk) ht hb F (uI hk hw);have hD':D.del (.string i)=.map ((es'.toList.map (WideElems.rg P K Rw)).foldr DataW.insert []):=by rw[hD,DataW.del_eq,qH]
 have JJ:size (D.del (.string i))=(J9 i kv).length:=by
  have h1:=size_del (k:=.string i) UD;rw[jv (hat i),BL] at h1;have:=amH (i:=i) hn;cases Qx:(DW kv i).isSome<;>simp[Qx] at this h1<;>omega
 refine⟨_,hrun,⟨amI hn,D.del (.string i),⟨es',clock,ChangeMaps.heap_setBlock_same hb _,F',?_,hD'⟩,UD.del _,JJ,fun j z=>?_⟩,⟨rfl,rfl,rfl,by simp[ChangeMaps.setBlock],fun k _ hk'=>ChangeMaps.heap_setBlock_other hb _ (fun e=>hk' (by rw[e]))⟩⟩
 ·rw[←JJ,hD',size_eq,length_sorted];simp
 ·by_cases e:j=i
  ·subst e;rw[atKey_del_same,azC]
  ·rw[atKey_del_other (fun e'=>e (by cases e';rfl)),amJ e];exact hat j z
end
end
section
open Go.RowKit Go.Maps
open Aq
theorem ado(s:List UInt8)(w:World)(hs:s.length≤100000000):
  Calls prog 163 #[.string (bs s)] w fun e w'=>e=.returned (.string (bs (pad s)))∧Bw w w':=by
 obtain⟨N,hN⟩:∃ N:Nat,N=(s.length+63) / 64*64:=⟨_,rfl⟩;have hq:((s.length:Int)+64 -1) / 64*64=(N:Int):=by omega
 obtain⟨m,hm⟩:∃ m:Nat,m=N -s.length:=⟨_,rfl⟩;have Kb:(N:Int) -(s.length:Int)=(m:Int):=by omega
 have aaV:Hid (pad s=s++List.replicate m 0):=Hi (by unfold pad;rw[←hN,←hm]);have Zo:m≤100:=by omega
 have JH:N≤100000100:=by omega
 obtain⟨C,NS,Ag⟩:=ank w m (by omega);have au1:=Y3 prog (w.alloc (.cells C 5)) 54 5 9 underlying54 underlying5 underlying9 w.heap.size 0 m m (List.replicate m 0) List.length_replicate (fun i h=>by rw[GJ];exact Ag.cell i h);clear Ag hN hm
 go_in
 go_wp2;go_ret;rw[aaV.out];exact⟨rfl,(Ah _ _).alloc (Ae _) _⟩
theorem kS(gen used:Nat)(w:World)(hg:gen < 18446744073709551616)(hu:used < 4294967296):
  Calls prog 147 #[.int .u64 gen,.int .i64 used] w fun e w'=>e=.returned (.string (bs (Aq.mark gen used)))∧Bw w w':=by
 have HG:=Hi hg;have Eu:(used:Int)≤4294967295:=by omega
 have jT:({ data:=#[76,79,71,49] }:ByteArray)=bs [76,79,71,49]:=rfl;clear hg
 go_in
 go_wp2_with fail;refine(ZR gen 8 _ (by have:=HG.out;exact this) (by decide) (by decide)).mono ?_;rintro e w1⟨rfl,Ai⟩;have HB1:=Hi Ai;clear Ai;go_wp2_with fail;refine(ZR used 4 _ hu (by decide) (by decide)).mono ?_;rintro e w2⟨rfl,Ad⟩;have Ak:=bH HB1 Ad;clear Ad;go_wp2_with fail;refine(eZ (76 :: 79 :: 71 :: 49 :: (A9.le 8 gen++A9.le 4 used)) _ (by simp[A9.BV])).mono ?_;rintro e w3⟨rfl,Aw⟩;have AA:=bH Ak Aw;clear Aw;go_wp2_with fail;refine(ado (A9.Fv (76 :: 79 :: 71 :: 49 :: (A9.le 8 gen++A9.le 4 used))) _ (by rw[A9.RU];simp[A9.BV])).mono ?_;rintro e w4⟨rfl,AB⟩;have AU:=bH AA AB;clear AB;go_wp2;go_ret;exact⟨rfl,AU⟩
def JE(l:List (List UInt8)):List UInt8×Int:=match Hu l with|none=>([],5)|some t=>(t,0)
theorem uo{l:List (List UInt8)}{s:List UInt8}(h:Gt l=some s):s.length=rowLen l:=by
 unfold Gt at h;split at h
 ·cases h1:BB l with
  |none=>rw[h1] at h;cases h
  |some a=>
   rw[h1] at h;simp at h;subst h;have:=Wo h1;simp[A9.BV];omega
 ·cases h
theorem bK(l:List (List UInt8))(a:Option Addr)(cap:Nat)(w:World)(hl:Dv w a l)(hlen:l.length≤maxLen)(DC:rowLen l≤10000000):
  Calls prog 134 #[.slice a l.length cap] w fun e w'=>e=.returned (.tuple #[.string (bs (JE l).1),.int .i64 (JE l).2])∧Bw w w':=by
 have HL:=Hi hl;have Gx:=Hi hlen;clear hl hlen;cases hr:Gt l with
 |none=>
  have hR:D5 l=([],5):=by unfold D5;rw[hr]
  have hG:JE l=([],5):=by unfold JE Hu;rw[hr];rfl
  have HR:=Hi hR;rw[hG];clear hr hR hG
  go_in
  go_wp2_with fail;refine(al6 l a cap w HL Gx (by omega)).mono ?_;rw[HR.out];rintro e w1⟨rfl,hb⟩;have HB:=Hi hb;clear hb;go_wp2;go_ret2;exact⟨rfl,HB⟩
 |some s=>
  have hR:D5 l=(s,0):=by unfold D5;rw[hr]
  have hG:JE l=(pad (A9.le 4 s.length++s),0):=by unfold JE Hu;rw[hr];rfl
  have CZ:=uo hr;have Vk:=Hi DC;have HR:=Hi hR;rw[hG];clear hr hR hG;rw[←CZ] at DC;clear CZ
  go_in
  go_wp2_with fail;refine(al6 l a cap w HL Gx (by have:=Vk.out;omega)).mono ?_;rw[HR.out];rintro e w1⟨rfl,hb⟩;have HB:=Hi hb;clear hb;go_wp2_with fail;refine(ZR s.length 4 _ (by omega) (by decide) (by decide)).mono ?_;rintro e w2⟨rfl,Ad⟩;have Ak:=bH HB Ad;clear Ad;go_wp2_with fail;refine(ado (A9.le 4 s.length++s) _ (by simp[A9.BV];omega)).mono ?_;rintro e w3⟨rfl,Aw⟩;have AA:=bH Ak Aw;clear Aw;go_wp2;go_ret2;exact⟨rfl,AA⟩
end
section
open Go.RowKit Go.Maps
open Aq
theorem O1(P:Program)(W:World)(t:TypeId)(hu:P.underlying t=some .string)(s:List UInt8)(hi:Nat)(h2:hi≤s.length):
  (Instr.slice t (.string (bs s)) none (some (.int .i64 (hi:Int))) none).run P W=.ok (.string (bs (s.take hi))) W:=by
 have g2:(hi:Int)≤(s.length:Int):=by omega
 simp[Instr.slice,GK hu,Instr.sliceBounds,run_sliceBound,go_sem,g2]
theorem ams(P:Program)(W:World)(t:TypeId)(hu:P.underlying t=some .string)(s:List UInt8)(lo hi:Nat)(h1:lo≤hi)(h2:hi≤s.length):
  (Instr.slice t (.string (bs s)) (some (.int .i64 (lo:Int))) (some (.int .u64 (hi:Int))) none).run P W=.ok (.string (bs ((s.take hi).drop lo))) W:=by
 have g2:(hi:Int)≤(s.length:Int):=by omega
 simp[Instr.slice,GK hu,Instr.sliceBounds,run_sliceBound,go_sem,h1,g2]
theorem uM{w:World}{base:Nat}{v:Value}{l:List (List UInt8)}(h:w.ownsRow base 9 1 v l.length (strCells l)):∃ a cap,v=.slice a l.length cap∧Dv w a l:=by
 rcases h.2 with⟨e1,e2⟩|⟨g,cap,cur,e1,_⟩
 ·exact⟨none,0,by rw[e1,e2],fun i hi=>by omega⟩
 ·subst e1;refine⟨_,cap,rfl,fun i hi=>⟨⟨g,0,none⟩,rfl,?_⟩⟩;exact h.cells (g:=g) rfl i _ (Y8 l i hi)
def aX(w:World)(s:List UInt8)(e:Ending)(w':World):Prop:=
 match KY s with
 |none=>e=.returned (.tuple #[.slice none 0 0,.int .i64 0,.bool false])∧Bw w w'
 |some (l,k)=>∃ v,e=.returned (.tuple #[v,.int .i64 (k:Int),.bool true])∧w'.ownsRow 0 9 1 v l.length (strCells l)∧Bw w w'∧∀ g,v.ownBlock=some g→w.heap.size≤g
theorem tF{w w':World}{s:List UInt8}{e:Ending}(h:KY s=none)(he:e=.returned (.tuple #[.slice none 0 0,.int .i64 0,.bool false]))(hb:Bw w w'):aX w s e w':=by
 unfold aX;rw[h];exact⟨he,hb⟩
theorem axu{w w':World}{s:List UInt8}{l:List (List UInt8)}{k:Nat}{e:Ending}{v:Value}(h:KY s=some (l,k))(he:e=.returned (.tuple #[v,.int .i64 (k:Int),.bool true]))(ho:w'.ownsRow 0 9 1 v l.length (strCells l))(hb:Bw w w')(hg:∀ g,v.ownBlock=some g→w.heap.size≤g):aX w s e w':=by
 unfold aX;rw[h];exact⟨v,he,ho,hb,hg⟩
theorem asY{s:List UInt8}{l:List (List UInt8)}(h4:4≤s.length)(hv:A9.val (s.take 4)≤s.length -4)(h:Dl ((s.take (4+A9.val (s.take 4))).drop 4)=some l):Hu l=some (pad (s.take (4+A9.val (s.take 4))))∧rowLen l=A9.val (s.take 4):=by
 have hr:=lh h;have hl:((s.take (4+A9.val (s.take 4))).drop 4).length=A9.val (s.take 4):=by rw[Cs,Be];omega
 refine⟨?_,by rw[←uo hr,hl]⟩;unfold Hu;rw[hr];simp only[EP];rw[hl];have e:A9.le 4 (A9.val (s.take 4))=s.take 4:=by
  have:=A9.kN (s.take 4);rwa[Be,Jc h4] at this
 rw[e];generalize A9.val (s.take 4)=v at*;have h3:s.take 4=(s.take (4+v)).take 4:=by rw[List.take_take,Jc (by omega)]
 rw[h3,Mw]
theorem axv(s:List UInt8)(w:World)(hs:s.length≤10000000)(VC:s.length % 64=0):
  Calls prog 164 #[.string (bs s)] w fun e w'=>aX w s e w':=by
 by_cases h0:s.length < 64
 ·have hN:Hid (KY s=none):=Hi (by unfold KY;rw[Ac h0])
  go_in
  go_wp2;go_ret3;exact tF hN.out rfl (Ah _ _)
 ·have Md:∀ W,(Instr.slice 9 (.string (bs s)) none (some (.int .i64 4)) none).run prog W=.ok (.string (bs (s.take 4))) W:=fun W=>O1 prog W 9 underlying9 s 4 (by omega)
  have KQ:(s.take 4).length=4:=by rw[Be];omega
  have hv:=A9.Jb (s.take 4);rw[KQ] at hv;have NN:=fun(W:World)=>X9 (s.take 4) W (by omega) (by omega)
  have hG:=fun(l:List (List UInt8))=>@asY s l
  have Qr:KY s=if A9.val (s.take 4)≤s.length -4 then
   (Dl ((s.take (4+A9.val (s.take 4))).drop 4)).bind fun l=>
    if pad (s.take (4+A9.val (s.take 4)))=s.take (pad (s.take (4+A9.val (s.take 4)))).length then some (l,(pad (s.take (4+A9.val (s.take 4)))).length) else none
   else none:=by unfold KY;rw[Aa h0]
  generalize A9.val (s.take 4)=v at*;have abp:v < 4294967296:=hv;have La:=Hi NN;have HG:=Hi hG;have Jr:IntKind.u64.wrap ((s.length:Int) -4)=(s.length:Int) -4:=IntWalk.u64_in _ (by omega);clear KQ hv NN hG;by_cases XO:v≤s.length -4
  ·rw[Ac XO] at Qr;have hvi:(v:Int)≤(s.length:Int) -4:=(by omega);have Kh:IntKind.u64.wrap (4+(v:Int))=4+(v:Int):=IntWalk.u64_in _ (by omega);have hcu:∀ W,(Instr.slice 9 (.string (bs s)) (some (.int .i64 4)) (some (.int .u64 (4+(v:Int)))) none).run prog W=.ok (.string (bs ((s.take (4+v)).drop 4))) W:=fun W=>by
    have:=ams prog W 9 underlying9 s 4 (4+v) (by omega) (by omega);rw[Int.natCast_add] at this;exact this
   cases hr:Dl ((s.take (4+v)).drop 4) with
   |none=>
    have hN:Hid (KY s=none):=Hi (by rw[Qr,hr];rfl);have HR:=Hi hr;clear Qr hr
    go_in
    go_wp2_with fail;refine(La _).mono ?_;rintro e w1⟨rfl,rfl⟩;go_wp2_with fail;refine(l9 ((s.take (4+v)).drop 4) _ (by rw[Cs,Be];omega)).mono ?_;intro e w1 hp;unfold M7 at hp;rw[HR.out] at hp;obtain⟨rfl,hb⟩:=hp;have HB:=Hi hb;clear hb;go_wp2;go_ret3;exact tF hN.out rfl HB.out
   |some l=>
    obtain⟨IG,Mg⟩:=HG l (by omega) XO hr;have Td:JE l=(pad (s.take (4+v)),0):=(by unfold JE;rw[IG]);have HGV:=Hi Td;have HR:=Hi hr;have Ga:=Hi Mg;rw[hr] at Qr;simp only[CF] at Qr;have NU:(pad (s.take (4+v))).length≤s.length:=(by rw[RN,Be];omega);have hct:∀ W,(Instr.slice 9 (.string (bs s)) none (some (.int .i64 ((pad (s.take (4+v))).length:Int))) none).run prog W=.ok (.string (bs (s.take (pad (s.take (4+v))).length))) W:=fun W=>O1 prog W 9 underlying9 s _ NU
    have FN:l.length≤100000000:=by
     have:=Ga.out;unfold rowLen at this;have h2:∀ (l:List (List UInt8)),l.length≤(l.map fun s=>2+s.length).sum:=by
      intro l
      induction l with
      |nil=>simp
      |cons x l ih=>simp;omega
     have:=h2 l;omega
    clear hr Td IG Mg;generalize pad (s.take (4+v))=t at*;by_cases J3:t=s.take t.length
    ·rw[Ac J3] at Qr;have Dh:=Hi Qr;have hbt:(t == s.take t.length)=true:=(by rw[←J3];simp);have U3:=Hi J3;clear Qr J3
     go_in
     go_wp2_with fail;refine(La _).mono ?_;rintro e w1⟨rfl,rfl⟩;go_wp2_with fail;refine(l9 ((s.take (4+v)).drop 4) _ (by rw[Cs,Be];omega)).mono ?_;intro e w1 hp;unfold M7 at hp;rw[HR.out] at hp;obtain⟨vv,rfl,ho,hb,hn⟩:=hp;obtain⟨qa,ca,rfl,GD⟩:=uM ho;have HB:=Hi hb;have HO:=Hi ho;have HN:=Hi hn;have YK:=Hi GD;clear hb ho hn GD;go_wp2_with fail;refine(bK l qa ca _ YK (by unfold maxLen;omega) (by rw[Ga.out];omega)).mono ?_;rw[HGV.out];rintro e w2⟨rfl,Ad⟩;have Ak:=Hi Ad;clear Ad;go_wp2;go_ret3;exact axu Dh rfl (BH HO (ub Ak) (fun _ _ f=>f)) (bT HB Ak) HN.out
    ·rw[Aa J3] at Qr;have Dh:=Hi Qr;have hbt:(t == s.take t.length)=false:=(by simp[J3]);have U3:=Hi J3;clear Qr J3
     go_in
     go_wp2_with fail;refine(La _).mono ?_;rintro e w1⟨rfl,rfl⟩;go_wp2_with fail;refine(l9 ((s.take (4+v)).drop 4) _ (by rw[Cs,Be];omega)).mono ?_;intro e w1 hp;unfold M7 at hp;rw[HR.out] at hp;obtain⟨vv,rfl,ho,hb,hn⟩:=hp;obtain⟨qa,ca,rfl,GD⟩:=uM ho;have HB:=Hi hb;have HO:=Hi ho;have HN:=Hi hn;have YK:=Hi GD;clear hb ho hn GD;go_wp2_with fail;refine(bK l qa ca _ YK (by unfold maxLen;omega) (by rw[Ga.out];omega)).mono ?_;rw[HGV.out];rintro e w2⟨rfl,Ad⟩;have Ak:=Hi Ad;clear Ad;go_wp2;go_ret3;exact tF Dh rfl (bT HB Ak)
  ·have hN:Hid (KY s=none):=Hi (by rw[Qr,Aa XO]);have hvi:(s.length:Int) -4 < (v:Int):=(by omega);clear Qr
   go_in
   go_wp2_with fail;refine(La _).mono ?_;rintro e w1⟨rfl,rfl⟩;go_wp2;go_ret3;exact tF hN.out rfl (Ah _ _)
end
section
open Go.RowKit Go.Maps
end
section
open Go.RowKit Go.Maps
section
variable {B:Nat}{w0 w:World}{b:Nat}{D:A8}{fp:Nat→Prop}
end
end
section
open Go.RowKit Go.WideShapes Go.ChangeShapes Go.Deep
theorem ac5{cs:List Value}{n:Nat}(hl:cs.length=n)(j:Nat)(hj:j < n):(cs.drop j).take 1=[cs[j]'(by omega)]:=by
 rw[QY (by omega)];rfl
end
section
open Go.RowKit Go.WideShapes Go.ChangeShapes Go.Deep
end
section
open Go.RowKit Go.Maps
end
section
open Go.RowKit Go.Maps
end
section
open Go.RowKit Go.Maps
section
variable {B:Nat}{w0 w w':World}{b r:Nat}{D D' R R':A8}{fp fp' fr fr':Nat→Prop}
end
section
variable {B:Nat}{w0 w:World}{b r:Nat}{D R:A8}{fp fr:Nat→Prop}
end
end
section
open Go.RowKit Go.Maps
section
variable {B:Nat}{w0 w:World}{b r:Nat}{D R:A8}{fp fr:Nat→Prop}
end
end
section
namespace A8
theorem aBu(D:A8)(a:Nat)(s:List UInt8)(n:Nat):(writes D a s n).1.loose.length≤D.loose.length+n:=by
 induction n generalizing D a s with
 |zero=>exact Ae _
 |succ n ih=>
  simp only[writes];split
  ·show D.loose.length≤_;omega
  ·have:=ih { D with loose:=D.loose++[(a,s.take 64)],left:=max (D.left -1) (-1) } (a+1) (s.drop 64);have e:(D.loose++[(a,s.take 64)]).length=D.loose.length+1:=(by simp);simp only[e] at this;omega
theorem TJ(D:A8)(a:Int)(s:List UInt8):(D.write a s).1.loose.length≤D.loose.length+s.length / 64:=by
 unfold write;split
 ·exact Nat.le_add_right _ _
 ·split
  ·exact aBu _ _ _ _
  ·exact Nat.le_add_right _ _
theorem Uh(D:A8):D.flush.1.loose.length≤D.loose.length:=by unfold flush;split<;>simp
end A8
end
section
open Go.RowKit Go.Maps
end
section
open Go.RowKit Go.Maps
theorem BI.kinds{w:World}{b:Nat}{D:A8}{fp:Nat→Prop}(h:BI w b D fp)(k:Nat)(hk:fp k):¬ Bf w k 9∧¬ Bf w k 61:=by
 obtain⟨m,lv,hI,rfl⟩:=h;have key:∀ t,(t=9∨t=61)→¬ Bf w k t:=by
  rintro t ht⟨cs,fr,hb⟩;rcases hk with rfl|rfl|hk
  ·rw[hI.struct] at hb;injection hb with hb
   injection hb with _ hb _
   subst hb;rcases ht with ht|ht<;>cases ht
  ·obtain⟨kv,⟨_,D',⟨es,clock,hm,_⟩,_⟩,_⟩:=hI.base;rw[hm] at hb;injection hb with hb
   cases hb
  ·rcases hI.loose.2 with⟨e1,_⟩|⟨g,cap,cur,e1,_,hg,_⟩
   ·subst e1;simp[Value.ownBlock] at hk
   ·subst e1;simp[Value.ownBlock] at hk;subst hk;rw[hg] at hb;injection hb with hb
    injection hb with _ hb _
    subst hb;rcases ht with ht|ht<;>cases ht
 exact⟨key _ (.inl rfl),key _ (.inr rfl)⟩
section
variable {B:Nat}{w0 w w':World}{b g1 g2 n:Nat}{D D':A8}{fp fp':Nat→Prop}{A K:List (List (List UInt8))}
end
end
section
open Go.RowKit Go.Maps
open Aq
def JA(w:World)(v:Value)(l:List (List UInt8)):Prop:=
 ∃ a cap,v=.slice a l.length cap∧∀ i (h:i < l.length),∃ g o,a=some ⟨g,o,none⟩∧Bf w g 9∧w.cell? ⟨g,o+i,none⟩=some (.string (bs l[i]))
theorem JA.upd{F:Nat→Prop}{w w':World}{v:Value}{l:List (List UInt8)}(h:JA w v l)(hu:A7 F w w')(hF:∀ k,Bf w k 9→¬ F k):JA w' v l:=by
 obtain⟨a,cap,e,h⟩:=h;refine⟨a,cap,e,fun i hi=>?_⟩;obtain⟨g,o,e1,e2,e3⟩:=h i hi;exact⟨g,o,e1,e2.upd hu (hF g e2),(hu.cell (p:=⟨g,o+i,none⟩) e2.lt (hF g e2)).trans e3⟩
theorem JA.texts{w:World}{v:Value}{l:List (List UInt8)}(h:JA w v l):∃ a cap,v=.slice a l.length cap∧Dv w a l:=by
 obtain⟨a,cap,e,h⟩:=h;refine⟨a,cap,e,fun i hi=>?_⟩;obtain⟨g,o,e1,_,e3⟩:=h i hi;exact⟨⟨g,o,none⟩,e1,by rw[Vs];exact e3⟩
theorem JA.D9{w:World}{base:Nat}{v:Value}{l:List (List UInt8)}(h:w.ownsRow base 9 1 v l.length (strCells l)):JA w v l:=by
 rcases h.2 with⟨e1,e2⟩|⟨g,cap,cur,e1,_,hg,_⟩
 ·exact⟨none,0,by rw[e1,e2],fun i hi=>by omega⟩
 ·subst e1;refine⟨_,cap,rfl,fun i hi=>⟨g,0,rfl,⟨_,_,hg⟩,?_⟩⟩;have:=h.cells (g:=g) rfl i _ (Y8 l i hi);rw[add_plain] at this;rw[GJ];exact this
def Kv(w:World)(v:Value)(L:List (List (List UInt8))):Prop:=
 ∃ cs:List Value,w.ownsRow 0 61 1 v L.length cs∧cs.length=L.length∧(∀ u∈cs,u.oneCell'=true)∧∀ i (h:i < L.length) (h':i < cs.length),JA w cs[i] L[i]
theorem Kv.upd{F:Nat→Prop}{w w':World}{v:Value}{L:List (List (List UInt8))}(h:Kv w v L)(hu:A7 F w w')(hF:∀ k,Bf w k 9→¬ F k)(hG:∀ g,v.ownBlock=some g→¬ F g):Kv w' v L:=by
 obtain⟨cs,h1,h2,h3,h4⟩:=h;exact⟨cs,BH h1 hu hG,h2,h3,fun i hi qO=>(h4 i hi qO).upd hu hF⟩
theorem Kv.none(w:World):Kv w (.slice none 0 0) []:=⟨[],E5 _ _ _ _,rfl,by simp,fun i hi=>by simp at hi⟩
structure Bz where
 from_:Nat
 n:Nat
 gen:Nat
 used:Nat
 groups:List (List (List UInt8))
 fault:Int
def anI(L:Bz)(b:Nat)(gv:Value):Array Value:=#[.int .u64 (L.gen:Int),.int .i64 (L.used:Int),.pointer (some ⟨b,0,none⟩),.int .i64 (L.from_:Int),.int .i64 (L.n:Int),gv,.int .i64 L.fault]
structure Cj(w:World)(x b:Nat)(gv:Value)(L:Bz):Prop where
 struct:w.heap[x]?=some (.cells (anI L b gv) 224)
 groups:Kv w gv L.groups
 gen:L.gen < 18446744073709551616
 used:L.used+1≤L.n
 n:L.from_+L.n≤16384
def BP(x:Nat)(gv:Value)(k:Nat):Prop:=k=x∨gv.ownBlock=some k
theorem Cj.cells{w:World}{x b:Nat}{gv:Value}{L:Bz}(h:Cj w x b gv L):
  w.cell? ⟨x,0,none⟩=some (.int .u64 (L.gen:Int))∧w.cell? ⟨x,1,none⟩=some (.int .i64 (L.used:Int))∧w.cell? ⟨x,2,none⟩=some (.pointer (some ⟨b,0,none⟩))∧w.cell? ⟨x,3,none⟩=some (.int .i64 (L.from_:Int))∧
  w.cell? ⟨x,4,none⟩=some (.int .i64 (L.n:Int))∧w.cell? ⟨x,5,none⟩=some gv∧w.cell? ⟨x,6,none⟩=some (.int .i64 L.fault)∧∀ j,w.frozen? ⟨x,j,none⟩=false:=by
 refine⟨?_,?_,?_,?_,?_,?_,?_,fun j=>Cu w x j _ _ h.struct⟩<;>rw[BF w x _ _ _ _ h.struct]<;>rfl
theorem Cj.lt{w:World}{x b:Nat}{gv:Value}{L:Bz}(h:Cj w x b gv L):∀ k,BP x gv k→k < w.heap.size:=by
 rintro k (rfl|hk)
 ·exact Ao h.struct
 ·obtain⟨cs,h1,_⟩:=h.groups;exact ZP h1 hk
theorem Cj.ne{w:World}{x b:Nat}{gv:Value}{L:Bz}(h:Cj w x b gv L):gv.ownBlock≠some x:=fun e=>by
 obtain⟨cs,h1,_⟩:=h.groups;exact Bf.ne (CB h1 e) ⟨_,_,h.struct⟩ (by decide) rfl
theorem Cj.upd{F:Nat→Prop}{w w':World}{x b:Nat}{gv:Value}{L:Bz}(h:Cj w x b gv L)(hu:A7 F w w')(hF:∀ k,Bf w k 9→¬ F k)(hG:∀ k,BP x gv k→¬ F k):Cj w' x b gv L:=
 ⟨(hu.block x (Ao h.struct) (hG x (.inl rfl))).trans h.struct,h.groups.upd hu hF (fun g hg=>hG g (.inr hg)),h.gen,h.used,h.n⟩
theorem Cj.below{w w':World}{x b:Nat}{gv:Value}{L:Bz}(h:Cj w x b gv L)(hb:Bw w w'):Cj w' x b gv L:=h.upd (ub hb) (fun _ _ f=>f) (fun _ _ f=>f)
theorem BI.aw5{w:World}{b:Nat}{D:A8}{fp:Nat→Prop}(h:BI w b D fp)(k:Nat)(hk:fp k):¬ Bf w k 224:=by
 obtain⟨m,lv,hI,rfl⟩:=h;rintro⟨cs,fr,hb⟩;rcases hk with rfl|rfl|hk
 ·rw[hI.struct] at hb;injection hb with hb
  injection hb with _ hb _
  cases hb
 ·obtain⟨kv,⟨_,D',⟨es,clock,hm,_⟩,_⟩,_⟩:=hI.base;rw[hm] at hb;injection hb with hb
  cases hb
 ·rcases hI.loose.2 with⟨e1,_⟩|⟨g,cap,cur,e1,_,hg,_⟩
  ·subst e1;simp[Value.ownBlock] at hk
  ·subst e1;simp[Value.ownBlock] at hk;subst hk;rw[hg] at hb;injection hb with hb
   injection hb with _ hb _
   cases hb
theorem Cj.disk{w w':World}{x b b':Nat}{gv:Value}{L:Bz}{D:A8}{fp:Nat→Prop}(h:Cj w x b gv L)(hd:BI w b' D fp)(hu:A7 fp w w'):Cj w' x b gv L:=
 h.upd hu (fun k hk hf=>(hd.kinds k hf).1 hk) (fun k hk hf=>by
  rcases hk with rfl|hk
  ·exact hd.aw5 k hf ⟨_,_,h.struct⟩
  ·obtain⟨cs,h1,_⟩:=h.groups;exact(hd.kinds k hf).2 (CB h1 hk))
theorem JA.one{w:World}{v:Value}{l:List (List UInt8)}(h:JA w v l):v.oneCell'=true:=by
 obtain⟨a,cap,rfl,_⟩:=h;rfl
theorem Cj.pushed{w w1 w2:World}{x b:Nat}{gv lv v':Value}{L:Bz}{l:List (List UInt8)}{cs:List Value}(h:Cj w x b gv L)(hl:JA w lv l)
  (BJ:cs.length=L.groups.length)(Gi:∀ u∈cs,u.oneCell'=true)(Uq:∀ i (h:i < L.groups.length) (h':i < cs.length),JA w cs[i] L.groups[i])
  (hb:Bw w w1)(AJ:w1.grownBy w2 gv.ownBlock)(hown:w2.ownsRow 0 61 1 v' (L.groups.length+1) (cs++[lv]))(hat:v'.ownBlock=gv.ownBlock∨v'.ownBlock=some w1.heap.size):
  Cj (w2.setCell ⟨x,5,none⟩ v') x b v' { L with groups:=L.groups++[l] }∧A7 (BP x gv) w (w2.setCell ⟨x,5,none⟩ v')∧Di (BP x gv) (BP x v') w:=by
 have hx:=Ao h.struct;have BL:=hb.size;have u1:A7 (fun k=>gv.ownBlock=some k) w w2:=(A7.of_below hb).trans (A7.of_grownBy (F:=fun k=>gv.ownBlock=some k) AJ (fun k e=>e)) (fun k hk=>.inl hk);have Lu:w2.heap[x]?=some (.cells (anI L b gv) 224):=(u1.block x hx (fun e=>h.ne e)).trans h.struct;have NM:∀ k,Bf w k 9→¬ gv.ownBlock=some k:=fun k hk e=>by
  obtain⟨cs',h1,_⟩:=h.groups;exact Bf.ne hk (CB h1 e) (by decide) rfl
 have JK:v'.ownBlock≠some x:=fun e=>by
  rcases hat with hat|hat
  ·exact h.ne (by rw[←hat,e])
  ·rw[e] at hat;have:=Gu hat;omega
 have c1:A7 (fun k=>k=x) w2 (w2.setCell ⟨x,5,none⟩ v'):=(A7.refl (fun k=>k=x) w2).setCell (p:=⟨x,5,none⟩) (.inl rfl) _;have keep:∀ v l,JA w v l→JA (w2.setCell ⟨x,5,none⟩ v') v l:=fun v l hr=>(hr.upd u1 NM).upd c1 (fun k hk e=>by subst e;exact Bf.ne hk ⟨_,_,Lu⟩ (by decide) rfl)
 refine⟨⟨Cf w2 x 5 _ _ v' Lu,⟨cs++[lv],?_,by simp[BJ],?_,fun i hi qO=>?_⟩,h.gen,h.used,h.n⟩,?_,?_⟩
 ·show World.ownsRow _ 0 _ 1 v' (L.groups++[l]).length _
  rw[Az];exact BH hown c1 (fun g hg e=>JK (by rw[hg,e]))
 ·intro u hu;rcases EG.1 hu with hu|hu
  ·exact Gi u hu
  ·rw[FC] at hu;subst hu;exact hl.one
 ·by_cases hlt:i < L.groups.length
  ·show JA _ _ (L.groups++[l])[i]
   rw[List.getElem_append_left (by omega),List.getElem_append_left hlt];exact keep _ _ (Uq i hlt (by omega))
  ·have Oz:i < (L.groups++[l]).length:=hi;rw[Az,Kn] at Oz;have e:i=L.groups.length:=by omega
   show JA _ _ (L.groups++[l])[i]
   rw[List.getElem_append_right (by omega),List.getElem_append_right (by omega)];simp only[List.getElem_singleton];exact keep _ _ hl
 ·exact(u1.mono (fun k e=>.inr e)).setCell (p:=⟨x,5,none⟩) (.inl (.inl rfl)) _
 ·rintro k (rfl|hk)
  ·exact .inl (.inl rfl)
  ·rcases hat with hat|hat
   ·exact .inl (.inr (by rw[←hat];exact hk))
   ·rw[hat] at hk;have:=Gu hk;exact .inr (by omega)
end
namespace Aq
open A9 (le val Fv)
theorem Yf(n v:Nat)(h:v < 256 ^ n):val (le n v)=v:=by rw[A9.uV,Nat.mod_eq_of_lt h]
theorem ayw{t a:List UInt8}(R:List UInt8)(h:Em t=some a):DF (a++R)=some (t,a.length):=by
 unfold Em at h;split at h
 ·rename_i hl
  simp only[Ci] at h;subst h;have h1:(le 2 t.length).length=2:=A9.BV _ _;have h2:((le 2 t.length++t)++R).take 2=le 2 t.length:=by rw[Dy,IP h1]
  unfold DF;rw[Aa (by simp[h1]),h2,Yf 2 _ (by show t.length < 65536;omega),Ac (by simp[h1])];have h3:((le 2 t.length++t)++R).take (2+t.length)=le 2 t.length++t:=IP (by simp[h1]);rw[h3,Mt h1];simp[h1]
 ·cases h
theorem alV:∀ (l:List (List UInt8)) (a R:List UInt8),BB l=some a→EF l.length (a++R)=some (l,R)
 |[],a,R,h=>by
  simp only[BB,Ci] at h;subst h;rfl
 |t :: l,a,R,h=>by
  simp only[BB] at h;cases h1:Em t with
  |none=>rw[h1] at h;cases h
  |some x=>
   rw[h1] at h;simp only[CF] at h;cases h2:BB l with
   |none=>rw[h2] at h;cases h
   |some y=>
    rw[h2] at h;simp only[EP,Ci] at h;subst h;simp only[BN,EF];rw[Dy,ayw _ h1];simp only[CF];rw[Mt rfl,alV l y R h2];rfl
theorem alT{l:List (List UInt8)}{a:List UInt8}(h:Gt l=some a):Dl a=some l:=by
 unfold Gt at h;split at h
 ·rename_i hl
  cases h1:BB l with
  |none=>rw[h1] at h;cases h
  |some y=>
   rw[h1] at h;simp only[EP,Ci] at h;subst h;have h2:(le 2 l.length).length=2:=A9.BV _ _;unfold Dl;rw[Aa (by simp[h2]),IP h2,Yf 2 _ (by show l.length < 65536;omega),Mt h2];have:=alV l y [] h1;rw[En] at this;rw[this];rfl
 ·cases h
theorem pR{l:List (List UInt8)}{s:List UInt8}(h:Hu l=some s):∃ a,Gt l=some a∧s=pad (le 4 a.length++a):=by
 unfold Hu at h;cases h1:Gt l with
 |none=>rw[h1] at h;cases h
 |some a=>
  rw[h1] at h;simp only[EP,Ci] at h;exact⟨a,rfl,h.symm⟩
theorem iZ{l:List (List UInt8)}{s:List UInt8}(h:Hu l=some s):s.length % 64=0∧64≤s.length:=by
 obtain⟨a,_,rfl⟩:=pR h;have:=RN (le 4 a.length++a);simp only[Az,A9.BV] at this;constructor
 ·exact alc _
 ·rw[this];omega
theorem axr{l:List (List UInt8)}{s:List UInt8}(h:Hu l=some s)(hb:s.length < 4294967296)(R:List UInt8):KY (s++R)=some (l,s.length):=by
 obtain⟨VC,h0⟩:=iZ h;obtain⟨a,ha,rfl⟩:=pR h;have KQ:(le 4 a.length).length=4:=A9.BV _ _;have Gp:=RN (le 4 a.length++a);rw[Az,KQ] at Gp;obtain⟨z,hz⟩:∃ z,pad (le 4 a.length++a)=le 4 a.length++a++z:=⟨_,rfl⟩;have e4:(pad (le 4 a.length++a)++R).take 4=le 4 a.length:=by rw[hz,Dy,Dy,IP KQ]
 have hv:val (le 4 a.length)=a.length:=Yf 4 _ (by show a.length < 4294967296;omega);have e5:(pad (le 4 a.length++a)++R).take (4+a.length)=le 4 a.length++a:=by rw[hz,Dy,IP (by rw[Az,KQ])]
 unfold KY;rw[e4,hv,e5,Aa (by rw[Az];omega),Ac (by rw[Az];omega),Mt KQ,alT ha];simp only[CF];rw[IP rfl,Ac rfl]
def KN:List (List (List UInt8))→Option (List UInt8)
 |[]=>some []
 |l :: L=>(Hu l).bind fun a=>(KN L).map (a++ ·)
theorem at1{L:List (List (List UInt8))}{S:List UInt8}(h:KN L=some S){l:List (List UInt8)}{s:List UInt8}(hl:Hu l=some s):KN (L++[l])=some (S++s):=by
 induction L generalizing S with
 |nil=>
  simp only[KN,Ci] at h;subst h;simp[KN,hl]
 |cons t L ih=>
  simp only[KN] at h;cases h1:Hu t with
  |none=>rw[h1] at h;cases h
  |some a=>
   rw[h1] at h;simp only[CF] at h;cases h2:KN L with
   |none=>rw[h2] at h;cases h
   |some b=>
    rw[h2] at h;simp only[EP,Ci] at h;subst h;simp only[Hf,KN,h1,ih h2,CF,EP,Dy]
theorem axt{S:List UInt8}{l:List (List UInt8)}{k:Nat}(h:KY S=some (l,k)):Hu l=some (S.take k):=by
 unfold KY at h;split at h
 ·cases h
 ·split at h
  ·rename_i h0 hv
   cases h1:Dl ((S.take (4+val (S.take 4))).drop 4) with
   |none=>rw[h1] at h;cases h
   |some q=>
    rw[h1] at h;simp only[CF] at h;split at h
    ·rename_i h3
     simp only[Ci,Mx] at h;obtain⟨rfl,rfl⟩:=h;have hr:=lh h1;have hl:((S.take (4+val (S.take 4))).drop 4).length=val (S.take 4):=(by rw[Cs,Be];omega);unfold Hu;rw[hr];simp only[EP];rw[hl];have e:le 4 (val (S.take 4))=S.take 4:=by
      have:=A9.kN (S.take 4);rwa[Be,Jc (by omega)] at this
     rw[e];have h5:S.take 4++(S.take (4+val (S.take 4))).drop 4=S.take (4+val (S.take 4)):=by
      generalize val (S.take 4)=v at*;have h6:S.take 4=(S.take (4+v)).take 4:=(by rw[List.take_take,Jc (by omega)]);rw[h6,Mw]
     rw[h5,←h3]
    ·cases h
  ·cases h
theorem alS:∀ (f:Nat) (S:List UInt8) (L:List (List (List UInt8))),J8 f S=some L→KN L=some S
 |0,S,L,h=>by
  simp only[J8] at h;split at h
  ·rename_i e
   simp only[Ci] at h;subst h;subst e;rfl
  ·cases h
 |f+1,S,L,h=>by
  simp only[J8] at h;split at h
  ·rename_i e
   simp only[Ci] at h;subst h;subst e;rfl
  ·cases h1:KY S with
   |none=>rw[h1] at h;cases h
   |some p=>
    rw[h1] at h;simp only[CF] at h;cases h2:J8 f (S.drop p.2) with
    |none=>rw[h2] at h;cases h
    |some q=>
     rw[h2] at h;simp only[EP,Ci] at h;subst h;have g1:=axt (l:=p.1) (k:=p.2) h1;have g2:=alS f _ _ h2;simp only[KN,g1,g2,CF,EP,Mw]
theorem alR:∀ (L:List (List (List UInt8))) (S:List UInt8) (f:Nat),KN L=some S→S.length≤64*f→S.length < 4294967296→J8 f S=some L
 |[],S,f,h,_,_=>by
  simp only[KN,Ci] at h;subst h;exact alQ f
 |l :: L,S,f,h,hf,hb=>by
  simp only[KN] at h;cases h1:Hu l with
  |none=>rw[h1] at h;cases h
  |some a=>
   rw[h1] at h;simp only[CF] at h;cases h2:KN L with
   |none=>rw[h2] at h;cases h
   |some b=>
    rw[h2] at h;simp only[EP,Ci] at h;subst h;obtain⟨g1,g2⟩:=iZ h1;rw[Az] at hf hb;obtain⟨f,rfl⟩:∃ f',f=f'+1:=⟨f -1,by omega⟩;have hne:¬ (a++b=[]):=fun e=>by
     have:=congrArg List.length e;rw[Az,Iu] at this;omega
    simp only[J8,Aa hne,axr h1 (by omega) b,CF];rw[Mt rfl,alR L b f h2 (by omega) (by omega)];rfl
theorem ZL(gen used:Nat):∃ z,mark gen used=[76,79,71,49]++(le 8 gen++(le 4 used++z)):=by
 unfold mark pad A9.Fv;generalize List.replicate _ (0:UInt8)=z;generalize le 4 (A9.sum _)=y;exact⟨y++z,by simp only[Dy]⟩
theorem awF(gen used:Nat):((mark gen used).take 12).drop 4=le 8 gen:=by
 obtain⟨z,e⟩:=ZL gen used;have h8:(le 8 gen).length=8:=A9.BV _ _;rw[e];have e1:([76,79,71,49]++(le 8 gen++(le 4 used++z))).take 12=[76,79,71,49]++le 8 gen:=by
  rw[←Dy];exact IP (by rw[Az,h8];rfl)
 rw[e1];exact Mt rfl
theorem awH(gen used:Nat):((mark gen used).take 16).drop 12=le 4 used:=by
 obtain⟨z,e⟩:=ZL gen used;have h8:(le 8 gen).length=8:=A9.BV _ _;have h4:(le 4 used).length=4:=A9.BV _ _;rw[e];have e1:([76,79,71,49]++(le 8 gen++(le 4 used++z))).take 16=([76,79,71,49]++le 8 gen)++le 4 used:=by
  rw[←Dy,←Dy];exact IP (by rw[Az,Az,h8,h4];rfl)
 rw[e1];exact Mt (by rw[Az,h8];rfl)
theorem sM(gen used:Nat):mark gen used≠pad [0]:=fun h=>by
 obtain⟨z,e⟩:=ZL gen used;rw[e] at h;have:=congrArg (fun l:List UInt8=>l.head?) h
 revert this
 simp[pad]
theorem al4{gen used n:Nat}{L:List (List (List UInt8))}{S R:List UInt8}(hg:gen < 18446744073709551616)(hu:used≤n -1)(hb:used < 60000000)(hL:KN L=some S)(hS:S.length=64*used):
  Jt (mark gen used++(S++R)) n=some (gen,used,L):=by
 have FX:=NY gen used;have v1:val (le 8 gen)=gen:=Yf 8 _ hg;have v2:val (le 4 used)=used:=Yf 4 _ (by show used < 4294967296;omega);unfold Jt;rw[IP FX,Mt FX,Aa (sM _ _),awF,awH,v1,v2,Ac ⟨rfl,hu⟩,IP hS,alR L S used hL (by omega) (by omega)];rfl
theorem kZ{s:List UInt8}{n gen used:Nat}{L:List (List (List UInt8))}(h:Jt s n=some (gen,used,L))(hs:64*n≤s.length)(hn:1≤n):
  used≤n -1∧gen < 18446744073709551616∧KN L=some ((s.drop 64).take (64*used))∧((s.take 64=pad [0]∧gen=0∧used=0)∨s.take 64=mark gen used):=by
 unfold Jt at h;split at h
 ·rename_i h0
  simp only[Ci,Mx] at h;obtain⟨rfl,rfl,rfl⟩:=h;exact⟨by omega,by decide,rfl,.inl ⟨h0,rfl,rfl⟩⟩
 ·split at h
  ·rename_i hm
   obtain⟨h1,h2⟩:=hm;cases h3:J8 (val (((s.take 64).take 16).drop 12)) ((s.drop 64).take (64*val (((s.take 64).take 16).drop 12))) with
   |none=>rw[h3] at h;cases h
   |some q=>
    rw[h3] at h;simp only[EP,Ci,Mx] at h;obtain⟨rfl,rfl,rfl⟩:=h;have hv:=A9.Jb (((s.take 64).take 12).drop 4);have hl:(((s.take 64).take 12).drop 4).length=8:=(by simp only[Cs,Be];omega);rw[hl] at hv;exact⟨h2,hv,alS _ _ _ h3,.inr h1⟩
  ·cases h
theorem axD{s:List UInt8}{n gen used:Nat}{L:List (List (List UInt8))}(h:Jt s n=some (gen,used,L))(hs:64*n≤s.length)(hn:1≤n)(Gm:n≤16384){l:List (List UInt8)}{a R:List UInt8}(hl:Hu l=some a)(hk:used+a.length / 64≤n -1):
  Jt (mark gen (used+a.length / 64)++((s.drop 64).take (64*used)++(a++R))) n=some (gen,used+a.length / 64,L++[l]):=by
 obtain⟨h1,h2,h3,_⟩:=kZ h hs hn;obtain⟨g1,g2⟩:=iZ hl;have:=al4 (gen:=gen) (used:=used+a.length / 64) (n:=n) (L:=L++[l]) (S:=(s.drop 64).take (64*used)++a) (R:=R) h2 hk (by omega) (at1 h3 hl) (by rw[Az,Be,Cs];omega);rwa[Dy] at this
theorem axE{s t:List UInt8}{n gen used:Nat}{L:List (List (List UInt8))}(h:Jt s n=some (gen,used,L))(hs:64*n≤s.length)(hn:1≤n)(e:s.take (64+64*used)=t.take (64+64*used)):Jt t n=some (gen,used,L):=by
 obtain⟨h1,h2,h3,_⟩:=kZ h hs hn;have e1:t.take 64=s.take 64:=by
  have:=congrArg (List.take 64) e;rw[List.take_take,List.take_take,Jc (by omega)] at this;exact this.symm
 have e2:(t.drop 64).take (64*used)=(s.drop 64).take (64*used):=by
  have:=congrArg (List.drop 64) e;rw[List.drop_take,List.drop_take,Nat.add_sub_cancel_left] at this;exact this.symm
 rw[←h];unfold Jt at h ⊢;rw[e1];split
 ·rfl
 ·rename_i h0
  rw[Aa h0] at h;split
  ·rename_i hm
   rw[Ac hm] at h;cases h4:J8 (val (((s.take 64).take 16).drop 12)) ((s.drop 64).take (64*val (((s.take 64).take 16).drop 12))) with
   |none=>rw[h4] at h;cases h
   |some q=>
    rw[h4] at h;simp only[EP,Ci,Mx] at h;obtain⟨_,hu,_⟩:=h;rw[hu] at h4 ⊢;rw[e2,h4]
  ·rfl
end Aq
section
open Aq
def Bt:List (A8→A8×Int)→A8→A8×Int
 |[],D=>(D,0)
 |f :: l,D=>if(f D).2=0 then Bt l (f D).1 else f D
theorem bB(f:A8→A8×Int)(l:List (A8→A8×Int))(D:A8):Bt (f :: l) D=if(f D).2=0 then Bt l (f D).1 else f D:=rfl
def Bz.acts(L:Bz)(s:List UInt8):List (A8→A8×Int):=
 [fun D=>D.write ((L.from_+1+L.used:Nat):Int) s,A8.flush,fun D=>D.write (L.from_:Int) (Aq.mark L.gen (L.used+s.length / 64)),A8.flush]
def Bz.LB(L:Bz):List (A8→A8×Int):=
 [fun D=>D.write (L.from_:Int) (Aq.mark ((L.gen+1) % 18446744073709551616) 0),A8.flush]
def Bz.fell(L:Bz)(k:Int):Bz:={ L with fault:=k }
def Bz.grown(L:Bz)(l:List (List UInt8))(k:Nat):Bz:={ L with used:=L.used+k,groups:=L.groups++[l] }
def Bz.Ud(L:Bz):Bz:={ L with gen:=(L.gen+1) % 18446744073709551616,used:=0,groups:=[] }
def Dw(D:A8)(L:Bz)(l:List (List UInt8)):A8×Bz×Int:=
 if L.fault≠0 then(D,L,L.fault) else match Hu l with
 |none=>(D,L,5)
 |some s=>if L.n -1 -L.used < s.length / 64 then(D,L,4) else
  if(Bt (L.acts s) D).2=0 then((Bt (L.acts s) D).1,L.grown l (s.length / 64),0) else((Bt (L.acts s) D).1,L.fell (Bt (L.acts s) D).2,(Bt (L.acts s) D).2)
def DR(D:A8)(L:Bz):A8×Bz×Int:=
 if L.fault≠0 then(D,L,L.fault) else
  if(Bt L.LB D).2=0 then((Bt L.LB D).1,L.Ud,0) else((Bt L.LB D).1,L.fell (Bt L.LB D).2,(Bt L.LB D).2)
theorem afS(c:Nat):∀ (l:List (A8→A8×Int)) (D:A8),(∀ f∈l,∀ D,(f D).1.loose.length≤D.loose.length+c)→(Bt l D).1.loose.length≤D.loose.length+c*l.length
 |[],D,_=>by simp[Bt]
 |f :: l,D,h=>by
  rw[bB];have h1:=h f Hg D;rw[BN,Nat.mul_add];split
  ·have:=afS c l (f D).1 (fun g hg=>h g (GI _ hg));omega
  ·have:c≤c*l.length+c*1:=(by omega);omega
def puts(a:Nat)(s:List UInt8):Nat→List (Nat×List UInt8)
 |0=>[]
 |n+1=>(a,s.take 64) :: puts (a+1) (s.drop 64) n
theorem aBv(D:A8)(hd:D.down=false)(a:Nat)(s:List UInt8)(n:Nat):
  (A8.writes D a s n).1.base=D.base∧(A8.writes D a s n).1.n=D.n∧
  (((A8.writes D a s n).2=0∧(A8.writes D a s n).1.down=false∧(A8.writes D a s n).1.loose=D.loose++puts a s n)∨
   ((A8.writes D a s n).2=40∧(A8.writes D a s n).1.down=true∧∃ P,(A8.writes D a s n).1.loose=D.loose++P∧∀ p∈P,a≤p.1∧p.1 < a+n)):=by
 induction n generalizing D a s with
 |zero=>exact⟨rfl,rfl,.inl ⟨rfl,hd,by simp[A8.writes,puts]⟩⟩
 |succ n ih=>
  simp only[A8.writes];split
  ·exact⟨rfl,rfl,.inr ⟨rfl,rfl,[],by simp,by simp⟩⟩
  ·obtain⟨h1,h2,h3⟩:=ih { D with loose:=D.loose++[(a,s.take 64)],left:=max (D.left -1) (-1) } hd (a+1) (s.drop 64);refine⟨h1,h2,?_⟩;rcases h3 with⟨g1,g2,g3⟩|⟨g1,g2,P,g3,g4⟩
   ·exact .inl ⟨g1,g2,by rw[g3];simp[puts]⟩
   ·refine .inr ⟨g1,g2,(a,s.take 64) :: P,by rw[g3];simp,fun p hp=>?_⟩;rcases BZ.1 hp with rfl|hp
    ·exact⟨Ae _,by show a < a+(n+1);omega⟩
    ·have:=g4 p hp;omega
theorem abL(f:Nat→List UInt8)(l:List (Nat×List UInt8))(k:Nat)(h:∀ p∈l,p.1≠k):A8.lay f l k=f k:=by
 induction l generalizing f with
 |nil=>rfl
 |cons p l ih=>
  show A8.lay _ l k=_
  rw[ih _ (fun q hq=>h q (GI _ hq))];rw[Aa (fun e=>h p Hg e.symm)]
theorem alM{a:Nat}{s:List UInt8}{n:Nat}:∀ p∈puts a s n,a≤p.1∧p.1 < a+n:=by
 induction n generalizing a s with
 |zero=>intro p hp;simp[puts] at hp
 |succ n ih=>
  intro p hp;simp only[puts] at hp;rcases BZ.1 hp with rfl|hp
  ·exact⟨Ae _,by show a < a+(n+1);omega⟩
  ·have:=ih p hp;omega
theorem acT(f:Nat→List UInt8)(a:Nat)(s:List UInt8)(n:Nat)(hs:s.length=64*n):A8.text (A8.lay f (puts a s n)) a n=s:=by
 induction n generalizing f a s with
 |zero=>exact(List.eq_nil_of_length_eq_zero (by omega)).symm
 |succ n ih=>
  show A8.lay _ (puts (a+1) (s.drop 64) n) a++A8.text (A8.lay _ (puts (a+1) (s.drop 64) n)) (a+1) n=s
  rw[abL _ _ _ (fun p hp=>by have:=alM p hp;omega),ih _ _ _ (by rw[Cs];omega),Ac rfl,Mw]
