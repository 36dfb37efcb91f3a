/- Oct -/
import Derived.Lib.EndianBits
import Derived.Outline
import Derived.Lib.AppendStr
import Derived.Test.YtmbbhdebddbhoaaGreatQ4
set_option maxHeartbeats 4000000
set_option maxRecDepth 100000
set_option linter.all false
namespace Go.Proofs.YtmbbhdebddbhoaaGreat
open Tryz
section
open Go.RowKit
open Wal
theorem DK(w:World)(n:Nat):Bw w (w.drewN n):=⟨rfl,rfl,rfl,Ab _,fun _ _=>rfl⟩
theorem Um(P:Program)(W:World)(t:TypeId)(hu:P.underlying t=some .string)(s:List UInt8)(lo hi:Nat)(h1:lo≤hi)(h2:hi≤s.length):
  (Instr.slice t (.string (bs s)) (some (.int .i64 (lo:Int))) (some (.int .i64 (hi:Int))) none).run P W=.ok (.string (bs ((s.take hi).drop lo))) W:=by
 have g2:(hi:Int)≤(s.length:Int):=by omega
 simp[Instr.slice,ER hu,Instr.sliceBounds,run_sliceBound,go_sem,h1,g2]
theorem agt(V b k:Nat)(hV:V < 256 ^ k)(hb:b < 256)(hk:k < 8):bits BinOp.or IntKind.u64 (V:Int) (IntKind.u64.wrap (IntKind.u64.wrap (b:Int)*2 ^ (8*k)))=((V+256 ^ k*b:Nat):Int):=by
 have hp:(2:Int) ^ (8*k)=((256 ^ k:Nat):Int):=by rw[Int.pow_mul];norm_cast
 have hle:256 ^ k*256≤256 ^ 8:=by rw[←Nat.pow_succ];exact Nat.pow_le_pow_right (by decide) (by omega)
 have hmul:256 ^ k*b < 256 ^ 8:=Di (Nat.mul_lt_mul_of_pos_left hb (Nat.pow_pos (by decide))) hle;have hp1:0 < 256 ^ k:=Nat.pow_pos (by decide);have h8:(256:Nat) ^ 8=18446744073709551616:=by decide
 have hV8:V < 18446744073709551616:=by
  have:256 ^ k≤256 ^ 8:=Nat.pow_le_pow_right (by decide) (by omega);rw[←h8];exact Di hV this
 have he:(b:Int)*2 ^ (8*k)=((256 ^ k*b:Nat):Int):=by rw[hp,Int.natCast_mul,Int.mul_comm]
 have hdv:((256 ^ k*b:Nat):Int) % 2 ^ (8*k)=0:=by rw[hp,←Int.natCast_emod,Nat.mul_mod_right];rfl
 have h64:(2:Int) ^ 64=18446744073709551616:=by decide
 have Pj:256 ^ k*b < 18446744073709551616:=by rw[←h8];exact hmul
 generalize 256 ^ k*b=m at*;have e1:IntKind.u64.wrap (b:Int)=(b:Int):=u64_wrap_id _ (by omega) (by omega);have e2:IntKind.u64.wrap (m:Int)=(m:Int):=u64_wrap_id _ (by omega) (by omega);rw[e1,he,e2];rw[bits_join_low .u64 64 (by decide) wraps_u64 (8*k) (V:Int) (m:Int) (by omega) (by rw[hp];omega) (by rw[h64];omega) (by omega) hdv (by rw[h64];omega)];exact(Int.natCast_add V m).symm
theorem gN(s:List UInt8)(k:Nat)(h:k < s.length):Crc.val (s.take (k+1))=Crc.val (s.take k)+256 ^ k*s[k].toNat:=by
 rw[BS h,Crc.val_append,Aw,FM (by omega)];simp[Crc.val]
theorem QB(s:List UInt8)(w:World)(h1:1≤s.length)(h8:s.length≤8):
  Calls prog 122 #[.string (bs s)] w fun e w'=>e=.returned (.tuple #[.int .u64 (Crc.val s:Nat),.int .i64 0])∧w=w':=by
 have d1:decide ((s.length:Int) < 1)=false:=by simp;omega
 have d2:decide (8 < (s.length:Int))=false:=by simp;omega
 go_enter func122,ntmps122;go_wp2_with fail
 go_loop [2,15] (fun v i=>∃ k:Nat,k≤s.length∧i=.int .i64 k∧v=.int .u64 (Crc.val (s.take k):Nat)) (fun _ i=>s.length -(intOf i).toNat)
 case atStart=>exact⟨0,by omega,rfl,by simp[Crc.val]⟩
 case round=>
  obtain⟨k,hk,rfl,rfl⟩:=hrel;by_cases hlt:k < s.length
  ·have hv:=Crc.Gg (s.take k);rw[Aw,FM hk] at hv;have hor:=agt (Crc.val (s.take k)) s[k].toNat k hv (by have:=s[k].toNat_lt;omega) (by omega);rw[←gN s k hlt] at hor;have HOR:=Hi hor;clear hor hv;go_wp2_with fail
   go_round
   case rel=>exact⟨k+1,by omega,by go_num,by rw[HOR.out]⟩
   case measure=>simp[intOf];omega
  ·go_wp2_with fail;go_ret2;have hkl:k=s.length:=(by omega);exact⟨by rw[hkl,Ck];rfl,rfl⟩
theorem gP(s:List UInt8)(w:World)(h:s.length≤65535):
  Calls prog 160 #[.string (bs s)] w fun e w'=>e=.returned (.tuple #[.string (bs (Crc.le 2 s.length++s)),.int .i64 0])∧Bw w w':=by
 go_enter func160,ntmps160;go_wp2_with fail;refine(Wd s.length 2 _ (by decide)).mono ?_;rintro e w1⟨rfl,hb⟩;go_wp2_with fail;go_ret2;exact⟨rfl,hb⟩
theorem gQ(s:List UInt8)(w:World)(h:65535 < s.length):
  Calls prog 160 #[.string (bs s)] w fun e w'=>e=.returned (.tuple #[.string (bs []),.int .i64 5])∧w=w':=by
 go_enter func160,ntmps160;go_wp2_with fail;go_ret2;exact⟨rfl,rfl⟩
theorem val_two(s:List UInt8)(h:2≤s.length):Crc.val (s.take 2)=s[0].toNat+256*s[1].toNat:=by
 rw[gN s 1 (by omega),gN s 0 (by omega)];simp[Crc.val]
def Dx(s:List UInt8):List UInt8×Nat×Int:=match Fu s with|none=>([],0,6)|some p=>(p.1,p.2,0)
theorem Un(s:List UInt8)(w:World)(hl:s.length≤1099511627776):
  Calls prog 213 #[.string (bs s)] w fun e w'=>e=.returned (.tuple #[.string (bs (Dx s).1),.int .i64 ((Dx s).2.1:Nat),.int .i64 (Dx s).2.2])∧Bw w w':=by
 by_cases h2:s.length < 2
 ·have hR:Hid (Dx s=([],0,6)):=Hi (by unfold Dx Fu;rw[Ac h2]);rw[hR.out];go_enter func213,ntmps213;go_wp2_with fail;go_ret3;exact⟨rfl,Ad _ _⟩
 ·have hv:=val_two s (by omega);have b0:=s[0].toNat_lt;have b1:=s[1].toNat_lt;have hz:(0:Nat) < s.length:=by omega
  have hz1:(1:Nat) < s.length:=by omega
  have hz2:(1:Int) < (s.length:Int):=by omega
  have hz3:(2:Int)≤(s.length:Int):=by omega
  by_cases h3:2+Crc.val (s.take 2)≤s.length
  ·have hR:Hid (Dx s=((s.take (2+Crc.val (s.take 2))).drop 2,2+Crc.val (s.take 2),0)):=Hi (by unfold Dx Fu;rw[Aa h2,Ac h3]);rw[hR.out];rw[hv] at h3 ⊢;clear hv hR;go_enter func213,ntmps213;go_wp2_with fail
   go_quiet (fail)
   have e:(2:Int)+(s[0].toNat:Int)+(s[1].toNat:Int)*(256:Int)=((2+(s[0].toNat+256*s[1].toNat):Nat):Int):=(by omega);simp only[e];clear e;have hn2:2≤2+(s[0].toNat+256*s[1].toNat):=(by omega);generalize hn:2+(s[0].toNat+256*s[1].toNat)=n at*;have HN:=Hi hn;clear hn;have hcut:∀ W,(Instr.slice 9 (.string (bs s)) (some (.int .i64 2)) (some (.int .i64 (n:Int))) none).run prog W=.ok (.string (bs ((s.take n).drop 2))) W:=fun W=>Um prog W 9 underlying9 s 2 n hn2 h3
   go_wp2_with fail;go_ret3;obtain rfl:=HN.out;exact⟨rfl,DK _ _⟩
  ·have hR:Hid (Dx s=([],0,6)):=Hi (by unfold Dx Fu;rw[Aa h2,Aa h3]);rw[hR.out];rw[hv] at h3;clear hv hR;go_enter func213,ntmps213;go_wp2_with fail
   go_quiet (fail)
   go_wp2_with fail;go_ret3;exact⟨rfl,DK _ _⟩
end
section
open Go.RowKit Go.Maps
open Wal
theorem agv(k:List UInt8):Lib.strCells (bs k)=Bn k:=by unfold Lib.strCells Bn Cf;rfl
theorem agw{P:Program}(w:World)(t u ty e:TypeId)(i:TypeInfo)(ht:P.underlying t=some (.slice e))(hu:P.underlying u=some .string)(hi:P.info? e=some i)(hz:i.zero=some (.int .u8 0))
  (aug:i.size=1)(hby:i.bytes=1)(v:Value)(n:Nat)(xs:List Value)(hown:w.ownsRow 0 e 1 v n xs)(k:List UInt8)(hl:n+k.length≤140737488355328):
  ∃ v' w',(Builtin.append_ #[t,u] ty #[v,.string (bs k)]).run P w=.ok v' w'∧w'.ownsRow 0 e 1 v' (n+k.length) (xs++Bn k)∧w.grownBy w' v.ownBlock∧
   (v'=.slice none 0 0↔v=.slice none 0 0∧k.length=0)∧(v'.ownBlock=v.ownBlock∨v'.ownBlock=some w.heap.size):=by
 have hsz:(bs k).size=k.length:=rfl;obtain⟨v',w',hr,h2,h3,h4⟩:=Lib.run_append_own_string (P:=P) w 0 t u ty e i ht hu hi hz aug hby v n xs hown (bs k) (by unfold maxLen;rw[hsz];omega) (by rw[hsz];omega) (Ar _);rw[agv] at h2;refine⟨v',w',hr,h2,h3,h4,?_⟩;rcases hown.2 with⟨rfl,rfl⟩|⟨g,cap,cur,rfl,_,hg,hnc,hcm,hcs,aCe⟩
 ·by_cases hk:k.length=0
  ·rw[h4.2 ⟨rfl,hk⟩];exact .inl rfl
  ·have hr':=run_append_nil_string (P:=P) w t u ty e i (.int .u8 0) ht hu hi hz (bs k) (by rw[hsz];omega) (by rw[hsz];omega) (by rw[hby,hsz];omega);rw[hr] at hr';injection hr' with e1 _
   rw[e1];exact .inr rfl
 ·by_cases au4:n+(bs k).size≤cap
  ·have hr':=Lib.run_append_room_string (P:=P) w t u ty e i ht hu hi aug g n cap cur hg (bs k) au4 (by omega);rw[hr] at hr';injection hr' with e1 _
   rw[e1];exact .inl rfl
  ·have hr':=Lib.run_append_grow_string (P:=P) w t u ty e i (.int .u8 0) ht hu hi hz ⟨g,0,none⟩ n cap xs (by rw[aug];exact hown.1) (hown.cells (g:=g) rfl) (bs k) (by omega) (by rw[hsz];omega) (by rw[hby];exact growslice_fits (by omega) (by rw[hsz];omega));rw[hr] at hr';injection hr' with e1 _
   rw[e1];exact .inr rfl
theorem agx{P:Program}{w:World}{ops:Array Oper}{rest:List Oper}{o:Oper}{a:Act}{Q:Exit→Act→World→Prop}(hgd:o.guard=none)(sl x:Operand)(t u:TypeId)
  (ho:o.op=.call { callee:=.builtin .append,args:=#[sl,x],argTypes:=#[t,u] })
  (e:TypeId)(i:TypeInfo)(ht:P.underlying t=some (.slice e))(hu:P.underlying u=some .string)(hi:P.info? e=some i)(hz:i.zero=some (.int .u8 0))(aug:i.size=1)(hby:i.bytes=1)
  (v:Value)(n:Nat)(xs:List Value)(hs:a.eval sl=v)(hown:w.ownsRow 0 e 1 v n xs)(k:List UInt8)(hx:a.eval x=.string (bs k))(hl:n+k.length≤140737488355328)
  (h:∀ v' w',w'.ownsRow 0 e 1 v' (n+k.length) (xs++Bn k)→w.grownBy w' v.ownBlock→(v'=.slice none 0 0↔v=.slice none 0 0∧k.length=0)→(v'.ownBlock=v.ownBlock∨v'.ownBlock=some w.heap.size)→wpList P ops Q rest (a.put o.dst v') w'):wpList P ops Q (o :: rest) a w:=by
 refine wpList_plain hgd fun K hK=>?_
 obtain⟨v',w',hr,h2,h3,h4,h5⟩:=agw (P:=P) w t u o.type e i ht hu hi hz aug hby v n xs hown k hl;unfold Oper.wp execOp;simp only[ho,resolve,invoke,builtin,Sem.run_bind,Sem.run_pure,Result.andThen_ok,List.map_toArray,Bg,List.map_nil,hs,hx,hr];exact hK _ _ (h v' w' h2 h3 h4 h5)
theorem QC{w:World}{b:Nat}{l:List UInt8}{fp:Nat→Prop}(h:CW w b l fp)(k:List UInt8)(hlen:l.length+k.length≤1099511627776):
  Calls prog 158 #[.pointer (some ⟨b,0,none⟩),.string (bs k)] w fun e w'=>e=.returned (.tuple #[.int .i64 (k.length:Int),.nilIface])∧∃ fp',CW w' b (l++k) fp'∧A7 fp w w'∧Cg fp fp' w:=by
 obtain⟨p,v,hb,hp,hown,hne,axb,rfl⟩:=h;have Z7:=Hi axb;clear axb;obtain⟨i0,hi,hz0,hz1,hz2⟩:=Cz Ui;go_enter func158,ntmps158;go_wp2_with fail;refine(gy b p v _ hb hp).mono ?_;rintro e w1⟨rfl,hb1,hu1⟩;have ayp:b < w.heap.size:=(BZ.1 hb).1;have aut:w1.ownsRow 0 5 1 v l.length (Bn l):=AL hown hu1 (fun q hq e=>hne (by rw[hq,e]));have c1:w1.cell? ⟨b,1,none⟩=some v:=by rw[Lib.cell_of_heap hb1];rfl
 go_wp2_with (at_builtin;refine agx rfl _ _ 232 9 rfl 5 i0 underlying232 underlying9 hi hz0 hz1 hz2 _ _ _ rfl aut k rfl ?c3 ?_)
 case c3=>omega
 intro v' w2 asJ asx awR hat;have Jh:=Hi awR;clear awR;have hb2:w2.heap[b]?=some (.cells #[.pointer (some ⟨b,0,none⟩),v] 234):=by
  rw[asx.block b (Di ayp hu1.size) (fun e=>hne e.symm)];exact hb1
 have d1:w2.cell? ⟨b,1,none⟩=some v:=by rw[Lib.cell_of_heap hb2];rfl
 have f1:w2.frozen? ⟨b,1,none⟩=false:=Lib.frozen_of_heap hb2 1;have hv':v'.ownBlock≠some b:=by
  rcases hat with hat|hat
  ·rw[hat];exact hne
  ·rw[hat];intro e;have:=EH e;have:=hu1.size;omega
 have RS:Hid (l++k=[]→v'=.slice none 0 0):=Hi (fun e=>by
  obtain⟨e1,e2⟩:=List.append_eq_nil_iff.1 e;exact Jh.2 ⟨Z7 e1,by rw[e2]⟩)
 obtain⟨ao,n',cap,rfl⟩:∃ ao n' cap,v'=.slice ao n' cap:=by
  rcases asJ.2 with⟨hv,_⟩|⟨g,cap,cur,hv,_⟩
  ·exact⟨_,_,_,hv⟩
  ·exact⟨_,_,_,hv⟩
 clear c1;go_wp2_with fail;go_ret2;have hu2:A7 (fun k=>k=b∨v.ownBlock=some k) w w2:=(hu1.mono (fun i e=>Or.inl e)).trans (A7.of_grownBy (F:=fun k=>k=b∨v.ownBlock=some k) asx (fun q e=>.inr e)) (fun i e=>.inl e);have hu3:=hu2.setCell (p:=⟨b,1,none⟩) (.inl (.inl rfl)) (.slice ao n' cap);refine⟨rfl,fun q=>q=b∨(Value.slice ao n' cap).ownBlock=some q,⟨some ⟨b,0,none⟩,.slice ao n' cap,Bh w2 b 1 _ _ _ hb2,.inr rfl,?_,hv',RS.out,rfl⟩,hu3,?_⟩
 ·rw[Aj,RP];exact AL asJ ((A7.refl (fun q=>q=b) w2).setCell (p:=⟨b,1,none⟩) (.inl rfl) _) (fun q hq e=>hv' (by rw[hq,e]))
 ·rintro q (rfl|hq)
  ·exact .inl (.inl rfl)
  ·rcases hat with hat|hat
   ·exact .inl (.inr (by rw[←hat];exact hq))
   ·rw[hat] at hq;have:=EH hq;exact .inr (by have:=hu1.size;omega)
def BB(w:World)(a:Option Addr)(l:List (List UInt8)):Prop:=∀ i,(h:i < l.length)→∃ p:Addr,a=some p∧w.cell? (p.add i)=some (.string (bs l[i]))
theorem BB.below{w w':World}{a:Option Addr}{l:List (List UInt8)}(h:BB w a l)(hb:Bw w w'):BB w' a l:=fun i hi=>by
 obtain⟨p,hp,h1⟩:=h i hi;exact⟨p,hp,(hb.cell (Bz h1)).trans h1⟩
theorem BB.index{w:World}{a:Option Addr}{l:List (List UInt8)}(h:BB w a l)(cap k:Nat)(hk:k < l.length):
  ∃ q:Addr,(∀ W,(Instr.indexAt 27 (.slice a l.length cap) (.int .i64 (k:Int))).run prog W=.ok (.pointer (some q)) W)∧w.cell? q=some (.string (bs l[k])):=by
 obtain⟨p,rfl,h1⟩:=h k hk;refine⟨p.add k,fun W=>?_,h1⟩;have:=Fw prog 27 9 underlying27 1 (by kernel_rfl) p l.length cap k hk W;rw[Nat.mul_one] at this;exact this
def rowLen(l:List (List UInt8)):Nat:=2+(l.map fun s=>2+s.length).sum
theorem agy(l:List (List UInt8))(k:Nat)(h:k < l.length):rowLen (l.take (k+1))=rowLen (l.take k)+(2+l[k].length):=by
 unfold rowLen;rw[BS h,C8,Ht];simp;omega
theorem gT(l:List (List UInt8))(k:Nat):rowLen (l.take k)≤rowLen l:=by
 unfold rowLen
 conv=>rhs;rw[←Ja k l,C8,Ht]
 omega
theorem Pk{l:List (List UInt8)}{s:List UInt8}(h:textsE l=some s):2+s.length=rowLen l:=by
 induction l generalizing s with
 |nil=>simp[textsE] at h;subst h;rfl
 |cons x l ih=>
  simp only[textsE] at h;cases h1:CO x with
  |none=>rw[h1] at h;cases h
  |some a=>
   cases h2:textsE l with
   |none=>rw[h1,h2] at h;cases h
   |some b=>
    rw[h1,h2] at h;simp at h;subst h;have h3:=ih h2;unfold CO at h1;split at h1
    ·simp at h1;subst h1;simp[rowLen,Crc.Be] at h3 ⊢;omega
    ·cases h1
def BK(l:List (List UInt8)):List UInt8×Int:=match Er l with|none=>([],5)|some s=>(s,0)
theorem gU{l:List (List UInt8)}{k:Nat}(h:k < l.length){s:List UInt8}(hs:textsE (l.take k)=some s):textsE (l.take (k+1))=(CO l[k]).map (s++ ·):=by
 rw[BS h,sV,hs];simp only[BI,textsE];cases CO l[k] with
 |none=>rfl
 |some x=>simp
theorem Zf{l:List (List UInt8)}{k:Nat}(h:k < l.length)(hk:65535 < l[k].length):textsE l=none:=by
 induction l generalizing k with
 |nil=>simp at h
 |cons x l ih=>
  simp only[textsE];cases k with
  |zero=>
   have:CO x=none:=(by unfold CO;rw[Aa (by simp at hk;omega)]);rw[this];rfl
  |succ k=>
   rw[ih (k:=k) (by simpa using h) (by simpa using hk)];cases CO x<;>rfl
theorem uK(l:List (List UInt8))(a:Option Addr)(cap:Nat)(w:World)(hl:BB w a l)(hlen:l.length≤maxLen)(asV:rowLen l≤1000000000):
  Calls prog 79 #[.slice a l.length cap] w fun e w'=>e=.returned (.tuple #[.string (bs (BK l).1),.int .i64 (BK l).2])∧Bw w w':=by
 unfold maxLen at hlen;by_cases azu:65535 < l.length
 ·have hR:Hid (BK l=([],5)):=Hi (by unfold BK Er;rw[Aa (by omega)]);rw[hR.out];clear hl;go_enter func79,ntmps79;go_wp2_with fail;go_ret2;exact⟨rfl,Ad _ _⟩
 ·have HL:=Hi hl;have hb0:Bw w (w.alloc (.cells #[.pointer none,.slice none 0 0] 234)):=(Ad _ w).alloc (Ab _) _;have HB0:=Hi hb0;have Ch:=Hi (CW.made w);have Pm:=Hi asV;clear hl hb0 asV;go_enter func79,ntmps79;go_wp2_with fail;refine(Wd l.length 2 _ (by decide)).mono ?_;rintro e w1⟨rfl,hb⟩;have hbu:=Ch.upd (ub hb) (fun _ _ f=>f);have Li:=Hi hbu;have HB1:=Hi (HB0.trans (hb.mono (by rw[Ai];omega)));clear hb hbu;go_wp2_with fail;refine(QC Li (Crc.le 2 l.length) (by simp[Crc.Be])).mono ?_;rintro e w2⟨rfl,fp2,h1,h2,h3⟩;rw[DI] at h1;have hfp:∀ q,fp2 q→w.heap.size≤q:=fun q hq=>by
   rcases h3 q hq with h|h
   ·rcases h with h|h
    ·omega
    ·simp[Value.ownBlock] at h
   ·have:=HB1.size;omega
  have HB2:=Hi (Bu HB1 h2 (fun i hi=>by rcases hi with h|h;omega;simp[Value.ownBlock] at h) HB1.size);have Kr:=Hi h1;have Dw:=Hi hfp;clear h1 h2 h3 hfp;go_wp2_with fail
  go_loopw [19] (fun i wr=>∃ (k:Nat) (S:List UInt8) (fp:Nat→Prop),k≤l.length∧i=.int .i64 k∧textsE (l.take k)=some S∧CW wr w.heap.size (Crc.le 2 l.length++S) fp∧(∀ q,fp q→w.heap.size≤q)∧Bw w wr) (fun i _=>l.length -(intOf i).toNat)
  case atStart=>exact⟨0,[],fp2,by omega,rfl,rfl,by rw[E8];exact Kr.out,Dw,HB2⟩
  case round=>
   clear Ch Li Kr HB0 HB1 HB2 Dw;obtain⟨k,S,fp,hk,rfl,hS,hbu,hfp,hb⟩:=hrel;have HS:=Hi hS;have Ch:=Hi hbu;have Dw:=Hi hfp;have HB:=Hi hb;clear hS hbu hfp hb;by_cases hlt:k < l.length
   ·obtain⟨q,au8,hq⟩:=(HL.below HB).index cap k hlt;have hlk:rowLen (l.take (k+1))=rowLen (l.take k)+(2+l[k].length):=agy l k hlt;have hl1:=gT l (k+1);have hl2:=Pk HS.out;have hl3:=Pm.out;have GV:=Hi (gU hlt HS);by_cases avb:65535 < l[k].length
    ·have hR:Hid (BK l=([],5)):=Hi (by unfold BK Er;rw[Ac (by omega),Zf hlt avb];rfl);clear hlk hl1 hl2 hl3;generalize l[k]=x at*;go_wp2_with fail;refine(gQ x _ avb).mono ?_;rintro e w3⟨rfl,rfl⟩;go_wp2_with fail;go_ret2;rw[hR.out];exact⟨rfl,HB⟩
    ·have hxl:l[k].length≤65535:=(by omega);have hle:S.length+l[k].length≤1000000000:=(by omega);clear hlk hl1 hl2 hl3 avb;generalize l[k]=x at*;go_wp2_with fail;refine(gP x _ hxl).mono ?_;rintro e w3⟨rfl,hb3⟩;have O8:=Hi (Ch.upd (ub hb3) (fun _ _ f=>f));have HB3:=Hi (HB.trans (hb3.mono HB.size));clear hb3 hq;go_wp2_with fail;refine(QC O8 (Crc.le 2 x.length++x) (by simp[Crc.Be];omega)).mono ?_;rintro e w4⟨rfl,Ky,h1,h2,h3⟩;have gV:=Hi h1
     have gW:=Hi (show ∀ q,Ky q→w.heap.size≤q from fun q hq=>by
      rcases h3 q hq with h|h
      ·exact Dw q h
      ·exact Ah HB3.size h)
     have Ay:=Hi (Bu HB3 h2 Dw HB3.size);clear h1 h2 h3;go_wp2_with fail;go_roundw
     case rel=>exact⟨k+1,S++(Crc.le 2 x.length++x),Ky,by omega,by go_num,by rw[GV.out];unfold CO;rw[Ac hxl];rfl,by rw[←Cw];exact gV.out,gW,Ay⟩
     case measure=>simp[intOf];omega
   ·obtain rfl:k=l.length:=(by omega);go_wp2_with fail;refine(Qs Ch).mono ?_;rintro e w3⟨rfl,hu⟩;have HB3:=Hi (Bu HB hu Dw HB.size)
    have hR:Hid (BK l=(Crc.le 2 l.length++S,0)):=Hi (by
     have h:=HS.out;rw[Ck] at h;unfold BK Er;rw[Ac (by omega),h];rfl)
    clear hu;go_wp2_with fail;go_ret2;rw[hR.out];exact⟨rfl,HB3⟩
end
section
open Go.RowKit Go.Maps
open Wal
theorem Ik(P:Program)(W:World)(t:TypeId)(hu:P.underlying t=some .string)(s:List UInt8)(lo:Nat)(h1:lo≤s.length):
  (Instr.slice t (.string (bs s)) (some (.int .i64 (lo:Int))) none none).run P W=.ok (.string (bs (s.drop lo))) W:=by
 have g2:(lo:Int)≤(s.length:Int):=by omega
 simp[Instr.slice,ER hu,Instr.sliceBounds,run_sliceBound,go_sem,g2]
structure Uo(w:World)(p q:Nat)(s:List UInt8)(l:List (List UInt8))(fp:Nat→Prop):Prop where
 left:w.heap[p]?=some (.cells #[.string (bs s)] 9)
 ne:p≠q
 row:∃ v,w.heap[q]?=some (.cells #[v] 27)∧w.ownsRow 0 9 1 v l.length (strCells l)∧v.ownBlock≠some p∧v.ownBlock≠some q∧fp=fun k=>k=p∨k=q∨v.ownBlock=some k
theorem agz{w w1 w2:World}{p q gg cap2:Nat}{v:Value}{s0 t:List UInt8}{l:List (List UInt8)}{ob:Obj}(hne:p≠q)(hb:Bw w w1)
  (hp:w1.heap[p]?=some (.cells #[.string (bs s0)] 9))(hq:w1.heap[q]?=some (.cells #[v] 27))(hvp:v.ownBlock≠some p)(Pn:v.ownBlock≠some q)
  (asx:((w1.alloc ob).drew).grownBy w2 v.ownBlock)(hown:w2.ownsRow 0 9 1 (.slice (some ⟨gg,0,none⟩) (l.length+1) cap2) (l.length+1) (strCells l++[.string (bs t)]))
  (hat:v.ownBlock=some gg∨gg=w1.heap.size+1)(s:List UInt8)(hpl:p < w.heap.size)(Zg:q < w.heap.size):
  A7 (fun k=>k=p∨k=q∨v.ownBlock=some k) w ((w2.setCell ⟨q,0,none⟩ (.slice (some ⟨gg,0,none⟩) (l.length+1) cap2)).setCell ⟨p,0,none⟩ (.string (bs s)))∧
  Cg (fun k=>k=p∨k=q∨v.ownBlock=some k) (fun k=>k=p∨k=q∨(Value.slice (some ⟨gg,0,none⟩) (l.length+1) cap2).ownBlock=some k) w∧
  Uo ((w2.setCell ⟨q,0,none⟩ (.slice (some ⟨gg,0,none⟩) (l.length+1) cap2)).setCell ⟨p,0,none⟩ (.string (bs s))) p q s (l++[t]) (fun k=>k=p∨k=q∨(Value.slice (some ⟨gg,0,none⟩) (l.length+1) cap2).ownBlock=some k):=by
 have hs1:=hb.size;have Zh:p < w1.heap.size:=by omega
 have Zi:q < w1.heap.size:=by omega
 have ha:Bw w1 (w1.alloc ob).drew:=((Ad _ _).alloc (Ab _) _).drew;have u1:A7 (fun k=>k=p∨k=q∨v.ownBlock=some k) w w1:=A7.of_below hb;have u2:A7 (fun k=>k=p∨k=q∨v.ownBlock=some k) w (w1.alloc ob).drew:=u1.trans (G:=fun _=>False) (A7.of_below ha) (fun _ f=>f.elim);have u3:A7 (fun k=>k=p∨k=q∨v.ownBlock=some k) w w2:=u2.trans (A7.of_grownBy (F:=fun k=>v.ownBlock=some k) asx (fun k e=>e)) (fun k e=>.inl (.inr (.inr e)));have hsz:(w1.alloc ob).drew.heap.size=w1.heap.size+1:=by rw[World.size_drew,Ai]
 have hp2:w2.heap[p]?=some (.cells #[.string (bs s0)] 9):=(asx.block p (by omega) (Ne.symm hvp)).trans ((ha.block p Zh).trans hp);have hq2:w2.heap[q]?=some (.cells #[v] 27):=(asx.block q (by omega) (Ne.symm Pn)).trans ((ha.block q Zi).trans hq);have uL:gg≠p:=fun e=>by
  rcases hat with hat|hat
  ·exact hvp (by rw[hat,e])
  ·omega
 have uM:gg≠q:=fun e=>by
  rcases hat with hat|hat
  ·exact Pn (by rw[hat,e])
  ·omega
 have hq3:=Bh w2 q 0 _ _ (.slice (some ⟨gg,0,none⟩) (l.length+1) cap2) hq2;have c1:A7 (fun k=>k=q) w2 (w2.setCell ⟨q,0,none⟩ (.slice (some ⟨gg,0,none⟩) (l.length+1) cap2)):=(A7.refl (fun k=>k=q) w2).setCell (p:=⟨q,0,none⟩) (.inl rfl) _;have c2:A7 (fun k=>k=p) (w2.setCell ⟨q,0,none⟩ (.slice (some ⟨gg,0,none⟩) (l.length+1) cap2)) ((w2.setCell ⟨q,0,none⟩ (.slice (some ⟨gg,0,none⟩) (l.length+1) cap2)).setCell ⟨p,0,none⟩ (.string (bs s))):=(A7.refl (fun k=>k=p) _).setCell (p:=⟨p,0,none⟩) (.inl rfl) _;have hp3:=(c1.block p (by have:=asx.size;omega) hne).trans hp2;have hz:q < w2.heap.size:=by have:=asx.size;omega
 refine⟨(u3.setCell (p:=⟨q,0,none⟩) (.inl (.inr (.inl rfl))) _).setCell (p:=⟨p,0,none⟩) (.inl (.inl rfl)) _,?_,⟨Bh _ p 0 _ _ _ hp3,hne,.slice (some ⟨gg,0,none⟩) (l.length+1) cap2,(c2.block q (by have:=c1.size;omega) (Ne.symm hne)).trans hq3,?_,fun e=>uL (by simpa[Value.ownBlock] using e),fun e=>uM (by simpa[Value.ownBlock] using e),rfl⟩⟩
 ·rintro k (rfl|rfl|hk)
  ·exact .inl (.inl rfl)
  ·exact .inl (.inr (.inl rfl))
  ·simp[Value.ownBlock] at hk;subst hk;rcases hat with hat|hat
   ·exact .inl (.inr (.inr hat))
   ·exact .inr (by omega)
 ·rw[Aj,Mi];exact AL (AL hown c1 (fun g hg e=>uM (by simp[Value.ownBlock] at hg;omega))) c2 (fun g hg e=>uL (by simp[Value.ownBlock] at hg;omega))
def uN(w:World)(p q:Nat)(s:List UInt8)(l:List (List UInt8))(fp:Nat→Prop)(e:Ending)(w':World):Prop:=
 ∃ fp',A7 fp w w'∧Cg fp fp' w∧match Fu s with
  |none=>e=.returned (.int .i64 6)∧Uo w' p q s l fp'
  |some (t,n)=>e=.returned (.int .i64 0)∧Uo w' p q (s.drop n) (l++[t]) fp'
theorem agA{w:World}{p q:Nat}{s:List UInt8}{l:List (List UInt8)}{fp:Nat→Prop}(h:Uo w p q s l fp)(hs:s.length≤1000000000)(hl:l.length≤1000000):
  Calls prog 212 #[.pointer (some ⟨p,0,none⟩),.pointer (some ⟨q,0,none⟩)] w fun e w'=>uN w p q s l fp e w':=by
 obtain⟨hp,hne,v,hq,hown,hvp,Pn,rfl⟩:=h;have hpl:p < w.heap.size:=(BZ.1 hp).1;have Zg:q < w.heap.size:=(BZ.1 hq).1;have cp:w.cell? ⟨p,0,none⟩=some (.string (bs s)):=by rw[AY w p _ _ _ _ hp];rfl
 have cq:w.cell? ⟨q,0,none⟩=some v:=by rw[AY w q _ _ _ _ hq];rfl
 have Lj:=Cb w p 0 _ _ hp;have Zj:=Cb w q 0 _ _ hq;unfold uN;cases hR:Fu s with
 |none=>
  have hV:Dx s=([],0,6):=by unfold Dx;rw[hR]
  have HP:=Hi hp;have HQ:=Hi hq;have HO:=Hi hown;have HV:=Hi hV;clear hp hq hown hR hV;go_enter func212,ntmps212;go_wp2_with fail;refine(Un s _ (by omega)).mono ?_;rw[HV.out];rintro e w1⟨rfl,hb⟩;have hu:A7 (fun k=>k=p∨k=q∨v.ownBlock=some k) w w1:=A7.of_below hb;have HU:=Hi hu;have HB:=Hi hb;clear hu hb;go_wp2_with fail;go_ret;exact⟨_,HU,fun _ h=>.inl h,rfl,(HB.block p hpl).trans HP.out,hne,v,(HB.block q Zg).trans HQ.out,AL HO (ub HB) (fun _ _ f=>f),hvp,Pn,rfl⟩
 |some r=>
  obtain⟨t,n⟩:=r;obtain⟨_,hn1,hn2⟩:=RN hR;have hV:Dx s=(t,n,0):=by unfold Dx;rw[hR]
  have HP:=Hi hp;have HQ:=Hi hq;have HO:=Hi hown;have HV:=Hi hV;clear hp hq hown hR hV;go_enter func212,ntmps212;go_wp2_with fail;refine(Un s _ (by omega)).mono ?_;rw[HV.out];rintro e w1⟨rfl,hb⟩;have HB:=Hi hb;have hp1:=(hb.block p hpl).trans HP.out;have hq1:=(hb.block q Zg).trans HQ.out;have aut:=AL HO (ub hb) (fun _ _ f=>f);have cp:w1.cell? ⟨p,0,none⟩=some (.string (bs s)):=by rw[AY w1 p _ _ _ _ hp1];rfl
  have cq:w1.cell? ⟨q,0,none⟩=some v:=by rw[AY w1 q _ _ _ _ hq1];rfl
  have Lj:=Cb w1 p 0 _ _ hp1;have Zj:=Cb w1 q 0 _ _ hq1;have Zh:p < w1.heap.size:=(BZ.1 hp1).1;have Zi:q < w1.heap.size:=(BZ.1 hq1).1;have RV:=Hi hp1;have Wt:=Hi hq1;have Cq:=Hi aut;have kk:=fun(ob:Obj)=>BD (((((Ad w1.heap.size w1).alloc (Ab _) ob).drew).cell (p:=⟨p,0,none⟩) Zh).trans cp) (((((Ad w1.heap.size w1).alloc (Ab _) ob).drew).cell (p:=⟨q,0,none⟩) Zi).trans cq)
  have hcut:∀ W,(Instr.slice 9 (.string (bs s)) (some (.int .i64 (n:Int))) none none).run prog W=.ok (.string (bs (s.drop n))) W:=fun W=>Ik prog W 9 underlying9 s n hn1
  obtain⟨i0,hi0,hz0,hz1,hz2⟩:=Cz gM;clear hb hp1 hq1 aut;go_wp2_with fail
  go_region_law
   ((refine step_append_lies _ (by rfl) _ _ _ (by rfl) 0 9 i0 _ 1 16 underlying27 hi0 hz0 hz1 hz2 (by rfl) (by omega) v l.length (strCells l) (by rfl) ((Cq.alloc _).drew) ⟨w1.heap.size,0,none⟩ 1 1 [.string (bs t)] (by rfl) (by rfl) (World.news_of_block (cs:=#[.string (bs t)]) (t:=9) (fr:=(0,0)) (Aq w1 _)) (fun u hu=>by simp at hu;subst hu;rfl) (by omega) (by unfold maxLen;omega) (by omega) (Ar _) (w1.heap.size+1) (by simp) ?_;intro gg cap2 w2 avo asx hat avm;have aBM:=(asx.cell_far ⟨p,0,none⟩ (by show p < (w1.alloc _).heap.size;rw[Ai];omega) (Ne.symm hvp)).trans (kk _).1;have agB:=(asx.cell_far ⟨q,0,none⟩ (by show q < (w1.alloc _).heap.size;rw[Ai];omega) (Ne.symm Pn)).trans (kk _).2;have Zk:=(asx.frozen_far ⟨p,0,none⟩ (by show p < (w1.alloc _).heap.size;rw[Ai];omega) (Ne.symm hvp)).trans (((((Ad w1.heap.size w1).alloc (Ab _) _).drew).frozen (p:=⟨p,0,none⟩) Zh).trans Lj);have agC:=(asx.frozen_far ⟨q,0,none⟩ (by show q < (w1.alloc _).heap.size;rw[Ai];omega) (Ne.symm Pn)).trans (((((Ad w1.heap.size w1).alloc (Ab _) _).drew).frozen (p:=⟨q,0,none⟩) Zi).trans Zj)))
  all_goals
   have HD:=Hi (agz hne HB RV Wt hvp Pn asx avo hat (s.drop n) hpl Zg);clear avo asx hat aBM agB Zk agC;go_wp2_with fail;go_ret;exact⟨_,HD.1,HD.2.1,rfl,HD.2.2⟩
def Il(w:World)(s:List UInt8)(e:Ending)(w':World):Prop:=
 match C9 s with
 |none=>e=.returned (.tuple #[.slice none 0 0,.int .i64 7])∧Bw w w'
 |some l=>∃ v,e=.returned (.tuple #[v,.int .i64 0])∧w'.ownsRow 0 9 1 v l.length (strCells l)∧Bw w w'∧∀ g,v.ownBlock=some g→w.heap.size≤g
theorem Hy{w w':World}{s:List UInt8}{e:Ending}(h:C9 s=none)(he:e=.returned (.tuple #[.slice none 0 0,.int .i64 7]))(hb:Bw w w'):Il w s e w':=by
 unfold Il;rw[h];exact⟨he,hb⟩
theorem Wu{w w':World}{s:List UInt8}{l:List (List UInt8)}{e:Ending}{v:Value}(h:C9 s=some l)(he:e=.returned (.tuple #[v,.int .i64 0]))(ho:w'.ownsRow 0 9 1 v l.length (strCells l))(hb:Bw w w')(hg:∀ g,v.ownBlock=some g→w.heap.size≤g):Il w s e w':=by
 unfold Il;rw[h];exact⟨v,he,ho,hb,hg⟩
theorem Uq{k j:Nat}{s S t:List UInt8}{n:Nat}{l:List (List UInt8)}(hj:j < k)(h:readTs k s=(readTs (k -j) S).map fun q=>(l++q.1,q.2))(hr:Fu S=some (t,n)):
  readTs k s=(readTs (k -(j+1)) (S.drop n)).map fun q=>((l++[t])++q.1,q.2):=by
 rw[h,show k -j=(k -(j+1))+1 by omega];simp only[readTs,hr,BI,Option.map_map]
 congr 1
 funext q
 simp
theorem Ur{k j:Nat}{s S:List UInt8}{l:List (List UInt8)}(hj:j < k)(h:readTs k s=(readTs (k -j) S).map fun q=>(l++q.1,q.2))(hr:Fu S=none):readTs k s=none:=by
 rw[h,show k -j=(k -(j+1))+1 by omega];simp[readTs,hr]
theorem agD(w:World)(n':Nat)(s S:List UInt8):
  Uo ((((w.alloc (.cells #[.string (bs s)] 9)).alloc (.cells #[.slice none 0 0] 27)).drewN n').setCell ⟨w.heap.size,0,none⟩ (.string (bs S))) w.heap.size (w.heap.size+1) S [] (fun k=>k=w.heap.size∨k=w.heap.size+1∨(Value.slice none 0 0).ownBlock=some k)∧
  Bw w ((((w.alloc (.cells #[.string (bs s)] 9)).alloc (.cells #[.slice none 0 0] 27)).drewN n').setCell ⟨w.heap.size,0,none⟩ (.string (bs S))):=by
 have ha:=((Ad (w.heap.size+1) (w.alloc (.cells #[.string (bs s)] 9))).alloc (by rw[Ai];omega) (.cells #[.slice none 0 0] 27));have e1:(((w.alloc (.cells #[.string (bs s)] 9)).alloc (.cells #[.slice none 0 0] 27)).drewN n').heap[w.heap.size]?=some (.cells #[.string (bs s)] 9):=(ha.block w.heap.size (by omega)).trans (Aq w _);have e2:(((w.alloc (.cells #[.string (bs s)] 9)).alloc (.cells #[.slice none 0 0] 27)).drewN n').heap[w.heap.size+1]?=some (.cells #[.slice none 0 0] 27):=by
  have:=Aq (w.alloc (.cells #[.string (bs s)] 9)) (.cells #[.slice none 0 0] 27);rw[Ai] at this;exact this
 have c1:A7 (fun k=>k=w.heap.size) (((w.alloc (.cells #[.string (bs s)] 9)).alloc (.cells #[.slice none 0 0] 27)).drewN n') ((((w.alloc (.cells #[.string (bs s)] 9)).alloc (.cells #[.slice none 0 0] 27)).drewN n').setCell ⟨w.heap.size,0,none⟩ (.string (bs S))):=(A7.refl (fun k=>k=w.heap.size) _).setCell (p:=⟨w.heap.size,0,none⟩) (.inl rfl) _;refine⟨⟨Bh _ w.heap.size 0 _ _ _ e1,by omega,.slice none 0 0,(c1.block _ (BZ.1 e2).1 (by omega)).trans e2,?_,by simp[Value.ownBlock],by simp[Value.ownBlock],rfl⟩,?_⟩
 ·show World.ownsRow _ 0 _ 1 (.slice none 0 0) 0 (strCells [])
  have e:strCells []=[]:=by unfold strCells;rfl
  rw[e];exact DJ _ _ _ _
 ·exact((((Ad _ w).alloc (Ab _) _).alloc (by rw[Ai];omega) _).trans ((DK _ n').mono (by rw[Ai,Ai];omega))).setCell (p:=⟨w.heap.size,0,none⟩) (Ab _) _
theorem Ww(s:List UInt8)(w:World)(hs:s.length≤1000000000):
  Calls prog 178 #[.string (bs s)] w fun e w'=>Il w s e w':=by
 by_cases h2:s.length < 2
 ·have hR:Hid (C9 s=none):=Hi (by unfold C9;rw[Ac h2]);go_enter func178,ntmps178;go_wp2_with fail;exact Dt (v:=.tuple #[.slice none 0 0,.int .i64 7]) (by simp[results,results178,go_sem]) rfl (Hy hR.out rfl (((Ad _ w).alloc (Ab _) _).alloc (by rw[Ai];omega) _))
 ·have hv:=val_two s (by omega);have b0:=s[0].toNat_lt;have b1:=s[1].toNat_lt;have hz:(0:Nat) < s.length:=by omega
  have hz1:(1:Nat) < s.length:=by omega
  have hz2:(1:Int) < (s.length:Int):=by omega
  have hz3:(2:Int)≤(s.length:Int):=by omega
  have hcut:∀ W,(Instr.slice 9 (.string (bs s)) (some (.int .i64 2)) none none).run prog W=.ok (.string (bs (s.drop 2))) W:=fun W=>Ik prog W 9 underlying9 s 2 (by omega)
  have HV:=Hi hv;clear hv;go_enter func178,ntmps178;go_wp2_with fail
  go_quiet (fail)
  have e:(s[0].toNat:Int)+(s[1].toNat:Int)*(256:Int)=((s[0].toNat+256*s[1].toNat:Nat):Int):=by omega
  simp only[e];clear e;have hnb:s[0].toNat+256*s[1].toNat≤65535:=by omega
  generalize s[0].toNat+256*s[1].toNat=n at*;go_wp2_with fail;have hst:=fun(n':Nat)=>agD w n' s (s.drop 2)
  have HST:=Hi hst;clear hst
  go_loopw [21] (fun i wr=>∃ (j:Nat) (S:List UInt8) (l:List (List UInt8)) (fp:Nat→Prop),j≤n∧i=.int .i64 j∧Uo wr w.heap.size (w.heap.size+1) S l fp∧l.length=j∧S.length≤s.length∧Bw w wr∧(∀ k,fp k→w.heap.size≤k)∧readTs n (s.drop 2)=(readTs (n -j) S).map fun q=>(l++q.1,q.2)) (fun i _=>n -(intOf i).toNat)
  case atStart=>
   refine⟨0,s.drop 2,[],_,by omega,rfl,(HST _).1,rfl,by rw[BA];omega,(HST _).2,?_,?_⟩
   ·rintro k (rfl|rfl|hk)
    ·exact Ab _
    ·omega
    ·simp[Value.ownBlock] at hk
   ·simp
  case round=>
   obtain⟨j,S,l,fp,hj,rfl,hrd,hll,RX,hb,hfp,hrs⟩:=hrel;have Fa:=Hi hrd;have JF:=Hi hll;have HB:=Hi hb;have Dw:=Hi hfp;have Dn:=Hi hrs;obtain⟨v,hq,hown,hvp,Pn,uO⟩:=hrd.row;have hp:=hrd.left;have cp:wr.cell? ⟨w.heap.size,0,none⟩=some (.string (bs S)):=(by rw[AY wr _ _ _ _ _ hp];rfl);have cq:wr.cell? ⟨w.heap.size+1,0,none⟩=some v:=(by rw[AY wr _ _ _ _ _ hq];rfl);have Zj:=Cb wr (w.heap.size+1) 0 _ _ hq;have HO:=Hi hown;have HQ:=Hi hq;have gX:=Hi (show ∀ g,v.ownBlock=some g→w.heap.size≤g from fun g hg=>hfp g (by rw[uO];exact .inr (.inr hg)));clear hrd hll hb hfp hrs hq hown uO hp;have hR0:∀ (o:Option (List (List UInt8))),C9 s=o→Hid (C9 s=o):=fun o h=>Hi h
   have hrr:C9 s=(readTs n (s.drop 2)).bind fun q=>if q.2=[] then some q.1 else none:=by unfold C9;rw[Aa h2,HV.out]
   have HRR:=Hi hrr;clear hR0 hrr;by_cases hlt:j < n
   ·go_wp2_with fail;refine(agA Fa (by omega) (by rw[JF.out];omega)).mono ?_;rintro e w2⟨fp2,hu,hs2,az9⟩;have HB2:=Hi (Bu HB hu Dw HB.size)
    have Wx:=Hi (show ∀ k,fp2 k→w.heap.size≤k from fun k hk=>by
     rcases hs2 k hk with h|h
     ·exact Dw k h
     ·exact Ah HB.size h)
    clear hu hs2 cp cq Zj;cases hr:Fu S with
    |none=>
     rw[hr] at az9;obtain⟨rfl,Wy⟩:=az9;obtain⟨v2,hq2,_⟩:=Wy.row;have cq2:w2.cell? ⟨w.heap.size+1,0,none⟩=some v2:=(by rw[AY w2 _ _ _ _ _ hq2];rfl);have fq2:=Cb w2 (w.heap.size+1) 0 _ _ hq2;have hR:Hid (C9 s=none):=Hi (by rw[HRR.out,Ur hlt Dn hr];rfl);have hcr:(w2.setCell ⟨w.heap.size+1,0,none⟩ (.slice none 0 0)).cell? ⟨w.heap.size+1,0,none⟩=some (.slice none 0 0):=cr (Bh w2 _ 0 _ _ _ hq2);clear Wy hq2 hr;go_wp2_with fail;exact Dt (v:=.tuple #[.slice none 0 0,.int .i64 7]) (by simp[results,results178,go_sem,hcr]) rfl (Hy hR.out rfl (HB2.setCell (p:=⟨w.heap.size+1,0,none⟩) (by show w.heap.size≤w.heap.size+1;omega) _))
    |some r=>
     obtain⟨t,m⟩:=r;rw[hr] at az9;obtain⟨rfl,Wy⟩:=az9;have Mj:=Hi Wy;have RY:=Hi (Uq hlt Dn hr);clear Wy hr;go_wp2_with fail;go_roundw
     case rel=>exact⟨j+1,S.drop m,l++[t],fp2,by omega,by go_num,Mj,by rw[Aj,JF.out];rfl,by rw[BA];omega,HB2,Wx,RY⟩
     case measure=>simp[intOf];omega
   ·obtain rfl:j=n:=(by omega);by_cases hS:S=[]
    ·subst hS;have hR:Hid (C9 s=some l):=Hi (by rw[HRR.out,Dn.out,Nat.sub_self];simp[readTs]);obtain⟨qv,Zl,rfl⟩:=AA HO.out;have hcr:(wr.setCell ⟨w.heap.size+1,0,none⟩ (.slice qv l.length Zl)).cell? ⟨w.heap.size+1,0,none⟩=some (.slice qv l.length Zl):=cr (Bh wr _ 0 _ _ _ HQ);go_wp2_with fail;have hu:A7 (fun k=>k=w.heap.size+1) wr (wr.setCell ⟨w.heap.size+1,0,none⟩ (.slice qv l.length Zl)):=(A7.refl (fun k=>k=w.heap.size+1) wr).setCell (p:=⟨w.heap.size+1,0,none⟩) (.inl rfl) _;exact Dt (v:=.tuple #[.slice qv l.length Zl,.int .i64 0]) (by simp[results,results178,go_sem,hcr]) rfl (Wu hR.out rfl (AL HO hu (fun g hg e=>Pn (by rw[hg,e]))) (HB.setCell (p:=⟨w.heap.size+1,0,none⟩) (by show w.heap.size≤w.heap.size+1;omega) _) gX)
    ·have hR:Hid (C9 s=none):=Hi (by rw[HRR.out,Dn.out,Nat.sub_self];simp[readTs,hS]);have hne:S.isEmpty=false:=by
      cases S with
      |nil=>exact absurd rfl hS
      |cons=>rfl
     have hcr:(wr.setCell ⟨w.heap.size+1,0,none⟩ (.slice none 0 0)).cell? ⟨w.heap.size+1,0,none⟩=some (.slice none 0 0):=cr (Bh wr _ 0 _ _ _ HQ);clear hS;go_wp2_with fail;exact Dt (v:=.tuple #[.slice none 0 0,.int .i64 7]) (by simp[results,results178,go_sem,hcr]) rfl (Hy hR.out rfl (HB.setCell (p:=⟨w.heap.size+1,0,none⟩) (by show w.heap.size≤w.heap.size+1;omega) _))
end
end Go.Proofs.YtmbbhdebddbhoaaGreat
