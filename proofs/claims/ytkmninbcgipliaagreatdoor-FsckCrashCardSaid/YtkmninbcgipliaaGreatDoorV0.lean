/- Base Crc DiskPlain WalPlain Heap Blk Reads Build DiskRep Builder DiskWalks -/
import Derived.Test.YtkmninbcgipliaaGreatDoorChecked
import Derived.WalkKit
import Derived.Deep.WholeRow
import Derived.Lib.Hide
import Derived.Maps.OwnSet
import Derived.SliceStrings
import Derived.ProofKit
import Derived.SizedLaws
import Derived.Deep.MidRow
import Derived.Lib.Builder
import Derived.Lib.UnsafeStr
import Derived.Laws.Externs
import Derived.Maps.AppendAt
import Derived.BigQuiet
import Derived.Deep.QuietTactic
import Derived.WalkSpells
set_option maxHeartbeats 1000000
set_option maxRecDepth 100000
set_option linter.all false
namespace Go.Proofs.YtkmninbcgipliaaGreatDoor
open Tryz
section
open Go.RowKit
theorem ex{α:Sort _}(a:α):∃ b,a=b:=⟨a,rfl⟩
theorem Hi{p:Prop}(h:p):Hid p:=h
abbrev Bw(w w':World):Prop:=Below w.heap.size w w'
theorem bT{u v w:World}(h:Bw u v)(k:Bw v w):Bw u w:=h.trans (k.mono h.size)
theorem bH{u v w:World}(h:Bw u v)(k:Bw v w):Hid (Bw u w):=h.trans (k.mono h.size)
theorem np{α:Type _}:(∀(l:List α)(i:Nat)(a:α),l.toArray.setIfInBounds i a=(l.set i a).toArray)∧(∀(a b:α)(l:List α),(a::l).set 0 b=b::l)∧(∀(a b:α)(n:Nat)(l:List α),(a::l).set (n+1) b=a::l.set n b):=⟨fun _ _ _=>List.setIfInBounds_toArray ..,fun _ _ _=>rfl,fun _ _ _ _=>rfl⟩
theorem cr{w:World}{k i:Nat}{cs:Array Value}{t:TypeId}{fr:Nat×Nat}{v:Value}(h:w.heap[k]?=some (.cells cs t fr))(e:cs[i]?=some v:=by rfl):w.cell? ⟨k,i,none⟩=some v:=(cell_of_row w k i cs t fr h).trans e
theorem Cw:type_of% @And.intro:=@And.intro
theorem WS:type_of% @Array.getElem?_eq_getElem:=@Array.getElem?_eq_getElem
theorem Dq:type_of% @Array.getElem?_eq_some_iff:=@Array.getElem?_eq_some_iff
theorem Dy:type_of% @Array.getElem?_toList:=@Array.getElem?_toList
theorem La:type_of% @Array.replicate_succ:=@Array.replicate_succ
theorem Lb:type_of% @Array.replicate_zero:=@Array.replicate_zero
theorem Ai:type_of% @Below.refl:=@Below.refl
theorem ET:type_of% @IntWalk.i64_in:=@IntWalk.i64_in
theorem MH:type_of% @List.all_eq_true:=@List.all_eq_true
theorem Dz:type_of% @List.append_assoc:=@List.append_assoc
theorem Ea:type_of% @List.append_nil:=@List.append_nil
theorem Lc:type_of% @List.append_toArray:=@List.append_toArray
theorem Gt:type_of% @List.cons_append:=@List.cons_append
theorem Rk:type_of% @List.drop_eq_getElem_cons:=@List.drop_eq_getElem_cons
theorem MI:type_of% @List.drop_left':=@List.drop_left'
theorem Vm:type_of% @List.eq_nil_iff_forall_not_mem:=@List.eq_nil_iff_forall_not_mem
theorem M7:type_of% @List.filter_append:=@List.filter_append
theorem Rl:type_of% @List.filter_cons_of_neg:=@List.filter_cons_of_neg
theorem Vn:type_of% @List.filter_cons_of_pos:=@List.filter_cons_of_pos
theorem MJ:type_of% @List.flatMap_append:=@List.flatMap_append
theorem Qg:type_of% @List.flatMap_cons:=@List.flatMap_cons
theorem Ig:type_of% @List.getD_eq_getElem?_getD:=@List.getD_eq_getElem?_getD
theorem CJ:type_of% @List.getElem?_eq_getElem:=@List.getElem?_eq_getElem
theorem U1:type_of% @List.getElem?_eq_some_iff:=@List.getElem?_eq_some_iff
theorem Jr:type_of% @List.getElem?_map:=@List.getElem?_map
theorem Sw:type_of% @List.getElem_append_left:=@List.getElem_append_left
theorem Vo:type_of% @List.getElem_append_right:=@List.getElem_append_right
theorem CQ:type_of% @List.getElem_mem:=@List.getElem_mem
theorem Sy:type_of% @List.getElem_of_mem:=@List.getElem_of_mem
theorem AA:type_of% @List.length_append:=@List.length_append
theorem BG:type_of% @List.length_cons:=@List.length_cons
theorem Ct:type_of% @List.length_drop:=@List.length_drop
theorem Ld:type_of% @List.length_eq_zero_iff:=@List.length_eq_zero_iff
theorem M8:type_of% @List.length_filter_le:=@List.length_filter_le
theorem BP:type_of% @List.length_map:=@List.length_map
theorem Ht:type_of% @List.length_nil:=@List.length_nil
theorem Le:type_of% @List.length_singleton:=@List.length_singleton
theorem AZ:type_of% @List.length_take:=@List.length_take
theorem CK:type_of% @List.map_append:=@List.map_append
theorem P8:type_of% @List.map_congr_left:=@List.map_congr_left
theorem Ca:type_of% @List.map_cons:=@List.map_cons
theorem Kq:type_of% @List.map_map:=@List.map_map
theorem Kr:type_of% @List.map_nil:=@List.map_nil
theorem Eh:type_of% @List.mem_append:=@List.mem_append
theorem U2:type_of% @List.mem_append_left:=@List.mem_append_left
theorem Cc:type_of% @List.mem_cons:=@List.mem_cons
theorem F9:type_of% @List.mem_cons_of_mem:=@List.mem_cons_of_mem
theorem Gf:type_of% @List.mem_cons_self:=@List.mem_cons_self
theorem FZ:type_of% @List.mem_filter:=@List.mem_filter
theorem Nv:type_of% @List.mem_flatMap:=@List.mem_flatMap
theorem Bz:type_of% @List.mem_map:=@List.mem_map
theorem Hu:type_of% @List.mem_map_of_mem:=@List.mem_map_of_mem
theorem FJ:type_of% @List.mem_singleton:=@List.mem_singleton
theorem Ei:type_of% @List.nil_append:=@List.nil_append
theorem Js:type_of% @List.nodup_cons:=@List.nodup_cons
theorem JV:type_of% @List.pairwise_cons:=@List.pairwise_cons
theorem Sz:type_of% @List.pairwise_singleton:=@List.pairwise_singleton
theorem Lf:type_of% @List.push_toArray:=@List.push_toArray
theorem Jt:type_of% @List.size_toArray:=@List.size_toArray
theorem Lg:type_of% @List.sum_append:=@List.sum_append
theorem DR:type_of% @List.sum_cons:=@List.sum_cons
theorem MK:type_of% @List.take_append_drop:=@List.take_append_drop
theorem IU:type_of% @List.take_left':=@List.take_left'
theorem Da:type_of% @List.take_length:=@List.take_length
theorem Gu:type_of% @List.take_of_length_le:=@List.take_of_length_le
theorem Cx:type_of% @List.take_succ_eq_append_getElem:=@List.take_succ_eq_append_getElem
theorem Gg:type_of% @List.take_zero:=@List.take_zero
theorem Ae:type_of% @Nat.le_refl:=@Nat.le_refl
theorem Aw:type_of% @Nat.le_trans:=@Nat.le_trans
theorem Hw:type_of% @Nat.lt_of_lt_of_le:=@Nat.lt_of_lt_of_le
theorem Ih:type_of% @Nat.min_eq_left:=@Nat.min_eq_left
theorem P9:type_of% @Nat.mul_le_mul_right:=@Nat.mul_le_mul_right
theorem Ha:type_of% @Nat.zero_add:=@Nat.zero_add
theorem AV:type_of% @Nat.zero_le:=@Nat.zero_le
theorem O8:type_of% @Oper.semAt_some:=@Oper.semAt_some
theorem CL:type_of% @Option.bind_some:=@Option.bind_some
theorem Lh:type_of% @Option.isSome_iff_exists:=@Option.isSome_iff_exists
theorem SA:type_of% @Option.map_eq_some_iff:=@Option.map_eq_some_iff
theorem EK:type_of% @Option.map_some:=@Option.map_some
theorem GQ:type_of% @Option.some.inj:=@Option.some.inj
theorem Ci:type_of% @Option.some.injEq:=@Option.some.injEq
theorem ML:type_of% @Prod.mk.injEq:=@Prod.mk.injEq
theorem DZ:type_of% @World.ownsRow_nil:=@World.ownsRow_nil
theorem Ay:type_of% @World.size_alloc:=@World.size_alloc
theorem FQ:type_of% @beq_eq_false_iff_ne:=@beq_eq_false_iff_ne
theorem Cr:type_of% @block_lt_of_cell:=@block_lt_of_cell
theorem EU:type_of% @bodyPost_ret:=@bodyPost_ret
theorem Dr:type_of% @callsIn_wide:=@callsIn_wide
theorem BL:type_of% @cell_of_row:=@cell_of_row
theorem MM:type_of% @decide_eq_true:=@decide_eq_true
theorem Dt:type_of% @frozen_of_row:=@frozen_of_row
theorem AQ:type_of% @heap_alloc_new:=@heap_alloc_new
theorem Cu:type_of% @heap_setCell_same:=@heap_setCell_same
theorem Ab:type_of% @if_neg:=@if_neg
theorem Ad:type_of% @if_pos:=@if_pos
theorem DC:type_of% @info_parts:=@info_parts
theorem O9:type_of% @of_decide_eq_true:=@of_decide_eq_true
theorem Hd:type_of% @run_underlying:=@run_underlying
end
section
open Go.RowKit
def bs(l:List UInt8):ByteArray:=⟨l.toArray⟩
@[simp] theorem zh (l:List UInt8):(bs l).size=l.length:=rfl
@[simp] theorem ar5 (l:List UInt8):(bs l).data=l.toArray:=rfl
@[simp] theorem aDk (l k:List UInt8):bs l++bs k=bs (l++k):=by
 apply ByteArray.ext;simp[ByteArray.data_append]
theorem ar7{l:List UInt8}{i:Nat}(h:i < (bs l).size):i < l.length:=h
@[simp] theorem aDm (l:List UInt8) (i:Nat) (h:i < (bs l).size):(bs l)[i]=l[i]'(ar7 h):=rfl
@[simp] theorem aDl (l:List UInt8) (a b:Nat):(bs l).extract a b=bs ((l.take b).drop a):=by
 apply ByteArray.ext;simp[ByteArray.data_extract];apply List.ext_getElem?;intro i;simp[List.getElem?_take,List.getElem?_drop];by_cases h:i < b -a
 ·simp[h,show a+i < b by omega]
 ·simp[h,show ¬ a+i < b by omega]
@[simp] theorem aDn (l:List UInt8):(bs l).toList=l:=ByteArray.toList_mk l
theorem amV{k:IntKind}{a b:Int}(h:a=b):Ending.returned (.int k a)=.returned (.int k b):=by rw[h]
theorem anZ(l:List UInt8)(k:Nat)(h:k < l.length):l.take (k+1)=l.take k++[l[k]]:=Cx h
@[irreducible] def Dh (k:List UInt8):Array Value:=(k.map fun b=>Value.int .u8 (b.toNat:Int)).toArray
@[simp] theorem nu (k:List UInt8):(Dh k).size=k.length:=by unfold Dh;simp
theorem gP(k:List UInt8)(i:Nat)(h:i < k.length):(Dh k)[i]?=some (.int .u8 (k[i].toNat:Int)):=by
 unfold Dh;rw[List.getElem?_toArray,Jr,CJ h];rfl
theorem aBH(k:List UInt8)(i:Nat)(b:UInt8):(Dh k).setIfInBounds i (.int .u8 (b.toNat:Int))=Dh (k.set i b):=by
 unfold Dh;rw[List.map_set,List.setIfInBounds_toArray]
theorem adI(k:List UInt8):(Dh k).all (·.oneCell')=true:=by
 unfold Dh;rw[Array.all_eq_true];intro i hi;simp at hi ⊢;rfl
theorem YC(n:Nat):(UInt8.ofNat n).toNat=n % 256:=rfl
theorem aP(P:Program)(w:World)(src e dst:TypeId)(hs:P.underlying src=some (.slice e))(he:P.underlying e=some (.int .u8))(hd:P.underlying dst=some .string)
  (b off len cap:Nat)(k:List UInt8)(hlen:k.length=len)(Gb:∀ i,(h:i < k.length)→w.cell? ⟨b,off+i,none⟩=some (.int .u8 (k[i].toNat:Int))):
  (convert src dst (.slice (some ⟨b,off,none⟩) len cap)).run P w=.ok (.string (bs k)) w:=by
 have h:=run_convert_bytes_arg (P:=P) w src e hs he b off len cap (k.map fun x=>(x.toNat:Int)) (by simpa using hlen) (fun i hi=>by
  rw[Gb i (by omega)];simp[Ig,CJ (show i < k.length by omega)]) dst hd
 rw[h]
 congr 2
 apply ByteArray.ext;apply Array.ext';rw[strOfNums_data];simp[bs,Function.comp_def]
theorem aAi(P:Program)(w:World)(t e:TypeId)(N n b:Nat)(hu:P.underlying t=some (.array N e))(hs:(P.info? e).map (·.size)=some 1)(hn:n≤N):
  (Instr.sliceAt t (.pointer (some ⟨b,0,none⟩)) none (some (.int .i64 (n:Int))) none).run P w=.ok (.slice (some ⟨b,0,none⟩) n N) w:=by
 cases hq:P.info? e with
 |none=>simp[hq] at hs
 |some i=>
  simp[Instr.sliceAt,Instr.sureAddr,Hd hu,Instr.sliceBounds,run_sliceBound,sizeOf,typeInfo,hq,go_sem,hn]
theorem aAj(P:Program)(w:World)(t e:TypeId)(N b:Nat)(hu:P.underlying t=some (.array N e))(hs:(P.info? e).map (·.size)=some 1):
  (Instr.sliceAt t (.pointer (some ⟨b,0,none⟩)) none none none).run P w=.ok (.slice (some ⟨b,0,none⟩) N N) w:=by
 cases hq:P.info? e with
 |none=>simp[hq] at hs
 |some i=>
  simp[Instr.sliceAt,Instr.sureAddr,Hd hu,Instr.sliceBounds,sizeOf,typeInfo,hq,go_sem]
theorem E5(w:World)(c:Array Value)(T:TypeId)(i:Nat):(w.alloc (.cells c T)).cell? ⟨w.heap.size,i,none⟩=c[i]? :=
 BL _ _ i c T (0,0) (heap_alloc_last w _)
theorem adg(P:Program)(w:World)(src e dst T:TypeId)(hs:P.underlying src=some (.slice e))(he:P.underlying e=some (.int .u8))(hd:P.underlying dst=some .string)
  (x:Int)(b:UInt8)(hx:x=(b.toNat:Int)):
  (convert src dst (.slice (some ⟨w.heap.size,0,none⟩) 1 1)).run P (w.alloc (.cells #[.int .u8 x] T))=.ok (.string (bs [b])) (w.alloc (.cells #[.int .u8 x] T)):=by
 subst hx;refine aP P _ src e dst hs he hd _ 0 1 1 [b] rfl (fun i hi=>?_);rw[Ha,E5];obtain rfl:i=0:=by simpa using hi
 rfl
end
namespace A9
def step(c:Nat):Nat:=if c % 2=1 then(c / 2) ^^^ 3988292384 else c / 2
def steps:Nat→Nat→Nat
 |0,c=>c
 |n+1,c=>steps n (step c)
theorem anT(n c:Nat):steps (n+1) c=step (steps n c):=by
 induction n generalizing c with
 |zero=>rfl
 |succ n ih=>rw[steps,ih (step c)];rfl
theorem aB3{c:Nat}(h:c < 2 ^ 32):step c < 2 ^ 32:=by
 unfold step;have h2:c / 2 < 2 ^ 32:=by omega
 split
 ·exact Nat.xor_lt_two_pow h2 (by decide)
 ·exact h2
theorem vN{c:Nat}(h:c < 2 ^ 32)(n:Nat):steps n c < 2 ^ 32:=by
 induction n generalizing c with
 |zero=>exact h
 |succ n ih=>exact ih (aB3 h)
theorem aCZ(a b:Nat):(a ^^^ b) / 2=(a / 2) ^^^ (b / 2):=by
 have h:=Nat.xor_div_two_pow (a:=a) (b:=b) (n:=1);simpa using h
theorem aD0(a b:Nat):(a ^^^ b) % 2=((a % 2) ^^^ (b % 2)):=by
 have h:=Nat.xor_mod_two_pow (a:=a) (b:=b) (n:=1);simpa using h
theorem aB4(a b:Nat):step (a ^^^ b)=step a ^^^ step b:=by
 unfold step;rw[aD0,aCZ];rcases Nat.mod_two_eq_zero_or_one a with ha|ha<;>rcases Nat.mod_two_eq_zero_or_one b with hb|hb<;>simp only[ha,hb]
 ·simp
 ·simp[Nat.xor_assoc]
 ·simp[Nat.xor_assoc,Nat.xor_comm 3988292384]
 ·have e:(a / 2 ^^^ 3988292384) ^^^ (b / 2 ^^^ 3988292384)=(a / 2 ^^^ b / 2) ^^^ (3988292384 ^^^ 3988292384):=by
   rw[Nat.xor_assoc,Nat.xor_assoc,←Nat.xor_assoc 3988292384,Nat.xor_comm 3988292384 (b / 2),Nat.xor_assoc (b / 2)]
  simp[e]
theorem aB6(n a b:Nat):steps n (a ^^^ b)=steps n a ^^^ steps n b:=by
 induction n generalizing a b with
 |zero=>rfl
 |succ n ih=>simp only[steps];rw[aB4,ih]
theorem aB2(h:Nat):step (2*h)=h:=by
 unfold step;rw[Ab (by omega)];omega
theorem aB5(n h:Nat):steps n (2 ^ n*h)=h:=by
 induction n generalizing h with
 |zero=>simp[steps]
 |succ n ih=>
  simp only[steps];rw[Nat.pow_succ,Nat.mul_comm (2 ^ n) 2,Nat.mul_assoc,aB2,ih]
theorem ax2(h l:Nat)(hl:l < 256):256*h+l=(256*h) ^^^ l:=by
 have e:=Nat.two_pow_add_eq_or_of_lt (i:=8) (b:=l) (by simpa using hl) h;have e2:2 ^ 8*h ^^^ l=2 ^ 8*h ||| l:=by
  apply Nat.eq_of_testBit_eq;intro i;simp only[Nat.testBit_xor,Nat.testBit_or,Nat.testBit_two_pow_mul];by_cases hi:i < 8
  ·simp[show ¬ 8≤i by omega]
  ·have:l.testBit i=false:=Nat.testBit_lt_two_pow (Hw hl (by
    have:=Nat.pow_le_pow_right (n:=2) (by decide) (show 8≤i by omega);simpa using this))
   simp[this]
 have e3:(2:Nat) ^ 8=256:=by decide
 rw[e3] at e e2;rw[e,e2]
def tab(i:Nat):Nat:=steps 8 i
theorem arc(c b:Nat):(c / 256) ^^^ tab ((c % 256) ^^^ b)=steps 8 (c ^^^ b):=by
 have hc:c=(256*(c / 256)) ^^^ (c % 256):=by
  rw[←ax2 _ _ (Nat.mod_lt _ (by decide))];omega
 have h1:steps 8 (c ^^^ b)=steps 8 (256*(c / 256)) ^^^ steps 8 ((c % 256) ^^^ b):=by
  rw[←aB6,←Nat.xor_assoc,←hc]
 rw[h1];have h2:=aB5 8 (c / 256);have e3:(2:Nat) ^ 8=256:=by decide
 rw[e3] at h2;rw[h2];rfl
def reg(c:Nat)(l:List UInt8):Nat:=l.foldl (fun c b=>steps 8 (c ^^^ b.toNat)) c
theorem amT(c:Nat)(l:List UInt8)(b:UInt8):reg c (l++[b])=steps 8 (reg c l ^^^ b.toNat):=by simp[reg]
theorem zm(b:UInt8):b.toNat < 2 ^ 32:=Nat.lt_trans b.toNat_lt (by decide)
theorem amS{c:Nat}(h:c < 2 ^ 32)(l:List UInt8):reg c l < 2 ^ 32:=by
 induction l generalizing c with
 |nil=>exact h
 |cons b l ih=>exact ih (vN (Nat.xor_lt_two_pow h (zm b)) 8)
def TS(c:Nat):Nat:=4294967295 -c
theorem am3(c:Nat):TS c < 2 ^ 32:=by unfold TS;omega
def more(c:Nat)(l:List UInt8):Nat:=TS (reg (TS c) l)
def sum(l:List UInt8):Nat:=more 0 l
theorem sum_lt(l:List UInt8):sum l < 2 ^ 32:=am3 _
def val:List UInt8→Nat
 |[]=>0
 |b :: l=>b.toNat+256*val l
theorem val_append(l k:List UInt8):val (l++k)=val l+256 ^ l.length*val k:=by
 induction l with
 |nil=>simp[val]
 |cons b l ih=>simp only[Gt,val,ih,BG,Nat.pow_succ];rw[Nat.mul_add,←Nat.mul_assoc,Nat.mul_comm 256 (256 ^ l.length)];omega
theorem JS(l:List UInt8):val l < 256 ^ l.length:=by
 induction l with
 |nil=>simp[val]
 |cons b l ih=>
  have:=b.toNat_lt;simp only[val,BG,Nat.pow_succ];omega
def le:Nat→Nat→List UInt8
 |0,_=>[]
 |n+1,v=>UInt8.ofNat v :: le n (v / 256)
@[simp] theorem C9 (n v:Nat):(le n v).length=n:=by
 induction n generalizing v with
 |zero=>rfl
 |succ n ih=>simp[le,ih]
theorem wy(n v:Nat):val (le n v)=v % 256 ^ n:=by
 induction n generalizing v with
 |zero=>simp[le,val];omega
 |succ n ih=>
  simp only[le,val,ih];rw[Nat.pow_succ,Nat.mul_comm (256 ^ n) 256,Nat.mod_mul];rfl
theorem val_inj:∀ {l k:List UInt8},l.length=k.length→val l=val k→l=k
 |[],[],_,_=>rfl
 |a :: l,b :: k,hl,hv=>by
  have ha:=a.toNat_lt;have hb:=b.toNat_lt;simp only[val] at hv;have e1:a.toNat=b.toNat:=by omega
  have e2:val l=val k:=by omega
  rw[UInt8.toNat_inj.1 e1,val_inj (by simpa using hl) e2]
theorem lN(l:List UInt8):le l.length (val l)=l:=
 val_inj (C9 _ _) (by rw[wy];exact Nat.mod_eq_of_lt (JS l))
def Fx(l:List UInt8):List UInt8:=l++le 4 (sum l)
theorem Sl(l:List UInt8):(Fx l).length=l.length+4:=by simp[Fx,C9]
theorem aAu(l:List UInt8):(Fx l).take ((Fx l).length -4)=l:=by
 rw[Sl,Nat.add_sub_cancel,Fx,List.take_left]
def Ey(l:List UInt8):List UInt8×Int:=if l.length < 4 then([],6) else if Fx (l.take (l.length -4))=l then(l.take (l.length -4),0) else([],7)
theorem acL(l:List UInt8):Ey (Fx l)=(l,0):=by
 unfold Ey;rw[aAu,Ad rfl,Ab (by rw[Sl];omega)]
theorem acK{l:List UInt8}(h:(Ey l).2=0):Fx (Ey l).1=l:=by
 unfold Ey at h ⊢;split
 ·rename_i h4;rw[Ad h4] at h;simp at h
 ·rename_i h4
  rw[Ab h4] at h;split
  ·rename_i h5;exact h5
  ·rename_i h5;rw[Ab h5] at h;simp at h
end A9
section
open Go.RowKit
@[irreducible] def MF (k:Nat):Array Value:=((List.range 256).map fun i=>Value.int .u32 (if i < k then(A9.tab i:Nat) else 0)).toArray
theorem mW(k i:Nat)(h:i < 256):(MF k)[i]?=some (.int .u32 (if i < k then(A9.tab i:Nat) else 0)):=by
 unfold MF;rw[List.getElem?_toArray,Jr,List.getElem?_range h];simp
theorem aS(k:Nat):(MF k).size=256:=by unfold MF;simp
theorem aBj(k:Nat)(h:k < 256):(MF k).setIfInBounds k (.int .u32 (A9.tab k:Nat))=MF (k+1):=by
 apply Array.ext_getElem?;intro i;rw[Array.getElem?_setIfInBounds];by_cases hi:i < 256
 ·rw[mW _ _ hi,mW _ _ hi];by_cases e:k=i
  ·subst e;simp[aS,hi]
  ·rw[Ab e];by_cases h2:i < k
   ·simp[h2,show i < k+1 by omega]
   ·simp[h2,show ¬ i < k+1 by omega]
 ·rw[Ab (by omega),Array.getElem?_eq_none (by rw[aS];omega),Array.getElem?_eq_none (by rw[aS];omega)]
theorem anX:Tryz.zeroCells349=MF 0:=by
 unfold MF
 kernel_rfl
theorem aBk:(prog.info? 349).map (fun i=>(i.zero,i.size))=some (some (.agg Tryz.zeroCells349),256):=by kernel_rfl
theorem vQ(k:Nat):(prog.info? 349).map (·.size)=some (MF k).size:=by rw[aS];exact(zero_of_info aBk).2
theorem anY(k:Nat):(MF k).all (·.oneCell')=true:=by
 rw[Array.all_eq_true];intro i hi;have:=mW k i (by rw[aS] at hi;exact hi);rw[WS hi] at this;rw[GQ this];rfl
theorem aqW(c:Nat)(h:c < 2 ^ 32):bits .and .u32 (c:Int) 1=((c % 2:Nat):Int):=by
 rw[show(1:Int)=((1:Nat):Int) from rfl,u32_and_nat c 1 h (by decide),Nat.and_one_is_mod]
theorem jf(a b:Nat)(ha:a < 2 ^ 32)(hb:b < 2 ^ 32):bits .xor .u32 (a:Int) (b:Int)=((a ^^^ b:Nat):Int):=u32_xor_nat a b ha hb
theorem aBl(w:World):
  Calls prog 281 #[] w fun e w'=>e=.returned (.agg (MF 256))∧Bw w w':=by
 go_in
 go_wp2_with fail;rw[anX]
 go_loopw [3] (fun i wr=>∃ k:Nat,k≤256∧i=.int .i64 k∧wr=w.alloc (Obj.cells (MF k) 349)) (fun i _=>256 -(intOf i).toNat)
 case atStart=>exact⟨0,by omega,rfl,rfl⟩
 case round=>
  obtain⟨k,hk,rfl,rfl⟩:=hrel;by_cases hlt:k < 256
  ·have Gb:=mW k k hlt;go_wp2
   go_loop [2,8] (fun c j=>∃ i:Nat,i≤8∧j=.int .i64 i∧c=.int .u32 (A9.steps i k:Nat)) (fun _ j=>8 -(intOf j).toNat)
   case atStart=>exact⟨0,by omega,rfl,rfl⟩
   case round=>
    obtain⟨i,hi,rfl,rfl⟩:=hrel;by_cases avW:i < 8
    ·have hb:A9.steps i k < 2 ^ 32:=A9.vN (by omega) i;have h1:=aqW _ hb;have h2:=jf (A9.steps i k / 2) 3988292384 (by omega) (by decide);have h3:=A9.anT i k;unfold A9.step at h3;have H1:=Hi h1;have H2:=Hi h2;have H3:=Hi h3;clear h1 h2 h3 Gb;go_wp2_with fail
     ·have ht:(bits BinOp.and IntKind.u32 (↑(A9.steps i k)) 1 == 1)=true:=(by assumption);rw[H1.out] at ht
      go_round
      case rel=>exact⟨i+1,by omega,by go_num,by rw[H3.out,Ad (by simp at ht;omega)];exact congrArg _ H2.out⟩
      case measure=>simp[intOf];omega
     ·have ht:(bits BinOp.and IntKind.u32 (↑(A9.steps i k)) 1 == 1)=false:=(by assumption);rw[H1.out] at ht
      go_round
      case rel=>exact⟨i+1,by omega,by go_num,by rw[H3.out,Ab (by simp at ht;omega)];rfl⟩
      case measure=>simp[intOf];omega
    ·obtain rfl:i=8:=(by omega);have Jo:=aBj k hlt;unfold A9.tab at Jo;go_wp2;go_roundw
     case rel=>exact⟨k+1,by omega,by go_num,rfl⟩
     case measure=>simp[intOf];omega
  ·obtain rfl:k=256:=(by omega);go_wp2_with (first|(refine wpList_load_row rfl 349 _ rfl w.heap.size rfl 349 (MF 256) (0,0) _ (AQ w _) underlying349 rfl (vQ 256) ?_)|(refine wpList_store_row rfl 349 _ _ rfl w.heap.size (MF 256) rfl rfl 349 (MF 256) (AQ w _) (vQ 256) rfl (anY 256) ?_;rw[World.setRow_alloc_new]));exact EU (v:=.agg (MF 256)) (results_cell_row rfl _ _ w.heap.size 349 _ (0,0) _ rfl (AQ w _) underlying349 rfl (vQ 256)) rfl ⟨rfl,(Ai _ _).alloc (Ae _) _⟩
end
section
open Go.RowKit
theorem acI(c:Nat)(h:c < 2 ^ 32):bits .xor .u32 IntKind.u32.max (c:Int)=((A9.TS c:Nat):Int):=by
 have e:IntKind.u32.max=((4294967295:Nat):Int):=by decide
 rw[e,jf _ _ (by decide) h]
 congr 1
 unfold A9.TS;apply Nat.eq_of_testBit_eq;intro i;have h1:=Nat.testBit_two_pow_sub_succ (x:=c) (n:=32) h i;rw[show 4294967295 -c=2 ^ 32 -(c+1) by omega,h1,Nat.testBit_xor,show(4294967295:Nat)=2 ^ 32 -1 by decide,Nat.testBit_two_pow_sub_one];by_cases hi:i < 32
 ·simp[hi]
 ·simp[hi];exact Nat.testBit_lt_two_pow (Hw h (Nat.pow_le_pow_right (by decide) (by omega)))
theorem aD3:Tryz.zeroCells349.size=(MF 256).size:=by rw[anX,aS,aS]
theorem ay8(c:Nat)(l:List UInt8)(w:World)(hc:c < 2 ^ 32)(hs:l.length≤maxLen):
  Calls prog 273 #[.int .u32 c,.string (bs l)] w fun e w'=>e=.returned (.int .u32 (A9.more c l:Nat))∧Bw w w':=by
 unfold maxLen at hs
 go_in
 go_wp2_with fail;refine(aBl _).mono ?_;rintro e w1⟨rfl,hb⟩;go_wp2_with (first|(refine wpList_store_row rfl 349 _ _ rfl w1.heap.size (MF 256) rfl rfl 349 _ (AQ w1 _) (vQ 256) aD3 (anY 256) ?_;rw[World.setRow_alloc_new]))
 go_loop [0,12] (fun r i=>∃ k:Nat,k≤l.length∧i=.int .i64 k∧r=.int .u32 (A9.reg (A9.TS c) (l.take k):Nat)) (fun _ i=>l.length -(intOf i).toNat)
 case atStart=>exact⟨0,by omega,rfl,by rw[acI c hc];rfl⟩
 case round=>
  obtain⟨k,hk,rfl,rfl⟩:=hrel;have ZW:=A9.amS (A9.am3 c) (l.take k);by_cases hlt:k < l.length
  ·have hstep:A9.reg (A9.TS c) (l.take (k+1))=(A9.reg (A9.TS c) (l.take k) / 256) ^^^ A9.tab ((A9.reg (A9.TS c) (l.take k) % 256) ^^^ l[k].toNat):=by
    rw[A9.arc,anZ l k hlt,A9.amT]
   have HS:=Hi hstep;clear hstep;generalize A9.reg (A9.TS c) (l.take k)=r at*;have av6:=l[k].toNat_lt;have hx:bits .xor .u8 ((r:Int) % 256) (l[k].toNat:Int)=((r % 256 ^^^ l[k].toNat:Nat):Int):=by
    rw[show(r:Int) % 256=((r % 256:Nat):Int) by omega];exact u8_xor_nat _ _ (Nat.mod_lt _ (by decide)) (by omega)
   have hi:r % 256 ^^^ l[k].toNat < 256:=Nat.xor_lt_two_pow (n:=8) (Nat.mod_lt _ (by decide)) (by simpa using av6);have Gb:=mW 256 _ hi;rw[Ad hi] at Gb;have ht:A9.tab (r % 256 ^^^ l[k].toNat) < 2 ^ 32:=A9.vN (by omega) 8;have H2:=Hi (jf (r / 256) (A9.tab (r % 256 ^^^ l[k].toNat)) (by omega) ht);go_wp2
   go_round
   case rel=>exact⟨k+1,by omega,by go_num,by rw[HS.out,←H2.out];rfl⟩
   case measure=>simp[intOf];omega
  ·obtain rfl:k=l.length:=(by omega);go_wp2;go_ret;refine⟨amV ?_,(hb.alloc hb.size _).mono (Ae _)⟩;rw[Da] at ZW;exact acI _ ZW
end
section
open Go.RowKit
theorem ali(k v:Nat):A9.le (k+1) v=A9.le k v++[UInt8.ofNat (v / 256 ^ k)]:=by
 induction k generalizing v with
 |zero=>simp[A9.le]
 |succ k ih=>
  rw[A9.le,ih (v / 256)];simp only[A9.le,Gt];rw[Nat.div_div_eq_div_mul,Nat.pow_succ,Nat.mul_comm 256]
def R7(k v:Nat):List UInt8:=A9.le k v++List.replicate (8 -k) 0
theorem alh(k v:Nat)(h:k≤8):(R7 k v).length=8:=by simp[R7,A9.C9];omega
theorem axy(k v:Nat)(h:k < 8):(R7 k v).set k (UInt8.ofNat (v / 256 ^ k))=R7 (k+1) v:=by
 unfold R7;rw[ali,show 8 -k=(8 -(k+1))+1 by omega,List.replicate_succ];rw[List.set_append_right _ _ (by rw[A9.C9];exact Ae _),A9.C9,Nat.sub_self];simp
theorem axz(v n:Nat)(h:n≤8):(R7 8 v).take n=A9.le n v:=by
 unfold R7;have:∀ m v,n≤m→(A9.le m v).take n=A9.le n v:=by
  induction n with
  |zero=>intros;simp[A9.le]
  |succ n ih=>
   intro m v hm;cases m with
   |zero=>omega
   |succ m=>simp only[A9.le,List.take_succ_cons];rw[ih (by omega) m _ (by omega)]
 simp[this 8 v h]
theorem aD1:(#[Value.int .u8 0,Value.int .u8 0,Value.int .u8 0,Value.int .u8 0,Value.int .u8 0,Value.int .u8 0,Value.int .u8 0,Value.int .u8 0]:Array Value)=Dh (R7 0 0):=by
 unfold Dh;rfl
theorem jh(v n:Nat)(w:World)(hn:n≤8):
  Calls prog 189 #[.int .u64 v,.int .i64 n] w fun e w'=>e=.returned (.string (bs (A9.le n v)))∧Bw w w':=by
 go_in
 go_wp2_with fail;rw[aD1]
 go_loopw [7] (fun i wr=>∃ k:Nat,k≤8∧i=.int .i64 k∧wr=w.alloc (Obj.cells (Dh (R7 k v)) 318)) (fun i _=>8 -(intOf i).toNat)
 case atStart=>exact⟨0,by omega,rfl,rfl⟩
 case round=>
  obtain⟨k,hk,rfl,rfl⟩:=hrel;by_cases hlt:k < 8
  ·have hs:(Dh (R7 k v)).setIfInBounds k (.int .u8 ((v:Int) / 2 ^ (8*k) % 256))=Dh (R7 (k+1) v):=by
    rw[←axy k v hlt,←aBH,YC,show(256:Nat)=2 ^ 8 from rfl,←Nat.pow_mul]
    norm_cast
   have hg:=gP (R7 k v) k (by rw[alh _ _ hk];exact hlt);go_wp2;go_roundw
   case rel=>exact⟨k+1,by omega,by go_num,rfl⟩
   case measure=>simp[intOf];omega
  ·obtain rfl:k=8:=(by omega);have CG:=fun(x:World)=>aAi prog x 318 5 8 n w.heap.size underlying318 (by kernel_rfl) hn
   have Tq:=aP prog (w.alloc (Obj.cells (Dh (R7 8 v)) 318)) 54 5 9 underlying54 underlying5 underlying9 w.heap.size 0 n 8 (A9.le n v) (A9.C9 _ _) (fun i hi=>by
    rw[Ha,E5,gP _ _ (by rw[alh _ _ hk];rw[A9.C9] at hi;omega)];simp only[←axz v n hn,List.getElem_take])
   go_wp2;go_ret;exact⟨rfl,(Ai _ _).alloc (Ae _) _⟩
theorem aJ(v n:Nat)(w:World)(hv:v < 256 ^ n)(h1:1≤n)(hn:n≤8):
  Calls prog 208 #[.int .u64 v,.int .i64 n] w fun e w'=>e=.returned (.tuple #[.string (bs (A9.le n v)),.int .i64 0])∧Bw w w':=by
 have J4:v < 18446744073709551616:=Hw hv (by rw[show(18446744073709551616:Nat)=256 ^ 8 from rfl];exact Nat.pow_le_pow_right (by decide) hn);by_cases h8:n < 8
 ·have hq:((v:Int) / 2 ^ (8*n) != 0)=false:=by
   have e:v / 2 ^ (8*n)=0:=(by rw[Nat.pow_mul];exact Nat.div_eq_of_lt hv);have e2:(v:Int) / 2 ^ (8*n)=((v / 2 ^ (8*n):Nat):Int):=(by norm_cast);rw[e2,e];rfl
  go_in
  go_wp2_with fail;refine(jh v n _ hn).mono ?_;rintro e w1⟨rfl,hb⟩;go_wp2;go_ret2;exact⟨rfl,hb⟩
 ·obtain rfl:n=8:=by omega
  go_in
  go_wp2_with fail;refine(jh v 8 _ hn).mono ?_;rintro e w1⟨rfl,hb⟩;go_wp2;go_ret2;exact⟨rfl,hb⟩
theorem aBh(l:List UInt8)(w:World)(hs:l.length≤maxLen):
  Calls prog 238 #[.string (bs l)] w fun e w'=>e=.returned (.int .u32 (A9.sum l:Nat))∧Bw w w':=by
 go_in
 go_wp2_with fail;refine(ay8 0 l _ (by decide) hs).mono ?_;rintro e w1⟨rfl,hb⟩;go_wp2;go_ret;exact⟨rfl,hb⟩
theorem gF(l:List UInt8)(w:World)(hs:l.length≤1099511627776):
  Calls prog 182 #[.string (bs l)] w fun e w'=>e=.returned (.string (bs (A9.Fx l)))∧Bw w w':=by
 have hlt:=A9.sum_lt l
 go_in
 go_wp2_with fail;refine(aBh l _ (by unfold maxLen;omega)).mono ?_;rintro e w1⟨rfl,hb⟩;have H:=Hi hlt;go_wp2_with fail;refine(aJ (A9.sum l) 4 _ H (by decide) (by decide)).mono ?_;rintro e w2⟨rfl,Ac⟩;go_wp2;go_ret;exact⟨rfl,hb.trans (Ac.mono hb.size)⟩
theorem am7(l:List UInt8)(w:World)(hs:l.length≤1099511627776):
  Calls prog 228 #[.string (bs l)] w fun e w'=>e=.returned (.tuple #[.string (bs (A9.Ey l).1),.int .i64 (A9.Ey l).2])∧Bw w w':=by
 by_cases h4:l.length < 4
 ·have H:Hid (A9.Ey l=([],6)):=Hi (Ad h4)
  go_in
  go_wp2;go_ret2;rw[H.out];exact⟨rfl,Ai _ _⟩
 ·by_cases Ki:A9.Fx (l.take (l.length -4))=l
  ·have H:Hid (A9.Ey l=(l.take (l.length -4),0)):=Hi (by unfold A9.Ey;rw[Ab h4,Ad Ki]);have hb:(A9.Fx (l.take (l.length -4)) == l)=true:=(by simp[Ki]);clear Ki
   go_in
   go_wp2_with fail;refine(gF (l.take (l.length -4)) _ (by rw[AZ];omega)).mono ?_;rintro e w1⟨rfl,Aj⟩;go_wp2;go_ret2;rw[H.out];exact⟨rfl,Aj⟩
  ·have H:Hid (A9.Ey l=([],7)):=Hi (by unfold A9.Ey;rw[Ab h4,Ab Ki]);have hb:(A9.Fx (l.take (l.length -4)) == l)=false:=(by simp[Ki]);clear Ki
   go_in
   go_wp2_with fail;refine(gF (l.take (l.length -4)) _ (by rw[AZ];omega)).mono ?_;rintro e w1⟨rfl,Aj⟩;go_wp2;go_ret2;rw[H.out];exact⟨rfl,Aj⟩
theorem uJ(v n:Nat)(w:World)(hv:v < 18446744073709551616)(hn:n≤8):
  Calls prog 243 #[.int .u64 v,.int .i64 n] w fun e w'=>e=.returned (.string (bs (A9.le n v)))∧Bw w w':=by
 go_in
 go_wp2
 go_loopw [0,5,6] (fun q s i wr=>∃ k:Nat,k≤n∧i=.int .i64 k∧q=.int .u64 (v / 256 ^ k:Nat)∧s=.string (bs (A9.le k v))∧Bw w wr) (fun _ _ i _=>n -(intOf i).toNat)
 case atStart=>exact⟨0,by omega,rfl,by simp,rfl,Ai _ _⟩
 case round=>
  obtain⟨k,hk,rfl,rfl,rfl,hb⟩:=hrel;by_cases hlt:k < n
  ·have hq:v / 256 ^ k < 18446744073709551616:=Nat.lt_of_le_of_lt (Nat.div_le_self _ _) hv;have HS:=Hi (ali k v);have HD:Hid (v / 256 ^ (k+1)=v / 256 ^ k / 256):=Hi (by rw[Nat.pow_succ,Nat.div_div_eq_div_mul]);generalize v / 256 ^ k=q at*;have Tq:=adg prog wr 54 5 9 5 underlying54 underlying5 underlying9 ((q:Int) % 256) (UInt8.ofNat q) (by rw[YC];norm_cast);go_wp2;go_roundw
   case rel=>exact⟨k+1,by omega,by go_num,by rw[HD.out];rfl,by rw[HS.out],(hb.alloc hb.size _)⟩
   case measure=>simp[intOf];omega
  ·obtain rfl:k=n:=(by omega);go_wp2;go_ret;exact⟨rfl,hb⟩
theorem aAd(l:List UInt8)(w:World)(hs:l.length≤maxLen):
  Calls prog 246 #[.string (bs l)] w fun e w'=>e=.returned (.int .u32 (A9.sum l:Nat))∧w=w':=by
 unfold maxLen at hs
 go_in
 go_wp2
 go_loop [3,4] (fun c i=>∃ k:Nat,k≤l.length∧i=.int .i64 k∧c=.int .u32 (A9.reg 4294967295 (l.take k):Nat)) (fun _ i=>l.length -(intOf i).toNat)
 case atStart=>exact⟨0,by omega,rfl,rfl⟩
 case round=>
  obtain⟨k,hk,rfl,rfl⟩:=hrel;have ZW:=A9.amS (c:=4294967295) (by decide) (l.take k);by_cases hlt:k < l.length
  ·have HS:Hid (A9.reg 4294967295 (l.take (k+1))=A9.steps 8 (A9.reg 4294967295 (l.take k) ^^^ l[k].toNat)):=Hi (by rw[anZ l k hlt,A9.amT]);generalize A9.reg 4294967295 (l.take k)=r at*;have hx:bits .xor .u32 (r:Int) ((l[k].toNat:Int) % 4294967296)=((r ^^^ l[k].toNat:Nat):Int):=by
    rw[←jf r l[k].toNat ZW (A9.zm _),Int.emod_eq_of_lt (by omega) (by have:=l[k].toNat_lt;omega)]
   have Gq:r ^^^ l[k].toNat < 2 ^ 32:=Nat.xor_lt_two_pow ZW (A9.zm _);go_wp2_with fail;generalize r ^^^ l[k].toNat=q at*;clear hx
   go_loop [3,5,6] (fun c j _=>∃ i:Nat,i≤8∧j=.int .i64 i∧c=.int .u32 (A9.steps i q:Nat)) (fun _ j _=>8 -(intOf j).toNat)
   case atStart=>exact⟨0,by omega,rfl,rfl⟩
   case round=>
    obtain⟨i,hi,rfl,rfl⟩:=hrel;by_cases avW:i < 8
    ·have hb:A9.steps i q < 2 ^ 32:=A9.vN Gq i;have H2:=Hi (jf (A9.steps i q / 2) 3988292384 (by omega) (by decide));have h3:=A9.anT i q;unfold A9.step at h3;have H3:=Hi h3;clear h3;generalize A9.steps i q=c at*;by_cases ht:c % 2=1
     ·have hc:((c:Int) % 2 == 1)=true:=(by rw[beq_iff_eq];omega);have HT:=Hi ht;clear ht;go_wp2
      go_round
      case rel=>exact⟨i+1,by omega,by go_num,by rw[H3.out,Ad HT.out];exact congrArg _ H2.out⟩
      case measure=>simp[intOf];omega
     ·have hc:((c:Int) % 2 == 1)=false:=(by rw[FQ];omega);have HT:=Hi ht;clear ht;go_wp2
      go_round
      case rel=>exact⟨i+1,by omega,by go_num,by rw[H3.out,Ab HT.out];rfl⟩
      case measure=>simp[intOf];omega
    ·obtain rfl:i=8:=(by omega);go_wp2
     go_round
     case rel=>exact⟨k+1,by omega,by go_num,by rw[HS.out]⟩
     case measure=>simp[intOf];omega
  ·obtain rfl:k=l.length:=(by omega);go_wp2;go_ret;rw[Da] at ZW;exact⟨amV (acI _ ZW),rfl⟩
theorem vG(l:List UInt8)(w:World)(hs:l.length≤1099511627776):
  Calls prog 187 #[.string (bs l)] w fun e w'=>e=.returned (.string (bs (A9.Fx l)))∧Bw w w':=by
 have hlt:=A9.sum_lt l
 go_in
 go_wp2_with fail;refine(aAd l _ (by unfold maxLen;omega)).mono ?_;rintro e w1⟨rfl,rfl⟩;have H:=Hi hlt;go_wp2_with fail;refine(uJ (A9.sum l) 4 _ (Nat.lt_trans H (by decide)) (by decide)).mono ?_;rintro e w2⟨rfl,Ac⟩;go_wp2;go_ret;exact⟨rfl,Ac⟩
theorem an3(l:List UInt8)(w:World)(hs:l.length≤1099511627776):
  Calls prog 241 #[.string (bs l)] w fun e w'=>e=.returned (.tuple #[.string (bs (A9.Ey l).1),.int .i64 (A9.Ey l).2])∧Bw w w':=by
 by_cases h4:l.length < 4
 ·have H:Hid (A9.Ey l=([],6)):=Hi (Ad h4)
  go_in
  go_wp2;go_ret2;rw[H.out];exact⟨rfl,Ai _ _⟩
 ·by_cases Ki:A9.Fx (l.take (l.length -4))=l
  ·have H:Hid (A9.Ey l=(l.take (l.length -4),0)):=Hi (by unfold A9.Ey;rw[Ab h4,Ad Ki]);have hb:(A9.Fx (l.take (l.length -4)) == l)=true:=(by simp[Ki]);clear Ki
   go_in
   go_wp2_with fail;refine(vG (l.take (l.length -4)) _ (by rw[AZ];omega)).mono ?_;rintro e w1⟨rfl,Aj⟩;go_wp2;go_ret2;rw[H.out];exact⟨rfl,Aj⟩
  ·have H:Hid (A9.Ey l=([],7)):=Hi (by unfold A9.Ey;rw[Ab h4,Ab Ki]);have hb:(A9.Fx (l.take (l.length -4)) == l)=false:=(by simp[Ki]);clear Ki
   go_in
   go_wp2_with fail;refine(vG (l.take (l.length -4)) _ (by rw[AZ];omega)).mono ?_;rintro e w1⟨rfl,Aj⟩;go_wp2;go_ret2;rw[H.out];exact⟨rfl,Aj⟩
end
section
def Ns:List UInt8:=List.replicate 64 0
structure A8 where
 n:Nat
 base:Nat→List UInt8
 loose:List (Nat×List UInt8)
 left:Int
 down:Bool
namespace A8
def new(n:Nat):A8:=⟨n,fun _=>Ns,[],-1,false⟩
def lay(f:Nat→List UInt8):List (Nat×List UInt8)→Nat→List UInt8
 |[]=>f
 |p :: l=>lay (fun k=>if k=p.1 then p.2 else f k) l
def now(D:A8):Nat→List UInt8:=lay D.base D.loose
def inside(D:A8)(at_ n:Int):Bool:=decide (0≤at_) && decide (0≤n) && decide (at_≤D.n) && decide (n≤D.n -at_)
def text(f:Nat→List UInt8)(k:Nat):Nat→List UInt8
 |0=>[]
 |n+1=>f k++text f (k+1) n
def up(D:A8):Int:=if D.down then 40 else 0
def writes(D:A8)(at_:Nat)(s:List UInt8):Nat→A8×Int
 |0=>(D,0)
 |n+1=>if D.left=0 then({ D with down:=true },40)
  else writes { D with loose:=D.loose++[(at_,s.take 64)],left:=max (D.left -1) (-1) } (at_+1) (s.drop 64) n
def write(D:A8)(at_:Int)(s:List UInt8):A8×Int:=
 if D.down then(D,40) else if s.length % 64=0∧D.inside at_ (s.length / 64:Nat)=true then writes D at_.toNat s (s.length / 64) else(D,2)
def flush(D:A8):A8×Int:=if D.down then(D,40) else({ D with base:=lay D.base D.loose,loose:=[] },0)
def QE(D:A8)(n:Int):A8:={ D with left:=max n (-1) }
def au(keep:List UInt8):Nat→List (Nat×List UInt8)→List (Nat×List UInt8)
 |_,[]=>[]
 |i,p :: l=>(if keep≠[]∧(keep.getD (i % keep.length) 0).toNat % 2=1 then[p] else[])++au keep (i+1) l
def kept(D:A8)(keep:List UInt8):List (Nat×List UInt8):=au keep 0 D.loose
def GX(D:A8)(keep:List UInt8):A8:={ D with base:=lay D.base (D.kept keep),loose:=[],left:= -1,down:=false }
structure BO(D:A8):Prop where
 n1:1≤D.n
 n2:D.n≤16384
 base:∀ k,k < D.n→(D.base k).length=64
 loose:∀ p∈D.loose,p.1 < D.n∧p.2.length=64
 left: -1≤D.left∧D.left≤9223372036854775807
theorem axu(f:Nat→List UInt8)(a b:List (Nat×List UInt8)):lay f (a++b)=lay (lay f a) b:=by
 induction a generalizing f with
 |nil=>rfl
 |cons p a ih=>exact ih _
theorem alg(f:Nat→List UInt8)(a:List (Nat×List UInt8))(p:Nat×List UInt8):lay f (a++[p])=fun k=>if k=p.1 then p.2 else lay f a k:=by
 rw[axu];rfl
theorem lM{N:Nat}{f:Nat→List UInt8}(hf:∀ k,k < N→(f k).length=64){l:List (Nat×List UInt8)}(hl:∀ p∈l,p.1 < N∧p.2.length=64):∀ k,k < N→(lay f l k).length=64:=by
 induction l generalizing f with
 |nil=>exact hf
 |cons p l ih=>
  refine ih (fun k hk=>?_) (fun q hq=>hl q (F9 _ hq));split
  ·exact(hl p Gf).2
  ·exact hf k hk
theorem mX{N:Nat}{f:Nat→List UInt8}(hf:∀ k,k < N→(f k).length=64)(k n:Nat)(h:k+n≤N):(text f k n).length=64*n:=by
 induction n generalizing k with
 |zero=>rfl
 |succ n ih=>simp only[text,AA];rw[hf k (by omega),ih (k+1) (by omega)];omega
theorem ao2(f:Nat→List UInt8)(k n:Nat):text f k (n+1)=text f k n++f (k+n):=by
 induction n generalizing k with
 |zero=>simp[text]
 |succ n ih=>rw[text,ih (k+1),text,Dz,Nat.add_right_comm];rfl
theorem al1{keep:List UInt8}(i:Nat)(l:List (Nat×List UInt8)):∀ p∈au keep i l,p∈l:=by
 induction l generalizing i with
 |nil=>intro p hp;simp[au] at hp
 |cons q l ih=>
  intro p hp;simp only[au,Eh] at hp;rcases hp with hp|hp
  ·split at hp
   ·simp at hp;subst hp;exact Gf
   ·simp at hp
  ·exact F9 _ (ih _ p hp)
theorem BO.new{n:Nat}(h1:1≤n)(h2:n≤16384):BO (A8.new n):=⟨h1,h2,fun _ _=>by simp[A8.new,Ns],fun p hp=>by simp[A8.new] at hp,by simp[A8.new]⟩
theorem BO.now{D:A8}(h:BO D):∀ k,k < D.n→(D.now k).length=64:=lM h.base h.loose
theorem BO.flush{D:A8}(h:BO D):BO D.flush.1:=by
 unfold A8.flush;split
 ·exact h
 ·exact⟨h.n1,h.n2,lM h.base h.loose,fun p hp=>by simp at hp,h.left⟩
theorem BO.QE{D:A8}(h:BO D){n:Int}(hn:n≤9223372036854775807):BO (D.QE n):=⟨h.n1,h.n2,h.base,h.loose,by simp only[A8.QE];omega⟩
theorem BO.GX{D:A8}(h:BO D)(keep:List UInt8):BO (D.GX keep):=
 ⟨h.n1,h.n2,lM h.base (fun p hp=>h.loose p (al1 0 _ p hp)),fun p hp=>by simp[A8.GX] at hp,by simp[A8.GX]⟩
theorem BO.writes{D:A8}(h:BO D){at_:Nat}{s:List UInt8}{n:Nat}(hn:at_+n≤D.n)(hs:64*n≤s.length):BO (A8.writes D at_ s n).1:=by
 induction n generalizing D at_ s with
 |zero=>exact h
 |succ n ih=>
  simp only[A8.writes];split
  ·exact⟨h.n1,h.n2,h.base,h.loose,h.left⟩
  ·have ajG:=h.left;have hD:BO { D with loose:=D.loose++[(at_,s.take 64)],left:=max (D.left -1) (-1) }:=by
    refine⟨h.n1,h.n2,h.base,fun p hp=>?_,by show -1≤max (D.left -1) (-1)∧max (D.left -1) (-1)≤9223372036854775807;omega⟩;rcases Eh.1 hp with hp|hp
    ·exact h.loose p hp
    ·simp at hp;subst hp;exact⟨by show at_ < D.n;omega,by show(s.take 64).length=64;rw[AZ];omega⟩
   exact ih hD (by show at_+1+n≤D.n;omega) (by rw[Ct];omega)
def upd(f:Nat→List UInt8)(i:Nat)(x:List UInt8):Nat→List UInt8:=fun k=>if k=i then x else f k
theorem Qc{f g:Nat→List UInt8}(k n:Nat)(h:∀ i,k≤i→i < k+n→f i=g i):text f k n=text g k n:=by
 induction n generalizing k with
 |zero=>rfl
 |succ n ih=>
  simp only[text];rw[h k (Ae _) (by omega),ih (k+1) (fun i h1 h2=>h i (by omega) (by omega))]
theorem YB(f:Nat→List UInt8)(k m n:Nat):text f k (m+n)=text f k m++text f (k+m) n:=by
 induction m generalizing k with
 |zero=>simp[text]
 |succ m ih=>rw[Nat.add_right_comm,text,ih (k+1),text,Dz,show k+1+m=k+(m+1) by omega]
theorem Ym{f:Nat→List UInt8}{k n:Nat}(hf:∀ i,k≤i→i < k+n→(f i).length=64):(text f k n).length=64*n:=by
 induction n generalizing k with
 |zero=>rfl
 |succ n ih=>simp only[text,AA];rw[hf k (Ae _) (by omega),ih (fun i h1 h2=>hf i (by omega) (by omega))];omega
theorem ao1{f:Nat→List UInt8}{k n i:Nat}(hf:∀ j,k≤j→j < k+n→(f j).length=64)(hi:i < n):
  (text f k n).take (64*i)=text f k i∧((text f k n).drop (64*i)).take 64=f (k+i)∧(text f k n).drop (64*i+64)=text f (k+(i+1)) (n -(i+1)):=by
 have e:text f k n=text f k i++(f (k+i)++text f (k+(i+1)) (n -(i+1))):=by
  have h1:=YB f k (i+1) (n -(i+1));rw[show i+1+(n -(i+1))=n by omega] at h1;rw[h1,ao2,Dz]
 have l1:(text f k i).length=64*i:=Ym (fun j h1 h2=>hf j h1 (by omega));have l2:(f (k+i)).length=64:=hf _ (by omega) (by omega);refine⟨?_,?_,?_⟩
 ·rw[e,IU l1]
 ·rw[e,MI l1,IU l2]
 ·rw[e,←Dz,MI (by rw[AA,l1,l2])]
theorem ao3{f:Nat→List UInt8}{k n i:Nat}{x:List UInt8}(hf:∀ j,k≤j→j < k+n→(f j).length=64)(hi:i < n)(hx:x.length=64):
  text (upd f (k+i) x) k n=(text f k n).take (64*i)++x++(text f k n).drop (64*i+x.length):=by
 obtain⟨h1,_,h3⟩:=ao1 hf hi;rw[hx,h1,h3];have hu:∀ j,k≤j→j < k+n→(upd f (k+i) x j).length=64:=fun j a b=>by
  unfold upd;split
  ·exact hx
  ·exact hf j a b
 have h4:=YB (upd f (k+i) x) k (i+1) (n -(i+1));rw[show i+1+(n -(i+1))=n by omega] at h4;rw[h4,ao2];have e1:upd f (k+i) x (k+i)=x:=by simp[upd]
 have e2:text (upd f (k+i) x) k i=text f k i:=Qc _ _ (fun j a b=>by unfold upd;rw[Ab (by omega)]);have e3:text (upd f (k+i) x) (k+(i+1)) (n -(i+1))=text f (k+(i+1)) (n -(i+1)):=Qc _ _ (fun j a b=>by unfold upd;rw[Ab (by omega)]);rw[e1,e2,e3]
theorem ao4(k n:Nat):text (fun _=>Ns) k n=List.replicate (64*n) 0:=by
 induction n generalizing k with
 |zero=>rfl
 |succ n ih=>
  rw[text,ih,Ns,show 64*(n+1)=64+64*n by omega,List.replicate_append_replicate]
def upTo(f:Nat→List UInt8)(k:Nat):Nat→List UInt8:=fun j=>if j < k then f j else Ns
theorem vY{f:Nat→List UInt8}{N:Nat}(hf:∀ i,i < N→(f i).length=64)(k:Nat):∀ i,i < N→(upTo f k i).length=64:=fun i hi=>by
 unfold upTo;split
 ·exact hf i hi
 ·simp[Ns]
theorem aBQ(f:Nat→List UInt8)(a n:Nat):text (upTo f a) a n=List.replicate (64*n) 0:=by
 rw[←ao4 a n];exact Qc a n (fun i h1 h2=>by unfold upTo;rw[Ab (by omega)])
theorem aBR(f:Nat→List UInt8)(a k n:Nat):text (upTo f (a+(k+1))) a n=text (upd (upTo f (a+k)) (a+k) (f (a+k))) a n:=by
 refine Qc a n (fun i h1 h2=>?_);unfold upd upTo;by_cases e1:i=a+k
 ·rw[Ad e1,e1,Ad (by omega)]
 ·rw[Ab e1];by_cases e2:i < a+k
  ·rw[Ad (by omega),Ad e2]
  ·rw[Ab (by omega),Ab e2]
theorem aBP(f:Nat→List UInt8)(a n:Nat):text (upTo f (a+n)) a n=text f a n:=
 Qc a n (fun i h1 h2=>by unfold upTo;rw[Ad (by omega)])
theorem axv(f:Nat→List UInt8)(l:List (Nat×List UInt8))(k:Nat)(h:k < l.length):lay f (l.take (k+1))=upd (lay f (l.take k)) l[k].1 l[k].2:=by
 rw[Cx h,alg];rfl
end A8
end
namespace Av
open A9 (le val Fx)
def pad(s:List UInt8):List UInt8:=s++List.replicate ((s.length+63) / 64*64 -s.length) 0
theorem Sg(s:List UInt8):(pad s).length=(s.length+63) / 64*64:=by simp[pad];omega
theorem ame(s:List UInt8):(pad s).length % 64=0:=by rw[Sg];omega
def Eg(s:List UInt8):Option (List UInt8):=if s.length≤65535 then some (le 2 s.length++s) else none
def BK:List (List UInt8)→Option (List UInt8)
 |[]=>some []
 |s :: l=>(Eg s).bind fun a=>(BK l).map (a++ ·)
def GN(l:List (List UInt8)):Option (List UInt8):=if l.length≤65535 then(BK l).map (le 2 l.length++ ·) else none
def I4(l:List (List UInt8)):Option (List UInt8):=(GN l).map fun s=>pad (le 4 s.length++s)
theorem ao6(a b:List (List UInt8)):BK (a++b)=(BK a).bind fun x=>(BK b).map (x++ ·):=by
 induction a with
 |nil=>cases h:BK b<;>simp[BK,h]
 |cons s a ih=>
  simp only[Gt,BK,ih];cases Eg s with
  |none=>rfl
  |some x=>
   cases BK a with
   |none=>rfl
   |some y=>
    cases BK b with
    |none=>rfl
    |some z=>simp
def Fv(s:List UInt8):Option (List UInt8×Nat):=
 if s.length < 2 then none else if 2+val (s.take 2)≤s.length then some ((s.take (2+val (s.take 2))).drop 2,2+val (s.take 2)) else none
def Ez:Nat→List UInt8→Option (List (List UInt8)×List UInt8)
 |0,s=>some ([],s)
 |k+1,s=>(Fv s).bind fun p=>(Ez k (s.drop p.2)).map fun q=>(p.1 :: q.1,q.2)
def Dp(s:List UInt8):Option (List (List UInt8)):=
 if s.length < 2 then none else(Ez (val (s.take 2)) (s.drop 2)).bind fun q=>if q.2=[] then some q.1 else none
theorem aM{s t:List UInt8}{n:Nat}(h:Fv s=some (t,n)):Eg t=some (s.take n)∧n≤s.length∧2≤n:=by
 unfold Fv at h;split at h
 ·cases h
 ·split at h
  ·rename_i h1 h2
   simp only[Ci,ML] at h;obtain⟨rfl,rfl⟩:=h;have hv:val (s.take 2) < 256 ^ 2:=by
    have:=A9.JS (s.take 2);rwa[AZ,Ih (by omega)] at this
   have hl:((s.take (2+val (s.take 2))).drop 2).length=val (s.take 2):=(by rw[Ct,AZ];omega);refine⟨?_,h2,by omega⟩;unfold Eg;rw[hl,Ad (by omega)];have e:le 2 (val (s.take 2))=s.take 2:=by
    have:=A9.lN (s.take 2);rwa[AZ,Ih (by omega)] at this
   rw[e]
   congr 1
   generalize val (s.take 2)=v at*;have h3:s.take 2=(s.take (2+v)).take 2:=(by rw[List.take_take,Ih (by omega)]);rw[h3,MK]
  ·cases h
theorem ad4{k:Nat}{s r:List UInt8}{l:List (List UInt8)}(h:Ez k s=some (l,r)):l.length=k∧∃ a,BK l=some a∧a++r=s:=by
 induction k generalizing s l r with
 |zero=>
  simp only[Ez,Ci,ML] at h;obtain⟨rfl,rfl⟩:=h;exact⟨rfl,[],rfl,rfl⟩
 |succ k ih=>
  simp only[Ez] at h;cases h1:Fv s with
  |none=>rw[h1] at h;cases h
  |some p=>
   rw[h1] at h;simp only[CL] at h;cases h2:Ez k (s.drop p.2) with
   |none=>rw[h2] at h;cases h
   |some q=>
    rw[h2] at h;simp only[EK,Ci,ML] at h;obtain⟨rfl,rfl⟩:=h;obtain⟨e1,_,_⟩:=aM (t:=p.1) (n:=p.2) h1;obtain⟨e2,a,e3,e4⟩:=ih (l:=q.1) (r:=q.2) h2;refine⟨by simp[e2],s.take p.2++a,by simp[BK,e1,e3],?_⟩;rw[Dz,e4,MK]
theorem mG{s:List UInt8}{l:List (List UInt8)}(h:Dp s=some l):GN l=some s:=by
 unfold Dp at h;split at h
 ·cases h
 ·rename_i h0
  cases h1:Ez (val (s.take 2)) (s.drop 2) with
  |none=>rw[h1] at h;cases h
  |some q=>
   rw[h1] at h;simp only[CL] at h;split at h
   ·rename_i hq
    simp only[Ci] at h;subst h;obtain⟨e1,a,e2,e3⟩:=ad4 (l:=q.1) (r:=q.2) h1;have hv:val (s.take 2) < 256 ^ 2:=by
     have:=A9.JS (s.take 2);rwa[AZ,Ih (by omega)] at this
    unfold GN;rw[e1,Ad (by omega),e2];simp only[EK];have e:le 2 (val (s.take 2))=s.take 2:=by
     have:=A9.lN (s.take 2);rwa[AZ,Ih (by omega)] at this
    rw[e,←Ea a,←hq,e3,MK]
   ·cases h
def L8(s:List UInt8):Option (List (List UInt8)×Nat):=
 if s.length < 64 then none else if val (s.take 4)≤s.length -4 then
  (Dp ((s.take (4+val (s.take 4))).drop 4)).bind fun l=>
   if pad (s.take (4+val (s.take 4)))=s.take (pad (s.take (4+val (s.take 4)))).length then some (l,(pad (s.take (4+val (s.take 4)))).length) else none
 else none
def mark(gen used:Nat):List UInt8:=pad (Fx ([76,79,71,49]++le 8 gen++le 4 used))
theorem O4(gen used:Nat):(mark gen used).length=64:=by
 unfold mark;rw[Sg,A9.Sl];simp[A9.C9]
def Ja:Nat→List UInt8→Option (List (List (List UInt8)))
 |0,s=>if s=[] then some [] else none
 |k+1,s=>if s=[] then some [] else(L8 s).bind fun p=>(Ja k (s.drop p.2)).map (p.1 :: ·)
theorem ayv{s:List UInt8}{l:List (List UInt8)}{k:Nat}(h:L8 s=some (l,k)):64≤k∧k % 64=0∧k≤s.length:=by
 unfold L8 at h;split at h
 ·cases h
 ·split at h
  ·cases h1:Dp ((s.take (4+val (s.take 4))).drop 4) with
   |none=>rw[h1] at h;cases h
   |some q=>
    rw[h1] at h;simp only[CL] at h;split at h
    ·rename_i h0 h2 h3
     simp only[Ci,ML] at h;obtain⟨_,rfl⟩:=h;have hl:=congrArg List.length h3;rw[AZ] at hl;have hp:=Sg (s.take (4+val (s.take 4)));rw[AZ] at hp;refine⟨by rw[hp];omega,ame _,by omega⟩
    ·cases h
  ·cases h
theorem azz{f:Nat}{s S:List UInt8}{u:Nat}{l:List (List (List UInt8))}{t:List (List UInt8)}{k:Nat}(hS:S≠[])(h:Ja u s=(Ja (f+1) S).map (l++ ·))(hn:L8 S=some (t,k)):
  Ja u s=(Ja f (S.drop k)).map ((l++[t])++ ·):=by
 rw[h];simp only[Ja,Ab hS,hn,CL,Option.map_map]
 congr 1
 funext q
 simp
theorem azy{f:Nat}{s S:List UInt8}{u:Nat}{l:List (List (List UInt8))}(hS:S≠[])(h:Ja u s=(Ja (f+1) S).map (l++ ·))(hn:L8 S=none):Ja u s=none:=by
 rw[h];simp[Ja,hS,hn]
theorem amL(f:Nat):Ja f []=some []:=by cases f<;>rfl
def Jq(s:List UInt8)(n:Nat):Option (Nat×Nat×List (List (List UInt8))):=
 if s.take 64=pad [0] then some (0,0,[]) else
  if s.take 64=mark (val (((s.take 64).take 12).drop 4)) (val (((s.take 64).take 16).drop 12))∧val (((s.take 64).take 16).drop 12)≤n -1 then
   (Ja (val (((s.take 64).take 16).drop 12)) ((s.drop 64).take (64*val (((s.take 64).take 16).drop 12)))).map fun l=>(val (((s.take 64).take 12).drop 4),val (((s.take 64).take 16).drop 12),l)
  else none
end Av
section
open Go.RowKit Go.Maps
structure A7(F:Nat→Prop)(w w':World):Prop where
 os:w'.os=w.os
 tape:w'.tape=w.tape
 output:w'.output=w.output
 size:w.heap.size≤w'.heap.size
 block:∀ k,k < w.heap.size→¬ F k→w'.heap[k]?=w.heap[k]?
theorem A7.refl(F:Nat→Prop)(w:World):A7 F w w:=⟨rfl,rfl,rfl,Ae _,fun _ _ _=>rfl⟩
theorem A7.of_below{F:Nat→Prop}{w w':World}(h:Bw w w'):A7 F w w':=⟨h.os,h.tape,h.output,h.size,fun k hk _=>h.block k hk⟩
theorem ub{w w':World}(h:Bw w w'):A7 (fun _=>False) w w':=A7.of_below h
theorem A7.trans{F G:Nat→Prop}{a b c:World}(h:A7 F a b)(k:A7 G b c)(hG:∀ i,G i→F i∨a.heap.size≤i):A7 F a c:=
 ⟨k.os.trans h.os,k.tape.trans h.tape,k.output.trans h.output,Aw h.size k.size,fun i hi hF=>(k.block i (Hw hi h.size) (fun g=>by rcases hG i g with f|f;exact hF f;omega)).trans (h.block i hi hF)⟩
theorem A7.mono{F G:Nat→Prop}{a b:World}(h:A7 F a b)(hG:∀ i,F i→G i):A7 G a b:=⟨h.os,h.tape,h.output,h.size,fun i hi hn=>h.block i hi (fun f=>hn (hG i f))⟩
theorem A7.of_grownBy{F:Nat→Prop}{w w':World}{row:Option Nat}(hg:w.grownBy w' row)(hr:∀ k,row=some k→F k):A7 F w w':=
 ⟨hg.os,hg.tape,hg.output,hg.size,fun k hk hF=>hg.block k hk (fun e=>hF (hr k e.symm))⟩
theorem A7.alloc{F:Nat→Prop}{a w:World}(h:A7 F a w)(o:Obj):A7 F a (w.alloc o):=
 h.trans (G:=fun _=>False) (A7.of_below ((Ai _ w).alloc (Ae _) o)) (fun _ f=>f.elim)
theorem A7.drew{F:Nat→Prop}{a w:World}(h:A7 F a w):A7 F a w.drew:=⟨h.os,h.tape,h.output,h.size,h.block⟩
theorem A7.setCell{F:Nat→Prop}{a w:World}(h:A7 F a w){p:Addr}(hp:F p.block∨a.heap.size≤p.block)(v:Value):A7 F a (w.setCell p v):=
 h.trans (G:=fun k=>k=p.block) ⟨rfl,rfl,rfl,by simp[World.setCell],fun k _ hk=>Below.heap_setCell _ _ _ _ hk⟩ (fun i e=>by rw[e];exact hp)
theorem Cy{B:Nat}{F:Nat→Prop}{a w w':World}(h:Below B a w)(k:A7 F w w')(hF:∀ i,F i→B≤i)(hB:B≤w.heap.size):Below B a w':=
 h.trans ⟨k.os,k.tape,k.output,k.size,fun i hi=>k.block i (by omega) (fun f=>by have:=hF i f;omega)⟩
theorem A7.cell{F:Nat→Prop}{w w':World}(h:A7 F w w'){p:Addr}(hp:p.block < w.heap.size)(hF:¬ F p.block):w'.cell? p=w.cell? p:=World.cell?_of_block (h.block p.block hp hF)
def IQ(kv:List (Int×Value))(i:Int):Option Value:=(kv.find? (fun p=>p.1 == i)).map (·.2)
def QX(i:Int)(kv:List (Int×Value)):List (Int×Value):=kv.filter (fun p=>!(p.1 == i))
def Ve(i:Int)(v:Value)(kv:List (Int×Value)):List (Int×Value):=(i,v) :: QX i kv
theorem axl{i j:Int}(h:j≠i)(kv:List (Int×Value)):IQ (QX i kv) j=IQ kv j:=by
 unfold IQ QX;rw[find_filter_keep];intro p hp;simp at hp ⊢;omega
theorem al7(i:Int)(v:Value)(kv:List (Int×Value)):IQ (Ve i v kv) i=some v:=by simp[IQ,Ve]
theorem al6{i j:Int}(h:j≠i)(v:Value)(kv:List (Int×Value)):IQ (Ve i v kv) j=IQ kv j:=by
 have h2:¬ i=j:=fun e=>h e.symm
 rw[←axl h kv];simp[IQ,Ve,h2]
theorem axj{i:Int}{kv:List (Int×Value)}(hn:(kv.map (·.1)).Nodup):(QX i kv).length+(if(IQ kv i).isSome then 1 else 0)=kv.length:=by
 induction kv with
 |nil=>simp[QX,IQ]
 |cons p kv ih=>
  simp only[Ca,Js] at hn;have ih':=ih hn.2;by_cases h:p.1=i
  ·have h0:IQ kv i=none:=by
    unfold IQ;rw[Option.map_eq_none_iff,List.find?_eq_none];intro q hq;simp;intro e;exact hn.1 (by rw[h,←e];exact Hu hq)
   rw[h0] at ih';have e1:QX i (p :: kv)=QX i kv:=(by simp[QX,h]);have e2:IQ (p :: kv) i=some p.2:=(by simp[IQ,h]);rw[e1,e2];simpa using ih'
  ·have e1:QX i (p :: kv)=p :: QX i kv:=(by simp[QX,h]);have e2:IQ (p :: kv) i=IQ kv i:=(by simp[IQ,h]);rw[e1,e2];simp only[BG];omega
theorem axk{i:Int}{kv:List (Int×Value)}(hn:(kv.map (·.1)).Nodup):((QX i kv).map (·.1)).Nodup:=by
 unfold QX;exact hn.sublist (List.Sublist.map _ List.filter_sublist)
theorem axn{i:Int}{v:Value}{kv:List (Int×Value)}(hn:(kv.map (·.1)).Nodup):((Ve i v kv).map (·.1)).Nodup:=by
 simp only[Ve,Ca,Js];refine⟨?_,axk hn⟩;intro h;obtain⟨p,hp,e⟩:=Bz.1 h;have:=(FZ.1 hp).2;simp[e] at this
theorem axm{kv:List (Int×Value)}{i:Int}{v:Value}(h:IQ kv i=some v):(i,v)∈kv:=by
 unfold IQ at h;obtain⟨p,hp,rfl⟩:=SA.1 h;have h1:=List.find?_some hp;simp at h1;subst h1;exact List.mem_of_find?_eq_some hp
def RN(v:Value):Option (DataW Value×List MemPlace):=some (.held v,[])
def Pw(P:Program)(K:TypeId)(w:World)(m:Nat)(kv:List (Int×Value)):Prop:=
 (kv.map (·.1)).Nodup∧∃ D:DataW Value,w.ownsMap P K RN m kv.length D∧Tidy D∧size D=kv.length∧∀ i z,D.atKey (.int .i64 i) z=(match IQ kv i with|some v=>.held v|none=>z)
section
variable {P:Program}{K T E:TypeId}{w:World}{m:Nat}{kv:List (Int×Value)}
theorem Pw.lt(h:Pw P K w m kv):m < w.heap.size:=h.2.choose_spec.1.lt
theorem Pw.made(w:World):Pw P K (w.alloc (.map #[] 0)) w.heap.size []:=
 ⟨by simp,.map [],World.ownsMap_made w P K RN,tidy_empty,rfl,fun i z=>rfl⟩
theorem Pw.kept{w':World}(h:Pw P K w m kv)(e:w'.heap[m]?=w.heap[m]?):Pw P K w' m kv:=by
 obtain⟨hn,D,⟨es,clock,hb,F,hs,hD⟩,rest⟩:=h;exact⟨hn,D,⟨es,clock,e.trans hb,F,hs,hD⟩,rest⟩
theorem jV{D:DataW Value}{kl:Lit}{o:Option Value}(h:∀ z,D.atKey kl z=(match o with|some v=>.held v|none=>z)):has D kl=o.isSome:=by
 cases o with
 |none=>exact has_false_of_atKey (fun z=>h z)
 |some v=>exact has_true_of_atKey (fun z=>h z)
theorem Pw.lookup(h:Pw P K w m kv)(hk:P.underlying K=some (.int .i64))(ht:P.underlying T=some (.map K E)){z:Value}(hz:(zeroValue E).run P w=.ok z w)(i:Int)(hw:(Lit.int .i64 i).wf=true):
  (Instr.lookup T (.map (some m)) (.int .i64 i) false).run P w=.ok ((IQ kv i).getD z) w:=by
 obtain⟨_,D,hown,_,_,hat⟩:=h;obtain⟨v,ps,hrun,hv⟩:=hown.lookup (int_keyed hk) ht hz (zd:=.held z) (zp:=[]) rfl (keyOf_int_mk hk hw);have e:=hat i (.held z);simp only[RN,Ci,ML] at hv;rw[e] at hv;rw[hrun];cases hg:IQ kv i with
 |none=>rw[hg] at hv;simp at hv ⊢;exact hv.1
 |some u=>rw[hg] at hv;simp at hv ⊢;exact hv.1
theorem Pw.update(h:Pw P K w m kv)(hk:P.underlying K=some (.int .i64))(ht:P.underlying T=some (.map K E))(i:Int)(hw:(Lit.int .i64 i).wf=true)(v:Value)(J2:kv.length < maxLen):
  ∃ w',(Instr.mapUpdate T (.map (some m)) (.int .i64 i) v).run P w=.ok () w'∧Pw P K w' m (Ve i v kv)∧w.grownBy w' (some m):=by
 obtain⟨hn,D,hown,V6,BQ,hat⟩:=h;obtain⟨w',hrun,Cb,hg⟩:=hown.update (int_keyed hk) ht J2 (key:=.int .i64 i) (val:=v) (keyOf_int_mk hk hw) (d:=.held v) (ps:=[]) rfl;have JJ:size (D.put (.int .i64 i) (.held v))=(Ve i v kv).length:=by
  rw[size_put V6,jV (hat i),BQ];have:=axj (i:=i) hn;simp only[Ve,BG];cases QM:(IQ kv i).isSome<;>simp[QM] at this ⊢ <;>omega
 refine⟨w',hrun,⟨axn hn,_,?_,V6.put (show WideAt.IsKeyLit (.int .i64 i) from trivial) _,JJ,fun j z=>?_⟩,hg⟩
 ·obtain⟨es,clock,hb,F,_,hD⟩:=Cb;refine⟨es,clock,hb,F,?_,hD⟩;rw[←JJ,hD,size_eq,length_sorted];simp
 ·by_cases e:j=i
  ·subst e;rw[atKey_put_same V6.isMap (show WideAt.IsKeyLit (.int .i64 j) from trivial),al7]
  ·rw[atKey_put_other (fun e'=>e (by cases e';rfl)),al6 e];exact hat j z
end
end
section
open Go.RowKit Go.Maps
theorem Ao{w:World}{k:Nat}{o:Obj}(h:w.heap[k]?=some o):k < w.heap.size:=(Dq.1 h).1
def Bb(w:World)(k:Nat)(t:TypeId):Prop:=∃ cs fr,w.heap[k]?=some (.cells cs t fr)
theorem Bb.lt{w:World}{k:Nat}{t:TypeId}(h:Bb w k t):k < w.heap.size:=by
 obtain⟨cs,fr,h⟩:=h;exact Ao h
theorem Bb.upd{F:Nat→Prop}{w w':World}{k:Nat}{t:TypeId}(h:Bb w k t)(hu:A7 F w w')(hF:¬ F k):Bb w' k t:=by
 have hl:=h.lt;obtain⟨cs,fr,h⟩:=h;exact⟨cs,fr,(hu.block k hl hF).trans h⟩
theorem Bb.ne{w:World}{k k':Nat}{t t':TypeId}(h:Bb w k t)(h':Bb w k' t')(ht:t≠t'):k≠k':=by
 rintro rfl;obtain⟨cs,fr,h⟩:=h;obtain⟨cs',fr',h'⟩:=h';rw[h] at h';injection h' with h'
 injection h' with _ h' _
 exact ht h'
theorem aH{w:World}{base e s:Nat}{v:Value}{n:Nat}{xs:List Value}(h:w.ownsRow base e s v n xs){g:Nat}(hg:v.ownBlock=some g):g < w.heap.size:=by
 rcases h.2 with⟨rfl,_⟩|⟨g',cap,cur,rfl,_,OH,_⟩
 ·simp[Value.ownBlock] at hg
 ·simp[Value.ownBlock] at hg;subst hg;exact(Dq.1 OH).1
theorem Cn{w:World}{base e s:Nat}{v:Value}{n:Nat}{xs:List Value}(h:w.ownsRow base e s v n xs){g:Nat}(hg:v.ownBlock=some g):Bb w g e:=by
 rcases h.2 with⟨rfl,_⟩|⟨g',cap,cur,rfl,_,OH,_⟩
 ·simp[Value.ownBlock] at hg
 ·simp[Value.ownBlock] at hg;subst hg;exact⟨_,_,OH⟩
def Dj(fp fp':Nat→Prop)(w:World):Prop:=∀ k,fp' k→fp k∨w.heap.size≤k
theorem Bv{F:Nat→Prop}{w w':World}{base e s:Nat}{v:Value}{n:Nat}{xs:List Value}(h:w.ownsRow base e s v n xs)(hu:A7 F w w')(hF:∀ g,v.ownBlock=some g→¬ F g):w'.ownsRow base e s v n xs:=by
 obtain⟨h1,h2⟩:=h;refine⟨h1,?_⟩;rcases h2 with h2|⟨g,cap,cur,rfl,hg,OH,rest⟩
 ·exact .inl h2
 ·exact .inr ⟨g,cap,cur,rfl,hg,by rw[hu.block g (Dq.1 OH).1 (hF g rfl)];exact OH,rest⟩
theorem add_plain(g i:Nat):(⟨g,0,none⟩:Addr).add i=⟨g,i,none⟩:=by unfold Addr.add;split<;>simp_all
theorem VP(g o j:Nat):(⟨g,o,none⟩:Addr).add j=⟨g,o+j,none⟩:=by unfold Addr.add;split<;>simp_all
theorem add_zero'(q:Addr):q.add 0=q:=by unfold Addr.add;simp
theorem add_block(q:Addr)(i:Nat):(q.add i).block=q.block:=by unfold Addr.add;split<;>rfl
end
section
open Go.RowKit Go.WideShapes Go.ChangeShapes
theorem IB(P:Program)(T E:TypeId)(hu:P.underlying T=some (.slice E))(s:Nat)(hs:(P.info? E).map (·.size)=some s)(p:Addr)(n cap k:Nat)(hk:k < n)(W:World):
  (Instr.indexAt T (.slice (some p) n cap) (.int .i64 (k:Int))).run P W=.ok (.pointer (some (p.add (k*s)))) W:=by
 cases hq:P.info? E with
 |none=>simp[hq] at hs
 |some i=>
  have h1:i.size=s:=by simpa[hq] using hs
  simp[Instr.indexAt,Hd hu,asIntOf,sizeOf,typeInfo,hq,h1,hk]
def BytesAt(w:World)(b:Nat)(l:List UInt8):Prop:=
 ∃ C e fr,w.heap[b]?=some (.cells C e fr)∧(∀ i,(h:i < l.length)→C[i]?=some (.int .u8 (l[i].toNat:Int)))∧(l.length≤fr.1∨fr=(0,0))
theorem BytesAt.cell{w:World}{b:Nat}{l:List UInt8}(h:BytesAt w b l)(i:Nat)(hi:i < l.length):w.cell? ⟨b,i,none⟩=some (.int .u8 (l[i].toNat:Int)):=by
 obtain⟨C,e,fr,hb,hc,_⟩:=h;rw[BL w b i C e fr hb];exact hc i hi
theorem BytesAt.free{w:World}{b:Nat}{l:List UInt8}(h:BytesAt w b l)(i:Nat)(hi:i < l.length):w.frozen? ⟨b,i,none⟩=false:=by
 obtain⟨C,e,⟨f1,f2⟩,hb,_,hf⟩:=h;simp only[ML] at hf;simp[World.frozen?,hb];omega
theorem BytesAt.set{w:World}{b:Nat}{l:List UInt8}(h:BytesAt w b l)(i:Nat)(x:UInt8):BytesAt (w.setCell ⟨b,i,none⟩ (.int .u8 (x.toNat:Int))) b (l.set i x):=by
 obtain⟨C,e,fr,hb,hc,hf⟩:=h;refine⟨C.setIfInBounds i (.int .u8 (x.toNat:Int)),e,fr,?_,fun j hj=>?_,by simpa using hf⟩
 ·rw[setCell_eq_setRow w b i C e fr _ hb];exact setRow_heap w b C _ e fr hb
 ·simp only[List.length_set] at hj;rw[Array.getElem?_setIfInBounds];have DF:j < C.size:=by
   have:=hc j hj;exact(Dq.1 this).1
  by_cases e1:i=j
  ·subst e1;simp[DF]
  ·rw[Ab e1,hc j hj,List.getElem_set_ne e1]
theorem BytesAt.lt{w:World}{b:Nat}{l:List UInt8}(h:BytesAt w b l):b < w.heap.size:=by
 obtain⟨C,e,fr,hb,_⟩:=h;exact(Dq.1 hb).1
theorem BytesAt.below{w w':World}{b:Nat}{l:List UInt8}(h:BytesAt w b l)(hb:Bw w w'):BytesAt w' b l:=by
 have hlt:=h.lt;obtain⟨C,e,fr,h1,h2⟩:=h;exact⟨C,e,fr,by rw[hb.block b hlt];exact h1,h2⟩
theorem arf(w:World)(l:List UInt8)(e:TypeId):BytesAt (w.drew.alloc (.cells (bytesRow (bs l) (grownCap w l.length 0 e)) e ((bytesRow (bs l) (grownCap w l.length 0 e)).size,(bytesRow (bs l) (grownCap w l.length 0 e)).size+1))) w.heap.size l:=by
 refine⟨_,_,_,heap_alloc_last w.drew _,fun i hi=>?_,?_⟩
 ·exact bytesRow_at (bs l) _ i (by simpa using hi)
 ·left;simp[bytesRow]
@[irreducible] def Cj (k:List UInt8):List Value:=(Dh k).toList
theorem Nt(k:List UInt8):(Cj k).length=k.length:=by unfold Cj;simp
theorem gM(k:List UInt8):(Cj k).toArray=Dh k:=by unfold Cj;simp
theorem adH(k:List UInt8):(Dh k).toList=Cj k:=by unfold Cj;rfl
theorem ng(k:List UInt8)(i:Nat)(h:i < k.length):(Cj k)[i]?=some (.int .u8 (k[i].toNat:Int)):=by
 unfold Cj;rw[Dy,gP k i h]
theorem nk(k:List UInt8):∀ u∈Cj k,u.oneCell'=true:=by
 unfold Cj;intro u hu;exact(Array.all_eq_true_iff_forall_mem.1 (adI k)) u (by simpa using hu)
theorem mZ(x:UInt8)(k:List UInt8):Cj (x :: k)=.int .u8 (x.toNat:Int) :: Cj k:=by unfold Cj Dh;simp
theorem gN:Cj []=[]:=by unfold Cj Dh;simp
theorem aT(a b:List UInt8):Cj (a++b)=Cj a++Cj b:=by unfold Cj Dh;simp
theorem BytesAt.seg{b:Nat}(x:List UInt8):∀ {w:World} {q:List UInt8} (o:Nat),BytesAt w b q→o+x.length≤q.length→BytesAt (w.setCells b o (Cj x)) b (q.take o++x++q.drop (o+x.length)):=by
 induction x with
 |nil=>
  intro w q o h _;rw[gN];simpa[World.setCells] using h
 |cons a x ih=>
  intro w q o h hl;simp only[BG] at hl;have h1:=ih (o+1) (h.set o a) (by rw[List.length_set];omega);rw[mZ];simp only[World.setCells];have e:(q.set o a).take (o+1)++x++(q.set o a).drop (o+1+x.length)=q.take o++a :: x++q.drop (o+(a :: x).length):=by
   have e1:(q.set o a).take (o+1)=q.take o++[a]:=by
    rw[Cx (by rw[List.length_set];omega),List.getElem_set_self,List.take_set_of_le (Ae _)]
   have e2:(q.set o a).drop (o+1+x.length)=q.drop (o+(a :: x).length):=by
    rw[List.drop_set_of_lt (by omega),BG,show o+1+x.length=o+(x.length+1) by omega]
   rw[e1,e2];simp
  rw[←e];exact h1
theorem BytesAt.range{w:World}{b:Nat}{q:List UInt8}(h:BytesAt w b q)(o n:Nat)(hl:o+n≤q.length):w.rangeAt b o (Cj ((q.drop o).take n)):=by
 intro j v hv;have hj:=(U1.1 hv).1;rw[Nt] at hj;rw[ng _ j hj] at hv;have QN:j < n:=by rw[AZ] at hj;omega
 rw[h.cell (o+j) (by omega),←hv];simp[List.getElem_take,List.getElem_drop]
theorem BytesAt.there{w:World}{b:Nat}{q:List UInt8}(h:BytesAt w b q)(o n:Nat)(hl:o+n≤q.length):w.there b o n:=fun j hj=>⟨by rw[h.cell (o+j) (by omega)];rfl,h.free (o+j) (by omega)⟩
theorem ag5(w:World)(c:Array Value)(T:TypeId)(q:List UInt8)(hc:∀ i,(h:i < q.length)→c[i]?=some (.int .u8 (q[i].toNat:Int))):BytesAt (w.alloc (.cells c T)) w.heap.size q:=
 ⟨c,T,(0,0),heap_alloc_last w _,hc,.inr rfl⟩
theorem BytesAt.store{w:World}{b:Nat}{q:List UInt8}(h:BytesAt w b q)(P:Program)(o:Nat)(x:List UInt8)(hl:o+x.length≤q.length):
  (storeCells ⟨b,o,none⟩ (Dh x).toList).run P w=.ok () (w.setCells b o (Cj x)):=by
 have ht:=h.there o x.length hl;have:=run_storeCells_cells (P:=P) b o (Cj x) 0 w (fun j hj=>by rw[Nt] at hj;simpa using(ht j hj).1) (fun j hj=>by rw[Nt] at hj;simpa using(ht j hj).2) (nk x);rw[adH];simpa using this
theorem adQ(b:Nat):∀ (vs:List Value) (o:Nat) (w:World),(w.setCells b o vs).heap.size=w.heap.size∧(w.setCells b o vs).os=w.os∧(w.setCells b o vs).tape=w.tape∧(w.setCells b o vs).output=w.output∧∀ k,k≠b→(w.setCells b o vs).heap[k]?=w.heap[k]?
 |[],_,_=>⟨rfl,rfl,rfl,rfl,fun _ _=>rfl⟩
 |v :: r,o,w=>by
  obtain⟨h1,h2,h3,h4,h5⟩:=adQ b r (o+1) (w.setCell ⟨b,o,none⟩ v);exact⟨h1.trans (by simp[World.setCell]),h2,h3,h4,fun k hk=>(h5 k hk).trans (Below.heap_setCell _ _ _ _ hk)⟩
theorem below_setCells{B:Nat}{a w:World}(h:Below B a w){b:Nat}(hb:B≤b)(o:Nat)(vs:List Value):Below B a (w.setCells b o vs):=by
 obtain⟨h1,h2,h3,h4,h5⟩:=adQ b vs o w;exact h.trans ⟨h2,h3,h4,by omega,fun k hk=>h5 k (by omega)⟩
theorem arH(P:Program)(src dst e:TypeId)(hs:P.underlying src=some .string)(hd:P.underlying dst=some (.slice e))(he:P.underlying e=some (.int .u8))(w:World)(x:List UInt8):
  ∃ (w1:World) (cap:Nat),(convert src dst (.string (bs x))).run P w=.ok (.slice (some ⟨w.heap.size,0,none⟩) x.length cap) w1∧BytesAt w1 w.heap.size x∧Bw w w1∧w1.heap.size=w.heap.size+1:=by
 have h:=run_bytes_of_string (P:=P) w src dst e (bs x) hs hd he;exact⟨_,_,h,arf w x e,(Ai _ _).drew.alloc (Ae _) _,by simp⟩
theorem run_arrayAt(P:Program)(W:World)(T E:TypeId)(N:Nat)(a:Option Addr)(n c:Nat)(hu:P.underlying T=some (.array N E))(hn:N≤n):(Instr.arrayAt T (.slice a n c)).run P W=.ok (.pointer a) W:=by
 simp[Instr.arrayAt,Hd hu,show ¬ n < N by omega]
end
section
theorem ahc(off:Nat):∀ (l:List Value) (k:Nat) (cs:Array Value) (i:Nat),off+k+l.length≤cs.size→
  ((l.zipIdx k).foldl (fun cs (p:Value×Nat)=>cs.setIfInBounds (off+p.2) p.1) cs)[i]?=if off+k≤i∧i < off+k+l.length then l[i -(off+k)]? else cs[i]?
 |[],k,cs,i,_=>by simp;intro h1 h2;omega
 |v :: l,k,cs,i,h=>by
  simp only[BG] at h;rw[List.zipIdx_cons,List.foldl_cons,ahc off l (k+1) _ i (by simp;omega)];simp only[BG];by_cases h1:off+(k+1)≤i∧i < off+(k+1)+l.length
  ·rw[Ad h1,Ad (by omega),show i -(off+k)=(i -(off+(k+1)))+1 by omega,List.getElem?_cons_succ]
  ·rw[Ab h1,Array.getElem?_setIfInBounds];by_cases h2:off+k=i
   ·rw[Ad h2,Ad (by omega),Ad (by omega),show i -(off+k)=0 by omega];rfl
   ·rw[Ab h2,Ab (by omega)]
theorem ahe(off n:Nat)(v cs:Array Value)(hv:v.size=n)(hl:off+n=cs.size):
  Array.foldl (fun cs (x:Value×Nat)=>cs.setIfInBounds (off+x.snd) x.fst) cs v.zipIdx 0 n=(cs.toList.take off++v.toList).toArray:=by
 have e0:Array.foldl (fun cs (x:Value×Nat)=>cs.setIfInBounds (off+x.snd) x.fst) cs v.zipIdx 0 n=(v.toList.zipIdx 0).foldl (fun cs (p:Value×Nat)=>cs.setIfInBounds (off+p.2) p.1) cs:=by
  have hz:v.zipIdx.size=n:=by simp[hv]
  rw[←Array.toList_zipIdx,Array.foldl_toList,hz]
 rw[e0];apply Array.ext_getElem?;intro j;rw[ahc off v.toList 0 cs j (by simp;omega)];have eR:∀ X:List Value,X.toArray[j]?=X[j]? :=fun X=>List.getElem?_toArray
 have eC:cs[j]?=cs.toList[j]? :=Array.getElem?_toList.symm;rw[eC,eR (cs.toList.take off++v.toList)];simp only[Nat.add_zero,Array.length_toList];by_cases a1:j < off
 ·rw[Ab (by omega),List.getElem?_append_left (by simp;omega),List.getElem?_take,Ad a1]
 ·rw[List.getElem?_append_right (by simp;omega)];simp only[AZ,Array.length_toList,Ih (show off≤cs.size by omega)];by_cases a2:j < off+v.size
  ·rw[Ad (by omega)]
  ·rw[Ab (by omega),List.getElem?_eq_none (by simp;omega),List.getElem?_eq_none (by simp;omega)]
theorem atm(n:Nat)(v cs:Array Value)(hv:v.size=n)(hl:cs.size=n):
  Array.foldl (fun cs (x:Value×Nat)=>cs.setIfInBounds x.snd x.fst) cs v.zipIdx 0 n=v:=by
 have h:=ahe 0 n v cs hv (by omega);simp only[Ha] at h;rw[h];simp
end
section
open Go.RowKit Go.Maps
theorem anr:(prog.info? 240).map (fun i=>(i.zero,i.size))=some (some (.agg (Dh Ns)),64):=by kernel_rfl
theorem aAx(w:World):(zeroValue 240).run prog w=.ok (.agg (Dh Ns)) w:=(zero_of_info anr).1 w
theorem adn:(prog.info? 240).map (·.size)=some 64:=(zero_of_info anr).2
@[irreducible] def O3 (l:List (Nat×List UInt8)):List Value:=l.flatMap fun p=>Value.int .i64 (p.1:Int) :: Cj p.2
theorem axH(l:List (Nat×List UInt8))(p:Nat×List UInt8):O3 (l++[p])=O3 l++(Value.int .i64 (p.1:Int) :: Cj p.2):=by
 unfold O3;simp
theorem alr:O3 []=[]:=by unfold O3;rfl
theorem axG(l:List (Nat×List UInt8))(h:∀ p∈l,p.2.length=64)(k:Nat)(hk:k < l.length)(j:Nat)(hj:j < 65):
  (O3 l)[k*65+j]?=(Value.int .i64 (l[k].1:Int) :: Cj l[k].2)[j]? :=by
 induction l generalizing k with
 |nil=>simp at hk
 |cons p l ih=>
  have e:O3 (p :: l)=(Value.int .i64 (p.1:Int) :: Cj p.2)++O3 l:=by unfold O3;rfl
  have hlen:(Value.int .i64 (p.1:Int) :: Cj p.2).length=65:=by rw[BG,Nt,h p Gf]
  rw[e];cases k with
  |zero=>
   rw[Nat.zero_mul,Ha,List.getElem?_append_left (by omega)];rfl
  |succ k=>
   rw[List.getElem?_append_right (by omega),hlen,show(k+1)*65+j -65=k*65+j by omega];exact ih (fun q hq=>h q (F9 _ hq)) k (by simpa using hk)
@[irreducible] def putRow (p:Nat×List UInt8):Array Value:=(Value.int .i64 (p.1:Int) :: Cj p.2).toArray
theorem Yw(p:Nat×List UInt8):(putRow p).toList=Value.int .i64 (p.1:Int) :: Cj p.2:=by unfold putRow;rfl
theorem acU(p:Nat×List UInt8)(h:p.2.length=64):(putRow p).size=65:=by
 rw[←Array.length_toList,Yw,BG,Nt,h]
theorem amC(p:Nat×List UInt8):(putRow p)[0]?=some (.int .i64 (p.1:Int)):=by
 rw[←Dy,Yw];rfl
theorem uU(p:Nat×List UInt8):(putRow p).all (·.oneCell')=true:=by
 rw[Array.all_eq_true_iff_forall_mem];intro u hu;have:u∈(putRow p).toList:=by simpa using hu
 rw[Yw] at this;rcases Cc.1 this with rfl|h
 ·rfl
 ·exact nk _ u h
theorem acY:(prog.info? 242).map (fun i=>(i.zero,i.size))=some (some (.agg Tryz.zeroCells242),65):=by kernel_rfl
theorem uZ(p:Nat×List UInt8)(h:p.2.length=64):(prog.info? 242).map (·.size)=some (putRow p).size:=by rw[acU p h];exact(zero_of_info acY).2
theorem ad1(p:Nat×List UInt8)(h:p.2.length=64):Tryz.zeroCells242.size=(putRow p).size:=by rw[acU p h];kernel_rfl
theorem azj(w:World)(p:Nat×List UInt8)(T:TypeId):(w.alloc (.cells (putRow p) T)).rangeAt w.heap.size 1 (Cj p.2):=by
 intro j v hv;rw[E5,←Dy,Yw,Nat.add_comm 1 j];exact hv
theorem mP(x:List UInt8)(h:x.length=64):(prog.info? 240).map (·.size)=some (Cj x).length:=by rw[Nt,h];exact adn
@[irreducible] def Qb (i:Int) (x:List UInt8):Array Value:=(Value.int .i64 i :: Cj x).toArray
theorem azg(a k:Nat)(x:List UInt8):Qb ((a:Int)+(k:Int)) x=putRow (a+k,x):=by unfold Qb putRow;rfl
theorem acT(i:Int)(x:List UInt8)(h:x.length=64):(Qb i x).size=65:=by
 unfold Qb;rw[Jt,BG,Nt,h]
theorem mr:Tryz.zeroCells242.size=65:=by kernel_rfl
theorem azl(i:Int)(x:List UInt8)(h:x.length=64):
  Array.foldl (fun cs (x:Value×Nat)=>cs.setIfInBounds (1+x.snd) x.fst) (Tryz.zeroCells242.setIfInBounds 0 (Value.int .i64 i)) (Dh x).zipIdx 0 64=Qb i x:=by
 have hz:(Tryz.zeroCells242.setIfInBounds 0 (Value.int .i64 i)).size=65:=by rw[Array.size_setIfInBounds,mr]
 rw[ahe 1 64 (Dh x) _ (by simp[h]) (by rw[hz])];have h0:(Tryz.zeroCells242.setIfInBounds 0 (Value.int .i64 i)).toList.take 1=[.int .i64 i]:=by
  apply List.ext_getElem?;intro j;rw[List.getElem?_take];by_cases hj:j < 1
  ·obtain rfl:j=0:=(by omega);rw[Ad hj,Dy,Array.getElem?_setIfInBounds,Ad rfl,Ad (by rw[mr];decide)];rfl
  ·rw[Ab hj,List.getElem?_eq_none (by simp;omega)]
 rw[h0,adH];unfold Qb;rfl
theorem azm(Z:Array Value)(i:Int)(x:List UInt8)(h:x.length=64)(hZ:Z.size=65):
  Array.foldl (fun cs (x:Value×Nat)=>cs.setIfInBounds x.snd x.fst) Z (Qb i x).zipIdx 0 65=Qb i x:=atm 65 _ _ (acT i x h) hZ
theorem acy{w:World}{base g n cap:Nat}{l:List (Nat×List UInt8)}(h:w.ownsRow base 242 65 (.slice (some ⟨g,0,none⟩) n cap) l.length (O3 l))(hl:∀ p∈l,p.2.length=64)(k:Nat)(hk:k < l.length):
  w.rangeAt g (k*65) (Value.int .i64 (l[k].1:Int) :: Cj l[k].2):=by
 intro j v hv;have hj:j < 65:=by
  have:=(U1.1 hv).1;rw[BG,Nt,hl _ (CQ hk)] at this;omega
 rw[←axG l hl k hk j hj] at hv;have:=h.cells (g:=g) rfl _ _ hv;have e:(⟨g,0,none⟩:Addr).add (k*65+j)=⟨g,k*65+j,none⟩:=by unfold Addr.add;split<;>simp_all
 rw[e] at this;exact this
theorem uY(p:Nat×List UInt8)(h:p.2.length=64):(prog.info? 242).map (·.size)=some (Value.int .i64 (p.1:Int) :: Cj p.2).length:=by rw[BG,Nt,h];exact(zero_of_info acY).2
theorem uX(p:Nat×List UInt8):(Value.int .i64 (p.1:Int) :: Cj p.2).toArray=putRow p:=by unfold putRow;rfl
theorem acX:(prog.info? 242).map (·.size)=some 65:=(zero_of_info acY).2
def NG(w:World)(m N:Nat)(f:Nat→List UInt8):Prop:=
 ∃ kv,Pw prog 3 w m kv∧(∀ p∈kv,∃ i:Nat,i < N∧p.1=(i:Int)∧p.2=.agg (Dh (f i)))∧∀ i:Nat,i < N→IQ kv i=none→f i=Ns
theorem NG.lt{w:World}{m N:Nat}{f:Nat→List UInt8}(h:NG w m N f):m < w.heap.size:=h.choose_spec.1.lt
theorem NG.kept{w w':World}{m N:Nat}{f:Nat→List UInt8}(h:NG w m N f)(e:w'.heap[m]?=w.heap[m]?):NG w' m N f:=by
 obtain⟨kv,h1,h2⟩:=h;exact⟨kv,h1.kept e,h2⟩
theorem NG.made(w:World)(N:Nat):NG (w.alloc (.map #[] 0)) w.heap.size N (fun _=>Ns):=⟨[],Pw.made w,fun p hp=>by simp at hp,fun _ _ _=>rfl⟩
theorem aoB(i:Nat)(h:i≤16384):(Lit.int .i64 (i:Int)).wf=true:=WalkArith.wf_i64 (by omega)
theorem NG.get{w:World}{m N:Nat}{f:Nat→List UInt8}(h:NG w m N f)(i:Nat)(hi:i < N)(hN:N≤16384):
  (Instr.lookup 141 (.map (some m)) (.int .i64 (i:Int)) false).run prog w=.ok (.agg (Dh (f i))) w:=by
 obtain⟨kv,h1,h2,h3⟩:=h;rw[h1.lookup underlying3 underlying141 (aAx w) i (aoB i (by omega))];cases hg:IQ kv i with
 |none=>rw[h3 i hi hg];rfl
 |some v=>
  obtain⟨j,_,e1,e2⟩:=h2 _ (axm hg);simp at e1 e2;have e3:i=j:=by omega
  subst e3;rw[e2];rfl
theorem uI(N:Nat):∀ (l:List Int),l.Nodup→(∀ x∈l,∃ i:Nat,i < N∧x=(i:Int))→l.length≤N:=by
 induction N with
 |zero=>
  intro l _ h;cases l with
  |nil=>simp
  |cons x l=>obtain⟨i,hi,_⟩:=h x Gf;omega
 |succ N ih=>
  intro l hn h;by_cases hm:(N:Int)∈l
  ·have h1:=ih (l.erase (N:Int)) (hn.erase _) (fun x hx=>by
    obtain⟨hne,hx⟩:=(List.Nodup.mem_erase_iff hn).1 hx;obtain⟨i,hi,e⟩:=h x hx;exact⟨i,by have:i≠N:=fun e'=>hne (by rw[e,e']);omega,e⟩)
   rw[List.length_erase_of_mem hm] at h1;omega
  ·have:=ih l hn (fun x hx=>by
    obtain⟨i,hi,e⟩:=h x hx;exact⟨i,by have:i≠N:=fun e'=>hm (by rw[←e',←e];exact hx);omega,e⟩)
   omega
theorem NG.put{w:World}{m N:Nat}{f:Nat→List UInt8}(h:NG w m N f)(i:Nat)(hi:i < N)(hN:N≤16384)(x:List UInt8):
  ∃ w',(Instr.mapUpdate 141 (.map (some m)) (.int .i64 (i:Int)) (.agg (Dh x))).run prog w=.ok () w'∧NG w' m N (fun k=>if k=i then x else f k)∧w.grownBy w' (some m):=by
 obtain⟨kv,h1,h2,h3⟩:=h;have hlen:kv.length≤N:=by
  have:=uI N (kv.map (·.1)) h1.1 (fun y hy=>by
   obtain⟨p,hp,rfl⟩:=Bz.1 hy;obtain⟨j,hj,e,_⟩:=h2 p hp;exact⟨j,hj,e⟩)
  simpa using this
 obtain⟨w',hrun,hm,hg⟩:=h1.update underlying3 underlying141 i (aoB i (by omega)) (.agg (Dh x)) (by unfold maxLen;omega);refine⟨w',hrun,⟨Ve i (.agg (Dh x)) kv,hm,fun p hp=>?_,fun j hj hg=>?_⟩,hg⟩
 ·rcases Cc.1 hp with rfl|hp
  ·exact⟨i,hi,rfl,by simp⟩
  ·obtain⟨Fs,JI⟩:=FZ.1 hp;obtain⟨j,hj,e1,e2⟩:=h2 p Fs;have hne:¬ j=i:=fun e=>by simp[e1,e] at JI
   exact⟨j,hj,e1,by simp only[Ab hne];exact e2⟩
 ·by_cases e:j=i
  ·subst e;rw[al7] at hg;simp at hg
  ·simp only[Ab e];rw[al6 (by omega)] at hg;exact h3 j hj hg
structure EL(w:World)(b m:Nat)(lv:Value)(D:A8):Prop where
 struct:w.heap[b]?=some (.cells #[.int .i64 (D.n:Int),.map (some m),lv,.int .i64 D.left,.bool D.down] 144)
 base:NG w m D.n D.base
 loose:w.ownsRow 0 242 65 lv D.loose.length (O3 D.loose)
 mb:m≠b
 lb:lv.ownBlock≠some b
 lm:lv.ownBlock≠some m
 fine:D.BO
def QA(b m:Nat)(lv:Value)(k:Nat):Prop:=k=b∨k=m∨lv.ownBlock=some k
def BB(w:World)(b:Nat)(D:A8)(fp:Nat→Prop):Prop:=∃ m lv,EL w b m lv D∧fp=QA b m lv
theorem EL.upd{F:Nat→Prop}{w w':World}{b m:Nat}{lv:Value}{D:A8}(h:EL w b m lv D)(hu:A7 F w w')(hF:∀ k,QA b m lv k→¬ F k):EL w' b m lv D:=
 ⟨by rw[hu.block b (Dq.1 h.struct).1 (hF b (.inl rfl))];exact h.struct,h.base.kept (hu.block m h.base.lt (hF m (.inr (.inl rfl)))),Bv h.loose hu (fun g hg=>hF g (.inr (.inr hg))),h.mb,h.lb,h.lm,h.fine⟩
theorem BB.upd{F:Nat→Prop}{w w':World}{b:Nat}{D:A8}{fp:Nat→Prop}(h:BB w b D fp)(hu:A7 F w w')(hF:∀ k,fp k→¬ F k):BB w' b D fp:=by
 obtain⟨m,lv,h1,rfl⟩:=h;exact⟨m,lv,h1.upd hu hF,rfl⟩
theorem BB.below{w w':World}{b:Nat}{D:A8}{fp:Nat→Prop}(h:BB w b D fp)(hu:Bw w w'):BB w' b D fp:=h.upd (ub hu) (fun _ _ f=>f)
theorem BB.lt{w:World}{b:Nat}{D:A8}{fp:Nat→Prop}(h:BB w b D fp):∀ k,fp k→k < w.heap.size:=by
 obtain⟨m,lv,h1,rfl⟩:=h;rintro k (rfl|rfl|hk)
 ·exact(Dq.1 h1.struct).1
 ·exact h1.base.lt
 ·exact aH h1.loose hk
theorem BB.fine{w:World}{b:Nat}{D:A8}{fp:Nat→Prop}(h:BB w b D fp):D.BO:=by obtain⟨m,lv,h1,_⟩:=h;exact h1.fine
def Ej(w:World)(b:Nat)(l:List UInt8)(fp:Nat→Prop):Prop:=
 ∃ p v,w.heap[b]?=some (.cells #[.pointer p,v] 210)∧(p=none∨p=some ⟨b,0,none⟩)∧w.ownsRow 0 5 1 v l.length (Cj l)∧v.ownBlock≠some b∧(l=[]→v=.slice none 0 0)∧fp=fun k=>k=b∨v.ownBlock=some k
theorem Ej.made(w:World):Ej (w.alloc (.cells #[.pointer none,.slice none 0 0] 210)) w.heap.size [] (fun k=>k=w.heap.size∨(Value.slice none 0 0).ownBlock=some k):=
 ⟨none,.slice none 0 0,AQ w _,.inl rfl,⟨by rw[Nt];rfl,.inl ⟨rfl,rfl⟩⟩,by simp[Value.ownBlock],fun _=>rfl,rfl⟩
theorem Ej.lt{w:World}{b:Nat}{l:List UInt8}{fp:Nat→Prop}(h:Ej w b l fp):∀ k,fp k→k < w.heap.size:=by
 obtain⟨p,v,h1,_,h3,_,_,rfl⟩:=h;rintro k (rfl|hk)
 ·exact(Dq.1 h1).1
 ·exact aH h3 hk
theorem Ej.own{w:World}{b:Nat}{l:List UInt8}{fp:Nat→Prop}(h:Ej w b l fp):fp b:=by
 obtain⟨p,v,_,_,_,_,_,rfl⟩:=h;exact .inl rfl
theorem Ej.upd{F:Nat→Prop}{w w':World}{b:Nat}{l:List UInt8}{fp:Nat→Prop}(h:Ej w b l fp)(hu:A7 F w w')(hF:∀ k,fp k→¬ F k):Ej w' b l fp:=by
 obtain⟨p,v,h1,h2,h3,h4,h5,rfl⟩:=h;exact⟨p,v,by rw[hu.block b (Dq.1 h1).1 (hF b (.inl rfl))];exact h1,h2,Bv h3 hu (fun g hg=>hF g (.inr hg)),h4,h5,rfl⟩
theorem ar9:∃ j,prog.info? 210=some j∧j.size=2:=by
 have h:(prog.info? 210).map (·.size)=some 2:=by kernel_rfl
 exact SA.1 h
theorem ar8:liesAt prog prog.depth 210 (2 / prog.cellsOf 210) 0 210 1=true:=by kernel_rfl
theorem cZ:(prog.info? 5).map (fun i=>(i.zero,i.size,i.bytes))=some (some (.int .u8 0),1,1):=by kernel_rfl
theorem zB(b:Nat)(p:Option Addr)(v:Value)(w:World)(hb:w.heap[b]?=some (.cells #[.pointer p,v] 210))(hp:p=none∨p=some ⟨b,0,none⟩):
  Calls prog 204 #[.pointer (some ⟨b,0,none⟩)] w fun e w'=>e=.returned (.tuple #[])∧w'.heap[b]?=some (.cells #[.pointer (some ⟨b,0,none⟩),v] 210)∧A7 (fun k=>k=b) w w':=by
 obtain⟨j,hj,hjs⟩:=ar9;have c0:w.cell? ⟨b,0,none⟩=some (.pointer p):=by rw[Lib.cell_of_heap hb];rfl
 rcases hp with rfl|rfl
 ·have hf:=Lib.frozen_of_heap hb 0;have hsh:w.shape? b=some (210,2):=by simp[World.shape?,hb]
  go_in
  go_wp2_with fail;rw[Lib.run_to_unsafe w ⟨b,0,none⟩ underlying208 underlying323 hj (by rw[hjs];decide) hsh (Nat.zero_lt_succ 1)];simp only[Result.andThen];rw[Oper.upon_value];go_wp2_with fail;rw[run_callFunc_extern func255 (by kernel_rfl) (by kernel_rfl) (by kernel_rfl) (e:=Extern.AbiNoEscape.same) (by kernel_rfl)];rw[Lib.run_noEscape];simp only[Result.andThen];rw[Oper.upon_value];go_wp2_with fail;rw[Lib.run_from_unsafe w ⟨b,0,none⟩ underlying323 underlying208 hj hsh ar8];simp only[Result.andThen];rw[Oper.upon_value];go_wp2_with fail
  go_end0
  exact⟨rfl,Cu w b 0 _ _ _ hb,(A7.refl (fun k=>k=b) w).setCell (p:=⟨b,0,none⟩) (.inl rfl) _⟩
 ·go_in
  go_wp2_with fail;rw[Lib.run_neq_ptr_same w _ underlying208 hj];go_wp2_with fail
  go_end0
  exact⟨rfl,hb,A7.refl _ _⟩
theorem ag2{w:World}{b:Nat}{l:List UInt8}{fp:Nat→Prop}(h:Ej w b l fp)(g off c:Nat)(k:List UInt8)(hk:∀ i,(hi:i < k.length)→w.cell? ⟨g,off+i,none⟩=some (.int .u8 (k[i].toNat:Int)))
  (hg:¬ fp g)(hlen:l.length+k.length≤1099511627776)(n:Nat)(hn:k.length=n):
  Calls prog 207 #[.pointer (some ⟨b,0,none⟩),.slice (some ⟨g,off,none⟩) n c] w fun e w'=>e=.returned (.tuple #[.int .i64 (n:Int),.nilIface])∧∃ fp',Ej w' b (l++k) fp'∧A7 fp w w'∧Dj fp fp' w:=by
 obtain⟨p,v,hb,hp,hown,hne,Y8,rfl⟩:=h;have oh:=Hi Y8;clear Y8;obtain⟨i0,hi,AY,Ba,Be⟩:=DC cZ;have NR:g≠b:=fun e=>hg (.inl e)
 have HK:=Hi hk;clear hk;subst hn
 go_in
 go_wp2_with fail;refine(zB b p v _ hb hp).mono ?_;rintro e w1⟨rfl,Aj,FY⟩;have jZ:b < w.heap.size:=(Dq.1 hb).1;have KY:w1.ownsRow 0 5 1 v l.length (Cj l):=Bv hown FY (fun q hq e=>hne (by rw[hq,e]));have c1:w1.cell? ⟨b,1,none⟩=some v:=by rw[Lib.cell_of_heap Aj];rfl
 have Y7:∀ j u,(Cj k)[j]?=some u→w1.cell? ((⟨g,off,none⟩:Addr).add j)=some u:=by
  intro j u hj;have Kb:j < k.length:=by
   have:=(U1.1 hj).1;rwa[Nt] at this
  have e:(⟨g,off,none⟩:Addr).add j=⟨g,off+j,none⟩:=by unfold Addr.add;split<;>simp_all
  have hc:=HK j Kb;rw[e,FY.cell (p:=⟨g,off+j,none⟩) (Cr hc) NR,hc];rw[ng k j Kb] at hj;exact hj
 go_wp2_with (at_builtin;refine wpList_append_own_at _ rfl _ _ 54 rfl 0 5 i0 (.int .u8 0) 1 1 underlying54 hi AY Ba Be rfl (by decide) _ _ _ rfl KY ⟨g,off,none⟩ k.length c (Cj k) rfl (by rw[Nt,Nat.mul_one]) Y7 (nk k) ?c3 ?c4 ?c5 ?_)
 case c3=>unfold maxLen;omega
 case c4=>omega
 case c5=>omega
 intro v' w2 Cb AJ OM hat;have NC:=Hi OM;clear OM;have Ac:w2.heap[b]?=some (.cells #[.pointer (some ⟨b,0,none⟩),v] 210):=by
  rw[AJ.block b (Hw jZ FY.size) (fun e=>hne e.symm)];exact Aj
 have d1:w2.cell? ⟨b,1,none⟩=some v:=by rw[Lib.cell_of_heap Ac];rfl
 have f1:w2.frozen? ⟨b,1,none⟩=false:=Lib.frozen_of_heap Ac 1;have JK:v'.ownBlock≠some b:=by
  rcases hat with hat|hat
  ·rw[hat];exact hne
  ·rw[hat];intro e;have:=GQ e;have:=FY.size;omega
 have YV:Hid (l++k=[]→v'=.slice none 0 0):=Hi (fun e=>by
  obtain⟨e1,e2⟩:=List.append_eq_nil_iff.1 e;exact NC.2 ⟨oh e1,e2⟩)
 obtain⟨ao,n',cap,rfl⟩:∃ ao n' cap,v'=.slice ao n' cap:=by
  rcases Cb.2 with⟨hv,_⟩|⟨g,cap,cur,hv,_⟩
  ·exact⟨_,_,_,hv⟩
  ·exact⟨_,_,_,hv⟩
 clear c1 Y7;go_wp2;go_ret2;have Et:A7 (fun k=>k=b∨v.ownBlock=some k) w w2:=(FY.mono (fun i e=>Or.inl e)).trans (A7.of_grownBy (F:=fun k=>k=b∨v.ownBlock=some k) AJ (fun q e=>.inr e)) (fun i e=>.inl e);have De:=Et.setCell (p:=⟨b,1,none⟩) (.inl (.inl rfl)) (.slice ao n' cap);refine⟨rfl,fun q=>q=b∨(Value.slice ao n' cap).ownBlock=some q,⟨some ⟨b,0,none⟩,.slice ao n' cap,Cu w2 b 1 _ _ _ Ac,.inr rfl,?_,JK,YV.out,rfl⟩,De,?_⟩
 ·rw[AA,aT];exact Bv Cb ((A7.refl (fun q=>q=b) w2).setCell (p:=⟨b,1,none⟩) (.inl rfl) _) (fun q hq e=>JK (by rw[hq,e]))
 ·rintro q (rfl|hq)
  ·exact .inl (.inl rfl)
  ·rcases hat with hat|hat
   ·exact .inl (.inr (by rw[←hat];exact hq))
   ·rw[hat] at hq;have:=GQ hq;exact .inr (by have:=FY.size;omega)
theorem Xp{w:World}{b:Nat}{l:List UInt8}{fp:Nat→Prop}(h:Ej w b l fp):
  Calls prog 128 #[.pointer (some ⟨b,0,none⟩)] w fun e w'=>e=.returned (.string (bs l))∧A7 fp w w':=by
 obtain⟨p,v,hb,hp,hown,hne,OM,rfl⟩:=h;have dM:w.drew.heap[b]?=some (.cells #[.pointer p,v] 210):=hb;have c1:w.drew.cell? ⟨b,1,none⟩=some v:=by rw[Lib.cell_of_heap dM];rfl
 rcases hown.2 with⟨rfl,h0⟩|⟨g,cap,cur,rfl,_,hg,hnc,PN,DF,awu⟩
 ·obtain rfl:l=[]:=by simpa using h0
  have hUS:(Builtin.unsafeString_ #[280,3] 9 #[.pointer none,.int .i64 0]).run prog w.drew=.ok (.string .empty) w.drew:=Lib.run_unsafeString_none _ _ _ _ _;have hSD:(Builtin.unsafeSliceData_ #[54] 280 #[.slice none 0 0]).run prog w.drew=.ok (.pointer none) w.drew:=rfl;clear hp hne hown
  go_in
  go_wp2;go_region;all_goals (go_wp2;go_ret;exact⟨rfl,(A7.refl _ _).drew⟩)
 ·by_cases h0:l=[]
  ·have:=OM h0;simp at this
  ·have Mt:l.length≠0:=(by simpa using h0);have hSD:(Builtin.unsafeSliceData_ #[54] 280 #[.slice (some ⟨g,0,none⟩) l.length cap]).run prog w.drew=.ok (.pointer (some ⟨g,0,none⟩)) w.drew:=Lib.run_unsafeSliceData_row _ _ _ _ _ _ (by omega);have hUS:(Builtin.unsafeString_ #[280,3] 9 #[.pointer (some ⟨g,0,none⟩),.int .i64 l.length]).run prog w.drew=.ok (.string (bs l)) (w.drew.freeze ⟨g,0,none⟩ l.length):=by
    refine Lib.run_unsafeString_row w.drew 280 3 9 5 underlying280 (by kernel_rfl) g cur.size (by have QL:w.drew.heap[g]?=some (.cells cur 5 (0,0)):=hg;simp[World.shape?,QL]) l h0 (by omega) (by unfold maxLen at PN;omega) ?_;intro j x hx;have Kb:=(U1.1 hx).1;have:=hown.cells (g:=g) rfl j (.int .u8 x.toNat) (by rw[ng l j Kb];rw[CJ Kb] at hx;rw[GQ hx]);exact this
   have OG:A7 (fun k=>k=b∨(Value.slice (some ⟨g,0,none⟩) l.length cap).ownBlock=some k) w (w.drew.freeze ⟨g,0,none⟩ l.length):=by
    refine((A7.refl _ w).drew).trans (G:=fun k=>k=g) ?_ (fun i e=>.inl (.inr (by rw[e];rfl)));unfold World.freeze;split
    ·exact A7.refl _ _
    ·refine⟨rfl,rfl,rfl,by simp,fun k _ hF=>?_⟩;simp only[Array.getElem?_modify];rw[Ab (fun e=>hF e.symm)]
   have HF:=Hi OG;clear hp hne hown OG
   go_in
   go_wp2;go_region;all_goals (go_wp2;go_ret;exact⟨rfl,HF⟩)
theorem EL.cells{w:World}{b m:Nat}{lv:Value}{D:A8}(h:EL w b m lv D):
  w.cell? ⟨b,0,none⟩=some (.int .i64 (D.n:Int))∧w.cell? ⟨b,1,none⟩=some (.map (some m))∧w.cell? ⟨b,2,none⟩=some lv∧w.cell? ⟨b,3,none⟩=some (.int .i64 D.left)∧w.cell? ⟨b,4,none⟩=some (.bool D.down)∧∀ j,w.frozen? ⟨b,j,none⟩=false:=by
 refine⟨?_,?_,?_,?_,?_,fun j=>Dt w b j _ _ h.struct⟩<;>rw[BL w b _ _ _ _ h.struct]<;>rfl
theorem ays(n:Nat)(w:World)(h1:1≤n)(h2:n≤16384):
  Calls prog 90 #[.int .i64 n] w fun e w'=>∃ b fp,e=.returned (.tuple #[.pointer (some ⟨b,0,none⟩),.int .i64 0])∧BB w' b (A8.new n) fp∧Bw w w'∧∀ k,fp k→w.heap.size≤k:=by
 have Ng:=@run_makeMap prog
 go_in
 go_wp2;go_ret2;refine⟨w.heap.size+1,QA (w.heap.size+1) w.heap.size (.slice none 0 0),?_,⟨w.heap.size,.slice none 0 0,⟨?_,?_,?_,?_,?_,?_,?_⟩,rfl⟩,?_,?_⟩
 ·rfl
 ·exact heap_alloc2_new w _ _
 ·exact(NG.made w n).kept (heap_alloc_old _ _ (by simp))
 ·exact⟨by simp[A8.new,alr],.inl ⟨rfl,rfl⟩⟩
 ·omega
 ·simp[Value.ownBlock]
 ·simp[Value.ownBlock]
 ·exact A8.BO.new h1 h2
 ·exact((Ai _ _).alloc (Ae _) _).alloc (by simp) _
 ·rintro k (rfl|rfl|hk)
  ·omega
  ·exact Ae _
  ·simp[Value.ownBlock] at hk
theorem YD{w:World}{b m:Nat}{lv:Value}{D:A8}(h:EL w b m lv D):Calls prog 209 #[.pointer (some ⟨b,0,none⟩)] w fun e w'=>e=.returned (.int .i64 D.up)∧w=w':=by
 obtain⟨c0,c1,c2,c3,c4,cf⟩:=h.cells;obtain⟨n,f,l,q,d⟩:=D;simp only at c4;clear c0 c1 c2 c3 cf;cases d
 ·go_in
  go_wp2;go_ret;exact⟨rfl,rfl⟩
 ·go_in
  go_wp2;go_ret;exact⟨rfl,rfl⟩
theorem acf{w:World}{b m:Nat}{lv:Value}{D:A8}(h:EL w b m lv D)(at_ n:Int)(_h1: -9223372036854775808≤at_)(_h2:at_≤9223372036854775807)(_h3: -9223372036854775808≤n)(_h4:n≤9223372036854775807):
  Calls prog 210 #[.pointer (some ⟨b,0,none⟩),.int .i64 at_,.int .i64 n] w fun e w'=>e=.returned (.bool (D.inside at_ n))∧w=w':=by
 obtain⟨c0,_,_,_,_,_⟩:=h.cells;have hN:=h.fine.n2;generalize Tj:D.n=N at*;have HN:=Hi Tj;clear Tj;by_cases a1:0≤at_
 ·have d1:decide (0≤at_)=true:=by simpa using a1
  by_cases a2:0≤n
  ·have d2:decide (0≤n)=true:=(by simpa using a2);by_cases a3:at_≤(N:Int)
   ·have d3:decide (at_≤(N:Int))=true:=(by simpa using a3);by_cases a4:n≤(N:Int) -at_
    ·have d4:decide (n≤(N:Int) -at_)=true:=(by simpa using a4);have HI:Hid (D.inside at_ n=true):=Hi (by unfold A8.inside;rw[HN.out,d1,d2,d3,d4];rfl)
     go_in
     go_wp2;go_ret;rw[HI.out];exact⟨rfl,rfl⟩
    ·have d4:decide (n≤(N:Int) -at_)=false:=(by simpa using a4);have HI:Hid (D.inside at_ n=false):=Hi (by unfold A8.inside;rw[HN.out,d1,d2,d3,d4];rfl)
     go_in
     go_wp2;go_ret;rw[HI.out];exact⟨rfl,rfl⟩
   ·have d3:decide (at_≤(N:Int))=false:=(by simpa using a3);have HI:Hid (D.inside at_ n=false):=Hi (by unfold A8.inside;rw[HN.out,d1,d2,d3];rfl)
    go_in
    go_wp2;go_ret;rw[HI.out];exact⟨rfl,rfl⟩
  ·have d2:decide (0≤n)=false:=(by simpa using a2);have HI:Hid (D.inside at_ n=false):=Hi (by unfold A8.inside;rw[d1,d2];rfl)
   go_in
   go_wp2;go_ret;rw[HI.out];exact⟨rfl,rfl⟩
 ·have d1:decide (0≤at_)=false:=by simpa using a1
  have HI:Hid (D.inside at_ n=false):=Hi (by unfold A8.inside;rw[d1];rfl)
  go_in
  go_wp2;go_ret;rw[HI.out];exact⟨rfl,rfl⟩
theorem Yy{w:World}{b:Nat}{D:A8}{fp:Nat→Prop}(h:BB w b D fp):Calls prog 77 #[.pointer (some ⟨b,0,none⟩)] w fun e w'=>e=.returned (.int .i64 (D.n:Int))∧w=w':=by
 obtain⟨m,lv,h,rfl⟩:=h;obtain⟨c0,_,_,_,_,_⟩:=h.cells
 go_in
 go_wp2;go_ret;exact⟨rfl,rfl⟩
theorem EL.set{w:World}{b m:Nat}{lv:Value}{D D':A8}(h:EL w b m lv D)(i:Nat)(v:Value)
  (hs:(#[.int .i64 (D.n:Int),.map (some m),lv,.int .i64 D.left,.bool D.down]:Array Value).setIfInBounds i v=#[.int .i64 (D'.n:Int),.map (some m),lv,.int .i64 D'.left,.bool D'.down])
  (hn:D'.n=D.n)(hb:D'.base=D.base)(hl:D'.loose=D.loose)(hf:D'.BO):EL (w.setCell ⟨b,i,none⟩ v) b m lv D':=by
 have hu:A7 (fun k=>k=b) w (w.setCell ⟨b,i,none⟩ v):=(A7.refl (fun k=>k=b) w).setCell (p:=⟨b,i,none⟩) (.inl rfl) v;refine⟨?_,?_,?_,h.mb,h.lb,h.lm,hf⟩
 ·rw[←hs];exact Cu w b i _ _ v h.struct
 ·rw[hn,hb];exact h.base.kept (hu.block m h.base.lt h.mb)
 ·rw[hl];exact Bv h.loose hu (fun g hg e=>h.lb (by rw[hg,e]))
theorem aho{w:World}{b:Nat}{D:A8}{fp:Nat→Prop}(h:BB w b D fp)(n:Int)(hn:n≤9223372036854775807):
  Calls prog 23 #[.pointer (some ⟨b,0,none⟩),.int .i64 n] w fun e w'=>e=.returned (.int .i64 0)∧BB w' b (D.QE n) fp∧A7 fp w w':=by
 obtain⟨m,lv,hd,rfl⟩:=h;obtain⟨_,_,_,c3,_,cf⟩:=hd.cells;have hf3:=cf 3;clear cf
 go_in
 go_wp2_with fail
 ·have hlt:n < -1:=by assumption
  go_ret;exact⟨rfl,⟨m,lv,hd.set 3 _ (by simp[A8.QE];omega) rfl rfl rfl (hd.fine.QE hn),rfl⟩,(A7.refl _ w).setCell (p:=⟨b,3,none⟩) (.inl (.inl rfl)) _⟩
 ·have Jj: -1≤n:=by assumption
  go_ret;exact⟨rfl,⟨m,lv,hd.set 3 _ (by simp[A8.QE];omega) rfl rfl rfl (hd.fine.QE hn),rfl⟩,(A7.refl _ w).setCell (p:=⟨b,3,none⟩) (.inl (.inl rfl)) _⟩
