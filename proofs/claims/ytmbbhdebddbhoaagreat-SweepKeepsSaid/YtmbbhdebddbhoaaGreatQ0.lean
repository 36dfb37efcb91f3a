/- Base Crc DiskPlain -/
import Derived.Test.YtmbbhdebddbhoaaGreatChecked
import Derived.WalkKit
import Derived.Deep.WholeRow
import Derived.Lib.Hide
set_option maxHeartbeats 400000
set_option maxRecDepth 100000
set_option linter.all false
namespace Go.Proofs.YtmbbhdebddbhoaaGreat
open Tryz
section
open Go.RowKit
theorem ex{α:Sort _}(a:α):∃ b,a=b:=⟨a,rfl⟩
theorem Hi{p:Prop}(h:p):Hid p:=h
abbrev Bw(w w':World):Prop:=Below w.heap.size w w'
theorem np{α:Type _}:(∀(l:List α)(i:Nat)(a:α),l.toArray.setIfInBounds i a=(l.set i a).toArray)∧(∀(a b:α)(l:List α),(a::l).set 0 b=b::l)∧(∀(a b:α)(n:Nat)(l:List α),(a::l).set (n+1) b=a::l.set n b):=⟨fun _ _ _=>List.setIfInBounds_toArray ..,fun _ _ _=>rfl,fun _ _ _ _=>rfl⟩
theorem cr{w:World}{k i:Nat}{cs:Array Value}{t:TypeId}{fr:Nat×Nat}{v:Value}(h:w.heap[k]?=some (.cells cs t fr))(e:cs[i]?=some v:=by rfl):w.cell? ⟨k,i,none⟩=some v:=(cell_of_row w k i cs t fr h).trans e
theorem BD:type_of% @And.intro:=@And.intro
theorem RG:type_of% @Array.getElem?_eq_getElem:=@Array.getElem?_eq_getElem
theorem BZ:type_of% @Array.getElem?_eq_some_iff:=@Array.getElem?_eq_some_iff
theorem CB:type_of% @Array.getElem?_toList:=@Array.getElem?_toList
theorem JB:type_of% @Array.replicate_succ:=@Array.replicate_succ
theorem JA:type_of% @Array.replicate_zero:=@Array.replicate_zero
theorem Ad:type_of% @Below.refl:=@Below.refl
theorem CZ:type_of% @IntWalk.i64_in:=@IntWalk.i64_in
theorem Kl:type_of% @List.all_eq_true:=@List.all_eq_true
theorem Cw:type_of% @List.append_assoc:=@List.append_assoc
theorem E8:type_of% @List.append_nil:=@List.append_nil
theorem JC:type_of% @List.append_toArray:=@List.append_toArray
theorem FL:type_of% @List.cons_append:=@List.cons_append
theorem Na:type_of% @List.drop_eq_getElem_cons:=@List.drop_eq_getElem_cons
theorem Jb:type_of% @List.drop_left':=@List.drop_left'
theorem O1:type_of% @List.filter_append:=@List.filter_append
theorem N9:type_of% @List.filter_cons_of_neg:=@List.filter_cons_of_neg
theorem Qn:type_of% @List.filter_cons_of_pos:=@List.filter_cons_of_pos
theorem Kk:type_of% @List.flatMap_append:=@List.flatMap_append
theorem FK:type_of% @List.getD_eq_getElem?_getD:=@List.getD_eq_getElem?_getD
theorem BP:type_of% @List.getElem?_eq_getElem:=@List.getElem?_eq_getElem
theorem Ql:type_of% @List.getElem?_eq_some_iff:=@List.getElem?_eq_some_iff
theorem Gt:type_of% @List.getElem?_map:=@List.getElem?_map
theorem O3:type_of% @List.getElem_append_left:=@List.getElem_append_left
theorem Qm:type_of% @List.getElem_append_right:=@List.getElem_append_right
theorem BF:type_of% @List.getElem_mem:=@List.getElem_mem
theorem Aj:type_of% @List.length_append:=@List.length_append
theorem AX:type_of% @List.length_cons:=@List.length_cons
theorem BA:type_of% @List.length_drop:=@List.length_drop
theorem IL:type_of% @List.length_eq_zero_iff:=@List.length_eq_zero_iff
theorem Km:type_of% @List.length_filter_le:=@List.length_filter_le
theorem BQ:type_of% @List.length_map:=@List.length_map
theorem FN:type_of% @List.length_nil:=@List.length_nil
theorem Ii:type_of% @List.length_singleton:=@List.length_singleton
theorem Aw:type_of% @List.length_take:=@List.length_take
theorem C8:type_of% @List.map_append:=@List.map_append
theorem Nb:type_of% @List.map_congr_left:=@List.map_congr_left
theorem Bg:type_of% @List.map_cons:=@List.map_cons
theorem Ee:type_of% @List.mem_append:=@List.mem_append
theorem AZ:type_of% @List.mem_cons:=@List.mem_cons
theorem Dh:type_of% @List.mem_cons_of_mem:=@List.mem_cons_of_mem
theorem Cc:type_of% @List.mem_cons_self:=@List.mem_cons_self
theorem CU:type_of% @List.mem_filter:=@List.mem_filter
theorem JE:type_of% @List.mem_flatMap:=@List.mem_flatMap
theorem AV:type_of% @List.mem_map:=@List.mem_map
theorem ES:type_of% @List.mem_map_of_mem:=@List.mem_map_of_mem
theorem DT:type_of% @List.mem_singleton:=@List.mem_singleton
theorem DI:type_of% @List.nil_append:=@List.nil_append
theorem Hu:type_of% @List.nodup_cons:=@List.nodup_cons
theorem Gd:type_of% @List.pairwise_cons:=@List.pairwise_cons
theorem P9:type_of% @List.pairwise_singleton:=@List.pairwise_singleton
theorem Jz:type_of% @List.push_toArray:=@List.push_toArray
theorem Ih:type_of% @List.size_toArray:=@List.size_toArray
theorem Ht:type_of% @List.sum_append:=@List.sum_append
theorem Cx:type_of% @List.sum_cons:=@List.sum_cons
theorem Ja:type_of% @List.take_append_drop:=@List.take_append_drop
theorem Gf:type_of% @List.take_left':=@List.take_left'
theorem Ck:type_of% @List.take_length:=@List.take_length
theorem ET:type_of% @List.take_of_length_le:=@List.take_of_length_le
theorem BS:type_of% @List.take_succ_eq_append_getElem:=@List.take_succ_eq_append_getElem
theorem FJ:type_of% @List.take_zero:=@List.take_zero
theorem Ab:type_of% @Nat.le_refl:=@Nat.le_refl
theorem Ah:type_of% @Nat.le_trans:=@Nat.le_trans
theorem Di:type_of% @Nat.lt_of_lt_of_le:=@Nat.lt_of_lt_of_le
theorem FM:type_of% @Nat.min_eq_left:=@Nat.min_eq_left
theorem Kj:type_of% @Nat.mul_le_mul_right:=@Nat.mul_le_mul_right
theorem Fs:type_of% @Nat.zero_add:=@Nat.zero_add
theorem Ar:type_of% @Nat.zero_le:=@Nat.zero_le
theorem Le:type_of% @Oper.semAt_some:=@Oper.semAt_some
theorem BI:type_of% @Option.bind_some:=@Option.bind_some
theorem JD:type_of% @Option.isSome_iff_exists:=@Option.isSome_iff_exists
theorem Pb:type_of% @Option.map_eq_some_iff:=@Option.map_eq_some_iff
theorem Dm:type_of% @Option.map_some:=@Option.map_some
theorem EH:type_of% @Option.some.inj:=@Option.some.inj
theorem Bt:type_of% @Option.some.injEq:=@Option.some.injEq
theorem Jc:type_of% @Prod.mk.injEq:=@Prod.mk.injEq
theorem DJ:type_of% @World.ownsRow_nil:=@World.ownsRow_nil
theorem Ai:type_of% @World.size_alloc:=@World.size_alloc
theorem Fq:type_of% @beq_eq_false_iff_ne:=@beq_eq_false_iff_ne
theorem Bz:type_of% @block_lt_of_cell:=@block_lt_of_cell
theorem Dt:type_of% @bodyPost_ret:=@bodyPost_ret
theorem Cu:type_of% @callsIn_wide:=@callsIn_wide
theorem AY:type_of% @cell_of_row:=@cell_of_row
theorem Ma:type_of% @decide_eq_false:=@decide_eq_false
theorem Gs:type_of% @decide_eq_true:=@decide_eq_true
theorem Cb:type_of% @frozen_of_row:=@frozen_of_row
theorem Aq:type_of% @heap_alloc_new:=@heap_alloc_new
theorem Bh:type_of% @heap_setCell_same:=@heap_setCell_same
theorem Aa:type_of% @if_neg:=@if_neg
theorem Ac:type_of% @if_pos:=@if_pos
theorem Cz:type_of% @info_parts:=@info_parts
theorem Ld:type_of% @of_decide_eq_true:=@of_decide_eq_true
theorem ER:type_of% @run_underlying:=@run_underlying
end
section
open Go.RowKit
def bs(l:List UInt8):ByteArray:=⟨l.toArray⟩
@[simp] theorem ajz (l:List UInt8):(bs l).size=l.length:=rfl
@[simp] theorem af3 (l:List UInt8):(bs l).data=l.toArray:=rfl
@[simp] theorem aqF (l k:List UInt8):bs l++bs k=bs (l++k):=by
 apply ByteArray.ext;simp[ByteArray.data_append]
theorem af4{l:List UInt8}{i:Nat}(h:i < (bs l).size):i < l.length:=h
@[simp] theorem aqG (l:List UInt8) (i:Nat) (h:i < (bs l).size):(bs l)[i]=l[i]'(af4 h):=rfl
@[simp] theorem aqH (l:List UInt8) (a b:Nat):(bs l).extract a b=bs ((l.take b).drop a):=by
 apply ByteArray.ext;simp[ByteArray.data_extract];apply List.ext_getElem?;intro i;simp[List.getElem?_take,List.getElem?_drop];by_cases h:i < b -a
 ·simp[h,show a+i < b by omega]
 ·simp[h,show ¬ a+i < b by omega]
@[simp] theorem aqI (l:List UInt8):(bs l).toList=l:=ByteArray.toList_mk l
theorem rZ{k:IntKind}{a b:Int}(h:a=b):Ending.returned (.int k a)=.returned (.int k b):=by rw[h]
theorem si(l:List UInt8)(k:Nat)(h:k < l.length):l.take (k+1)=l.take k++[l[k]]:=BS h
@[irreducible] def Cf (k:List UInt8):Array Value:=(k.map fun b=>Value.int .u8 (b.toNat:Int)).toArray
@[simp] theorem Z8 (k:List UInt8):(Cf k).size=k.length:=by unfold Cf;simp
theorem Ue(k:List UInt8)(i:Nat)(h:i < k.length):(Cf k)[i]?=some (.int .u8 (k[i].toNat:Int)):=by
 unfold Cf;rw[List.getElem?_toArray,Gt,BP h];rfl
theorem af5(k:List UInt8)(i:Nat)(b:UInt8):(Cf k).setIfInBounds i (.int .u8 (b.toNat:Int))=Cf (k.set i b):=by
 unfold Cf;rw[List.map_set,List.setIfInBounds_toArray]
theorem fI(k:List UInt8):(Cf k).all (·.oneCell')=true:=by
 unfold Cf;rw[Array.all_eq_true];intro i hi;simp at hi ⊢;rfl
theorem Qo(n:Nat):(UInt8.ofNat n).toNat=n % 256:=rfl
theorem RH(P:Program)(w:World)(src e dst:TypeId)(hs:P.underlying src=some (.slice e))(he:P.underlying e=some (.int .u8))(hd:P.underlying dst=some .string)
  (b off len cap:Nat)(k:List UInt8)(hlen:k.length=len)(atE:∀ i,(h:i < k.length)→w.cell? ⟨b,off+i,none⟩=some (.int .u8 (k[i].toNat:Int))):
  (convert src dst (.slice (some ⟨b,off,none⟩) len cap)).run P w=.ok (.string (bs k)) w:=by
 have h:=run_convert_bytes_arg (P:=P) w src e hs he b off len cap (k.map fun x=>(x.toNat:Int)) (by simpa using hlen) (fun i hi=>by
  rw[atE i (by omega)];simp[FK,BP (show i < k.length by omega)]) dst hd
 rw[h]
 congr 2
 apply ByteArray.ext;apply Array.ext';rw[strOfNums_data];simp[bs,Function.comp_def]
theorem af6(P:Program)(w:World)(t e:TypeId)(N n b:Nat)(hu:P.underlying t=some (.array N e))(hs:(P.info? e).map (·.size)=some 1)(hn:n≤N):
  (Instr.sliceAt t (.pointer (some ⟨b,0,none⟩)) none (some (.int .i64 (n:Int))) none).run P w=.ok (.slice (some ⟨b,0,none⟩) n N) w:=by
 cases hq:P.info? e with
 |none=>simp[hq] at hs
 |some i=>
  simp[Instr.sliceAt,Instr.sureAddr,ER hu,Instr.sliceBounds,run_sliceBound,sizeOf,typeInfo,hq,go_sem,hn]
theorem af7(P:Program)(w:World)(t e:TypeId)(N b:Nat)(hu:P.underlying t=some (.array N e))(hs:(P.info? e).map (·.size)=some 1):
  (Instr.sliceAt t (.pointer (some ⟨b,0,none⟩)) none none none).run P w=.ok (.slice (some ⟨b,0,none⟩) N N) w:=by
 cases hq:P.info? e with
 |none=>simp[hq] at hs
 |some i=>
  simp[Instr.sliceAt,Instr.sureAddr,ER hu,Instr.sliceBounds,sizeOf,typeInfo,hq,go_sem]
theorem CV(w:World)(c:Array Value)(T:TypeId)(i:Nat):(w.alloc (.cells c T)).cell? ⟨w.heap.size,i,none⟩=c[i]? :=
 AY _ _ i c T (0,0) (heap_alloc_last w _)
theorem fJ(P:Program)(w:World)(src e dst T:TypeId)(hs:P.underlying src=some (.slice e))(he:P.underlying e=some (.int .u8))(hd:P.underlying dst=some .string)
  (x:Int)(b:UInt8)(hx:x=(b.toNat:Int)):
  (convert src dst (.slice (some ⟨w.heap.size,0,none⟩) 1 1)).run P (w.alloc (.cells #[.int .u8 x] T))=.ok (.string (bs [b])) (w.alloc (.cells #[.int .u8 x] T)):=by
 subst hx;refine RH P _ src e dst hs he hd _ 0 1 1 [b] rfl (fun i hi=>?_);rw[Fs,CV];obtain rfl:i=0:=by simpa using hi
 rfl
end
namespace Crc
def step(c:Nat):Nat:=if c % 2=1 then(c / 2) ^^^ 3988292384 else c / 2
def steps:Nat→Nat→Nat
 |0,c=>c
 |n+1,c=>steps n (step c)
theorem sj(n c:Nat):steps (n+1) c=step (steps n c):=by
 induction n generalizing c with
 |zero=>rfl
 |succ n ih=>rw[steps,ih (step c)];rfl
theorem af8{c:Nat}(h:c < 2 ^ 32):step c < 2 ^ 32:=by
 unfold step;have h2:c / 2 < 2 ^ 32:=by omega
 split
 ·exact Nat.xor_lt_two_pow h2 (by decide)
 ·exact h2
theorem YU{c:Nat}(h:c < 2 ^ 32)(n:Nat):steps n c < 2 ^ 32:=by
 induction n generalizing c with
 |zero=>exact h
 |succ n ih=>exact ih (af8 h)
theorem af9(a b:Nat):(a ^^^ b) / 2=(a / 2) ^^^ (b / 2):=by
 have h:=Nat.xor_div_two_pow (a:=a) (b:=b) (n:=1);simpa using h
theorem afa(a b:Nat):(a ^^^ b) % 2=((a % 2) ^^^ (b % 2)):=by
 have h:=Nat.xor_mod_two_pow (a:=a) (b:=b) (n:=1);simpa using h
theorem afb(a b:Nat):step (a ^^^ b)=step a ^^^ step b:=by
 unfold step;rw[afa,af9];rcases Nat.mod_two_eq_zero_or_one a with ha|ha<;>rcases Nat.mod_two_eq_zero_or_one b with hb|hb<;>simp only[ha,hb]
 ·simp
 ·simp[Nat.xor_assoc]
 ·simp[Nat.xor_assoc,Nat.xor_comm 3988292384]
 ·have e:(a / 2 ^^^ 3988292384) ^^^ (b / 2 ^^^ 3988292384)=(a / 2 ^^^ b / 2) ^^^ (3988292384 ^^^ 3988292384):=by
   rw[Nat.xor_assoc,Nat.xor_assoc,←Nat.xor_assoc 3988292384,Nat.xor_comm 3988292384 (b / 2),Nat.xor_assoc (b / 2)]
  simp[e]
theorem afc(n a b:Nat):steps n (a ^^^ b)=steps n a ^^^ steps n b:=by
 induction n generalizing a b with
 |zero=>rfl
 |succ n ih=>simp only[steps];rw[afb,ih]
theorem afd(h:Nat):step (2*h)=h:=by
 unfold step;rw[Aa (by omega)];omega
theorem afe(n h:Nat):steps n (2 ^ n*h)=h:=by
 induction n generalizing h with
 |zero=>simp[steps]
 |succ n ih=>
  simp only[steps];rw[Nat.pow_succ,Nat.mul_comm (2 ^ n) 2,Nat.mul_assoc,afd,ih]
theorem aff(h l:Nat)(hl:l < 256):256*h+l=(256*h) ^^^ l:=by
 have e:=Nat.two_pow_add_eq_or_of_lt (i:=8) (b:=l) (by simpa using hl) h;have e2:2 ^ 8*h ^^^ l=2 ^ 8*h ||| l:=by
  apply Nat.eq_of_testBit_eq;intro i;simp only[Nat.testBit_xor,Nat.testBit_or,Nat.testBit_two_pow_mul];by_cases hi:i < 8
  ·simp[show ¬ 8≤i by omega]
  ·have:l.testBit i=false:=Nat.testBit_lt_two_pow (Di hl (by
    have:=Nat.pow_le_pow_right (n:=2) (by decide) (show 8≤i by omega);simpa using this))
   simp[this]
 have e3:(2:Nat) ^ 8=256:=by decide
 rw[e3] at e e2;rw[e,e2]
def tab(i:Nat):Nat:=steps 8 i
theorem afg(c b:Nat):(c / 256) ^^^ tab ((c % 256) ^^^ b)=steps 8 (c ^^^ b):=by
 have hc:c=(256*(c / 256)) ^^^ (c % 256):=by
  rw[←aff _ _ (Nat.mod_lt _ (by decide))];omega
 have h1:steps 8 (c ^^^ b)=steps 8 (256*(c / 256)) ^^^ steps 8 ((c % 256) ^^^ b):=by
  rw[←afc,←Nat.xor_assoc,←hc]
 rw[h1];have h2:=afe 8 (c / 256);have e3:(2:Nat) ^ 8=256:=by decide
 rw[e3] at h2;rw[h2];rfl
def reg(c:Nat)(l:List UInt8):Nat:=l.foldl (fun c b=>steps 8 (c ^^^ b.toNat)) c
theorem su(c:Nat)(l:List UInt8)(b:UInt8):reg c (l++[b])=steps 8 (reg c l ^^^ b.toNat):=by simp[reg]
theorem fK(b:UInt8):b.toNat < 2 ^ 32:=Nat.lt_trans b.toNat_lt (by decide)
theorem sw{c:Nat}(h:c < 2 ^ 32)(l:List UInt8):reg c l < 2 ^ 32:=by
 induction l generalizing c with
 |nil=>exact h
 |cons b l ih=>exact ih (YU (Nat.xor_lt_two_pow h (fK b)) 8)
def Nc(c:Nat):Nat:=4294967295 -c
theorem sD(c:Nat):Nc c < 2 ^ 32:=by unfold Nc;omega
def more(c:Nat)(l:List UInt8):Nat:=Nc (reg (Nc c) l)
def sum(l:List UInt8):Nat:=more 0 l
theorem sum_lt(l:List UInt8):sum l < 2 ^ 32:=sD _
def val:List UInt8→Nat
 |[]=>0
 |b :: l=>b.toNat+256*val l
theorem val_append(l k:List UInt8):val (l++k)=val l+256 ^ l.length*val k:=by
 induction l with
 |nil=>simp[val]
 |cons b l ih=>simp only[FL,val,ih,AX,Nat.pow_succ];rw[Nat.mul_add,←Nat.mul_assoc,Nat.mul_comm 256 (256 ^ l.length)];omega
theorem Gg(l:List UInt8):val l < 256 ^ l.length:=by
 induction l with
 |nil=>simp[val]
 |cons b l ih=>
  have:=b.toNat_lt;simp only[val,AX,Nat.pow_succ];omega
def le:Nat→Nat→List UInt8
 |0,_=>[]
 |n+1,v=>UInt8.ofNat v :: le n (v / 256)
@[simp] theorem Be (n v:Nat):(le n v).length=n:=by
 induction n generalizing v with
 |zero=>rfl
 |succ n ih=>simp[le,ih]
theorem YV(n v:Nat):val (le n v)=v % 256 ^ n:=by
 induction n generalizing v with
 |zero=>simp[le,val];omega
 |succ n ih=>
  simp only[le,val,ih];rw[Nat.pow_succ,Nat.mul_comm (256 ^ n) 256,Nat.mod_mul];rfl
theorem val_inj:∀ {l k:List UInt8},l.length=k.length→val l=val k→l=k
 |[],[],_,_=>rfl
 |a :: l,b :: k,hl,hv=>by
  have ha:=a.toNat_lt;have hb:=b.toNat_lt;simp only[val] at hv;have e1:a.toNat=b.toNat:=by omega
  have e2:val l=val k:=by omega
  rw[UInt8.toNat_inj.1 e1,val_inj (by simpa using hl) e2]
theorem VY(l:List UInt8):le l.length (val l)=l:=
 val_inj (Be _ _) (by rw[YV];exact Nat.mod_eq_of_lt (Gg l))
def Du(l:List UInt8):List UInt8:=l++le 4 (sum l)
theorem Mc(l:List UInt8):(Du l).length=l.length+4:=by simp[Du,Be]
theorem afh(l:List UInt8):(Du l).take ((Du l).length -4)=l:=by
 rw[Mc,Nat.add_sub_cancel,Du,List.take_left]
def Dj(l:List UInt8):List UInt8×Int:=if l.length < 4 then([],6) else if Du (l.take (l.length -4))=l then(l.take (l.length -4),0) else([],7)
theorem fM(l:List UInt8):Dj (Du l)=(l,0):=by
 unfold Dj;rw[afh,Ac rfl,Aa (by rw[Mc];omega)]
theorem fO{l:List UInt8}(h:(Dj l).2=0):Du (Dj l).1=l:=by
 unfold Dj at h ⊢;split
 ·rename_i h4;rw[Ac h4] at h;simp at h
 ·rename_i h4
  rw[Aa h4] at h;split
  ·rename_i h5;exact h5
  ·rename_i h5;rw[Aa h5] at h;simp at h
end Crc
section
open Go.RowKit
@[irreducible] def Ij (k:Nat):Array Value:=((List.range 256).map fun i=>Value.int .u32 (if i < k then(Crc.tab i:Nat) else 0)).toArray
theorem VZ(k i:Nat)(h:i < 256):(Ij k)[i]?=some (.int .u32 (if i < k then(Crc.tab i:Nat) else 0)):=by
 unfold Ij;rw[List.getElem?_toArray,Gt,List.getElem?_range h];simp
theorem RI(k:Nat):(Ij k).size=256:=by unfold Ij;simp
theorem afi(k:Nat)(h:k < 256):(Ij k).setIfInBounds k (.int .u32 (Crc.tab k:Nat))=Ij (k+1):=by
 apply Array.ext_getElem?;intro i;rw[Array.getElem?_setIfInBounds];by_cases hi:i < 256
 ·rw[VZ _ _ hi,VZ _ _ hi];by_cases e:k=i
  ·subst e;simp[RI,hi]
  ·rw[Aa e];by_cases h2:i < k
   ·simp[h2,show i < k+1 by omega]
   ·simp[h2,show ¬ i < k+1 by omega]
 ·rw[Aa (by omega),Array.getElem?_eq_none (by rw[RI];omega),Array.getElem?_eq_none (by rw[RI];omega)]
theorem sF:Tryz.zeroCells313=Ij 0:=by
 unfold Ij
 kernel_rfl
theorem afj:(prog.info? 313).map (fun i=>(i.zero,i.size))=some (some (.agg Tryz.zeroCells313),256):=by kernel_rfl
theorem YW(k:Nat):(prog.info? 313).map (·.size)=some (Ij k).size:=by rw[RI];exact(zero_of_info afj).2
theorem sG(k:Nat):(Ij k).all (·.oneCell')=true:=by
 rw[Array.all_eq_true];intro i hi;have:=VZ k i (by rw[RI] at hi;exact hi);rw[RG hi] at this;rw[EH this];rfl
theorem afk(c:Nat)(h:c < 2 ^ 32):bits .and .u32 (c:Int) 1=((c % 2:Nat):Int):=by
 rw[show(1:Int)=((1:Nat):Int) from rfl,u32_and_nat c 1 h (by decide),Nat.and_one_is_mod]
theorem W9(a b:Nat)(ha:a < 2 ^ 32)(hb:b < 2 ^ 32):bits .xor .u32 (a:Int) (b:Int)=((a ^^^ b:Nat):Int):=u32_xor_nat a b ha hb
theorem afl(w:World):
  Calls prog 249 #[] w fun e w'=>e=.returned (.agg (Ij 256))∧Bw w w':=by
 go_enter func249,ntmps249;go_wp2_with fail;rw[sF]
 go_loopw [3] (fun i wr=>∃ k:Nat,k≤256∧i=.int .i64 k∧wr=w.alloc (Obj.cells (Ij k) 313)) (fun i _=>256 -(intOf i).toNat)
 case atStart=>exact⟨0,by omega,rfl,rfl⟩
 case round=>
  obtain⟨k,hk,rfl,rfl⟩:=hrel;by_cases hlt:k < 256
  ·have atE:=VZ k k hlt;go_wp2_with fail
   go_loop [2,8] (fun c j=>∃ i:Nat,i≤8∧j=.int .i64 i∧c=.int .u32 (Crc.steps i k:Nat)) (fun _ j=>8 -(intOf j).toNat)
   case atStart=>exact⟨0,by omega,rfl,rfl⟩
   case round=>
    obtain⟨i,hi,rfl,rfl⟩:=hrel;by_cases afm:i < 8
    ·have hb:Crc.steps i k < 2 ^ 32:=Crc.YU (by omega) i;have h1:=afk _ hb;have h2:=W9 (Crc.steps i k / 2) 3988292384 (by omega) (by decide);have h3:=Crc.sj i k;unfold Crc.step at h3;have H1:=Hi h1;have H2:=Hi h2;have H3:=Hi h3;clear h1 h2 h3 atE;go_wp2_with fail
     ·have ht:(bits BinOp.and IntKind.u32 (↑(Crc.steps i k)) 1 == 1)=true:=(by assumption);rw[H1.out] at ht
      go_round
      case rel=>exact⟨i+1,by omega,by go_num,by rw[H3.out,Ac (by simp at ht;omega)];exact congrArg _ H2.out⟩
      case measure=>simp[intOf];omega
     ·have ht:(bits BinOp.and IntKind.u32 (↑(Crc.steps i k)) 1 == 1)=false:=(by assumption);rw[H1.out] at ht
      go_round
      case rel=>exact⟨i+1,by omega,by go_num,by rw[H3.out,Aa (by simp at ht;omega)];rfl⟩
      case measure=>simp[intOf];omega
    ·obtain rfl:i=8:=(by omega);have asR:=afi k hlt;unfold Crc.tab at asR;go_wp2_with fail;go_roundw
     case rel=>exact⟨k+1,by omega,by go_num,rfl⟩
     case measure=>simp[intOf];omega
  ·obtain rfl:k=256:=(by omega);go_wp2_with (first|(refine wpList_load_row rfl 313 _ rfl w.heap.size rfl 313 (Ij 256) (0,0) _ (Aq w _) underlying313 rfl (YW 256) ?_)|(refine wpList_store_row rfl 313 _ _ rfl w.heap.size (Ij 256) rfl rfl 313 (Ij 256) (Aq w _) (YW 256) rfl (sG 256) ?_;rw[World.setRow_alloc_new]));exact Dt (v:=.agg (Ij 256)) (results_cell_row rfl _ _ w.heap.size 313 _ (0,0) _ rfl (Aq w _) underlying313 rfl (YW 256)) rfl ⟨rfl,(Ad _ _).alloc (Ab _) _⟩
end
section
open Go.RowKit
theorem fP(c:Nat)(h:c < 2 ^ 32):bits .xor .u32 IntKind.u32.max (c:Int)=((Crc.Nc c:Nat):Int):=by
 have e:IntKind.u32.max=((4294967295:Nat):Int):=by decide
 rw[e,W9 _ _ (by decide) h]
 congr 1
 unfold Crc.Nc;apply Nat.eq_of_testBit_eq;intro i;have h1:=Nat.testBit_two_pow_sub_succ (x:=c) (n:=32) h i;rw[show 4294967295 -c=2 ^ 32 -(c+1) by omega,h1,Nat.testBit_xor,show(4294967295:Nat)=2 ^ 32 -1 by decide,Nat.testBit_two_pow_sub_one];by_cases hi:i < 32
 ·simp[hi]
 ·simp[hi];exact Nat.testBit_lt_two_pow (Di h (Nat.pow_le_pow_right (by decide) (by omega)))
theorem afn:Tryz.zeroCells313.size=(Ij 256).size:=by rw[sF,RI,RI]
theorem afo(c:Nat)(l:List UInt8)(w:World)(hc:c < 2 ^ 32)(hs:l.length≤maxLen):
  Calls prog 232 #[.int .u32 c,.string (bs l)] w fun e w'=>e=.returned (.int .u32 (Crc.more c l:Nat))∧Bw w w':=by
 unfold maxLen at hs;go_enter func232,ntmps232;go_wp2_with fail;refine(afl _).mono ?_;rintro e w1⟨rfl,hb⟩;go_wp2_with (first|(refine wpList_store_row rfl 313 _ _ rfl w1.heap.size (Ij 256) rfl rfl 313 _ (Aq w1 _) (YW 256) afn (sG 256) ?_;rw[World.setRow_alloc_new]))
 go_loop [0,12] (fun r i=>∃ k:Nat,k≤l.length∧i=.int .i64 k∧r=.int .u32 (Crc.reg (Crc.Nc c) (l.take k):Nat)) (fun _ i=>l.length -(intOf i).toNat)
 case atStart=>exact⟨0,by omega,rfl,by rw[fP c hc];rfl⟩
 case round=>
  obtain⟨k,hk,rfl,rfl⟩:=hrel;have RJ:=Crc.sw (Crc.sD c) (l.take k);by_cases hlt:k < l.length
  ·have hstep:Crc.reg (Crc.Nc c) (l.take (k+1))=(Crc.reg (Crc.Nc c) (l.take k) / 256) ^^^ Crc.tab ((Crc.reg (Crc.Nc c) (l.take k) % 256) ^^^ l[k].toNat):=by
    rw[Crc.afg,si l k hlt,Crc.su]
   have HS:=Hi hstep;clear hstep;generalize Crc.reg (Crc.Nc c) (l.take k)=r at*;have aBG:=l[k].toNat_lt;have hx:bits .xor .u8 ((r:Int) % 256) (l[k].toNat:Int)=((r % 256 ^^^ l[k].toNat:Nat):Int):=by
    rw[show(r:Int) % 256=((r % 256:Nat):Int) by omega];exact u8_xor_nat _ _ (Nat.mod_lt _ (by decide)) (by omega)
   have hi:r % 256 ^^^ l[k].toNat < 256:=Nat.xor_lt_two_pow (n:=8) (Nat.mod_lt _ (by decide)) (by simpa using aBG);have atE:=VZ 256 _ hi;rw[Ac hi] at atE;have ht:Crc.tab (r % 256 ^^^ l[k].toNat) < 2 ^ 32:=Crc.YU (by omega) 8;have H2:=Hi (W9 (r / 256) (Crc.tab (r % 256 ^^^ l[k].toNat)) (by omega) ht);go_wp2_with fail
   go_round
   case rel=>exact⟨k+1,by omega,by go_num,by rw[HS.out,←H2.out];rfl⟩
   case measure=>simp[intOf];omega
  ·obtain rfl:k=l.length:=(by omega);go_wp2_with fail;go_ret;refine⟨rZ ?_,(hb.alloc hb.size _).mono (Ab _)⟩;rw[Ck] at RJ;exact fP _ RJ
end
section
open Go.RowKit
theorem sH(k v:Nat):Crc.le (k+1) v=Crc.le k v++[UInt8.ofNat (v / 256 ^ k)]:=by
 induction k generalizing v with
 |zero=>simp[Crc.le]
 |succ k ih=>
  rw[Crc.le,ih (v / 256)];simp only[Crc.le,FL];rw[Nat.div_div_eq_div_mul,Nat.pow_succ,Nat.mul_comm 256]
def Lf(k v:Nat):List UInt8:=Crc.le k v++List.replicate (8 -k) 0
theorem sI(k v:Nat)(h:k≤8):(Lf k v).length=8:=by simp[Lf,Crc.Be];omega
theorem afp(k v:Nat)(h:k < 8):(Lf k v).set k (UInt8.ofNat (v / 256 ^ k))=Lf (k+1) v:=by
 unfold Lf;rw[sH,show 8 -k=(8 -(k+1))+1 by omega,List.replicate_succ];rw[List.set_append_right _ _ (by rw[Crc.Be];exact Ab _),Crc.Be,Nat.sub_self];simp
theorem afq(v n:Nat)(h:n≤8):(Lf 8 v).take n=Crc.le n v:=by
 unfold Lf;have:∀ m v,n≤m→(Crc.le m v).take n=Crc.le n v:=by
  induction n with
  |zero=>intros;simp[Crc.le]
  |succ n ih=>
   intro m v hm;cases m with
   |zero=>omega
   |succ m=>simp only[Crc.le,List.take_succ_cons];rw[ih (by omega) m _ (by omega)]
 simp[this 8 v h]
theorem afr:(#[Value.int .u8 0,Value.int .u8 0,Value.int .u8 0,Value.int .u8 0,Value.int .u8 0,Value.int .u8 0,Value.int .u8 0,Value.int .u8 0]:Array Value)=Cf (Lf 0 0):=by
 unfold Cf;rfl
theorem Wd(v n:Nat)(w:World)(hn:n≤8):
  Calls prog 159 #[.int .u64 v,.int .i64 n] w fun e w'=>e=.returned (.string (bs (Crc.le n v)))∧Bw w w':=by
 go_enter func159,ntmps159;go_wp2_with fail;rw[afr]
 go_loopw [7] (fun i wr=>∃ k:Nat,k≤8∧i=.int .i64 k∧wr=w.alloc (Obj.cells (Cf (Lf k v)) 274)) (fun i _=>8 -(intOf i).toNat)
 case atStart=>exact⟨0,by omega,rfl,rfl⟩
 case round=>
  obtain⟨k,hk,rfl,rfl⟩:=hrel;by_cases hlt:k < 8
  ·have hs:(Cf (Lf k v)).setIfInBounds k (.int .u8 ((v:Int) / 2 ^ (8*k) % 256))=Cf (Lf (k+1) v):=by
    rw[←afp k v hlt,←af5,Qo,show(256:Nat)=2 ^ 8 from rfl,←Nat.pow_mul]
    norm_cast
   have hg:=Ue (Lf k v) k (by rw[sI _ _ hk];exact hlt);go_wp2_with fail;go_roundw
   case rel=>exact⟨k+1,by omega,by go_num,rfl⟩
   case measure=>simp[intOf];omega
  ·obtain rfl:k=8:=(by omega);have hsl:=fun(x:World)=>af6 prog x 274 5 8 n w.heap.size underlying274 (by kernel_rfl) hn
   have hcv:=RH prog (w.alloc (Obj.cells (Cf (Lf 8 v)) 274)) 232 5 9 underlying232 underlying5 underlying9 w.heap.size 0 n 8 (Crc.le n v) (Crc.Be _ _) (fun i hi=>by
    rw[Fs,CV,Ue _ _ (by rw[sI _ _ hk];rw[Crc.Be] at hi;omega)];simp only[←afq v n hn,List.getElem_take])
   go_wp2_with fail;go_ret;exact⟨rfl,(Ad _ _).alloc (Ab _) _⟩
theorem RL(v n:Nat)(w:World)(hv:v < 256 ^ n)(h1:1≤n)(hn:n≤8):
  Calls prog 186 #[.int .u64 v,.int .i64 n] w fun e w'=>e=.returned (.tuple #[.string (bs (Crc.le n v)),.int .i64 0])∧Bw w w':=by
 have hv2:v < 18446744073709551616:=Di hv (by rw[show(18446744073709551616:Nat)=256 ^ 8 from rfl];exact Nat.pow_le_pow_right (by decide) hn);by_cases h8:n < 8
 ·have hq:((v:Int) / 2 ^ (8*n) != 0)=false:=by
   have e:v / 2 ^ (8*n)=0:=(by rw[Nat.pow_mul];exact Nat.div_eq_of_lt hv);have e2:(v:Int) / 2 ^ (8*n)=((v / 2 ^ (8*n):Nat):Int):=(by norm_cast);rw[e2,e];rfl
  go_enter func186,ntmps186;go_wp2_with fail;refine(Wd v n _ hn).mono ?_;rintro e w1⟨rfl,hb⟩;go_wp2_with fail;go_ret2;exact⟨rfl,hb⟩
 ·obtain rfl:n=8:=by omega
  go_enter func186,ntmps186;go_wp2_with fail;refine(Wd v 8 _ hn).mono ?_;rintro e w1⟨rfl,hb⟩;go_wp2_with fail;go_ret2;exact⟨rfl,hb⟩
theorem afs(l:List UInt8)(w:World)(hs:l.length≤maxLen):
  Calls prog 198 #[.string (bs l)] w fun e w'=>e=.returned (.int .u32 (Crc.sum l:Nat))∧Bw w w':=by
 go_enter func198,ntmps198;go_wp2_with fail;refine(afo 0 l _ (by decide) hs).mono ?_;rintro e w1⟨rfl,hb⟩;go_wp2_with fail;go_ret;exact⟨rfl,hb⟩
theorem Uf(l:List UInt8)(w:World)(hs:l.length≤1099511627776):
  Calls prog 151 #[.string (bs l)] w fun e w'=>e=.returned (.string (bs (Crc.Du l)))∧Bw w w':=by
 have hlt:=Crc.sum_lt l;go_enter func151,ntmps151;go_wp2_with fail;refine(afs l _ (by unfold maxLen;omega)).mono ?_;rintro e w1⟨rfl,hb⟩;have H:=Hi hlt;go_wp2_with fail;refine(RL (Crc.sum l) 4 _ H (by decide) (by decide)).mono ?_;rintro e w2⟨rfl,hb2⟩;go_wp2_with fail;go_ret;exact⟨rfl,hb.trans (hb2.mono hb.size)⟩
theorem sJ(l:List UInt8)(w:World)(hs:l.length≤1099511627776):
  Calls prog 193 #[.string (bs l)] w fun e w'=>e=.returned (.tuple #[.string (bs (Crc.Dj l).1),.int .i64 (Crc.Dj l).2])∧Bw w w':=by
 by_cases h4:l.length < 4
 ·have H:Hid (Crc.Dj l=([],6)):=Hi (Ac h4);go_enter func193,ntmps193;go_wp2_with fail;go_ret2;rw[H.out];exact⟨rfl,Ad _ _⟩
 ·by_cases hse:Crc.Du (l.take (l.length -4))=l
  ·have H:Hid (Crc.Dj l=(l.take (l.length -4),0)):=Hi (by unfold Crc.Dj;rw[Aa h4,Ac hse]);have hb:(Crc.Du (l.take (l.length -4)) == l)=true:=(by simp[hse]);clear hse;go_enter func193,ntmps193;go_wp2_with fail;refine(Uf (l.take (l.length -4)) _ (by rw[Aw];omega)).mono ?_;rintro e w1⟨rfl,hb1⟩;go_wp2_with fail;go_ret2;rw[H.out];exact⟨rfl,hb1⟩
  ·have H:Hid (Crc.Dj l=([],7)):=Hi (by unfold Crc.Dj;rw[Aa h4,Aa hse]);have hb:(Crc.Du (l.take (l.length -4)) == l)=false:=(by simp[hse]);clear hse;go_enter func193,ntmps193;go_wp2_with fail;refine(Uf (l.take (l.length -4)) _ (by rw[Aw];omega)).mono ?_;rintro e w1⟨rfl,hb1⟩;go_wp2_with fail;go_ret2;rw[H.out];exact⟨rfl,hb1⟩
theorem YX(v n:Nat)(w:World)(hv:v < 18446744073709551616)(hn:n≤8):
  Calls prog 203 #[.int .u64 v,.int .i64 n] w fun e w'=>e=.returned (.string (bs (Crc.le n v)))∧Bw w w':=by
 go_enter func203,ntmps203;go_wp2_with fail
 go_loopw [0,5,6] (fun q s i wr=>∃ k:Nat,k≤n∧i=.int .i64 k∧q=.int .u64 (v / 256 ^ k:Nat)∧s=.string (bs (Crc.le k v))∧Bw w wr) (fun _ _ i _=>n -(intOf i).toNat)
 case atStart=>exact⟨0,by omega,rfl,by simp,rfl,Ad _ _⟩
 case round=>
  obtain⟨k,hk,rfl,rfl,rfl,hb⟩:=hrel;by_cases hlt:k < n
  ·have hq:v / 256 ^ k < 18446744073709551616:=Nat.lt_of_le_of_lt (Nat.div_le_self _ _) hv;have HS:=Hi (sH k v);have HD:Hid (v / 256 ^ (k+1)=v / 256 ^ k / 256):=Hi (by rw[Nat.pow_succ,Nat.div_div_eq_div_mul]);generalize v / 256 ^ k=q at*;have hcv:=fJ prog wr 232 5 9 5 underlying232 underlying5 underlying9 ((q:Int) % 256) (UInt8.ofNat q) (by rw[Qo];norm_cast);go_wp2_with fail;go_roundw
   case rel=>exact⟨k+1,by omega,by go_num,by rw[HD.out];rfl,by rw[HS.out],(hb.alloc hb.size _)⟩
   case measure=>simp[intOf];omega
  ·obtain rfl:k=n:=(by omega);go_wp2_with fail;go_ret;exact⟨rfl,hb⟩
theorem aft(l:List UInt8)(w:World)(hs:l.length≤maxLen):
  Calls prog 206 #[.string (bs l)] w fun e w'=>e=.returned (.int .u32 (Crc.sum l:Nat))∧w=w':=by
 unfold maxLen at hs;go_enter func206,ntmps206;go_wp2_with fail
 go_loop [3,4] (fun c i=>∃ k:Nat,k≤l.length∧i=.int .i64 k∧c=.int .u32 (Crc.reg 4294967295 (l.take k):Nat)) (fun _ i=>l.length -(intOf i).toNat)
 case atStart=>exact⟨0,by omega,rfl,rfl⟩
 case round=>
  obtain⟨k,hk,rfl,rfl⟩:=hrel;have RJ:=Crc.sw (c:=4294967295) (by decide) (l.take k);by_cases hlt:k < l.length
  ·have HS:Hid (Crc.reg 4294967295 (l.take (k+1))=Crc.steps 8 (Crc.reg 4294967295 (l.take k) ^^^ l[k].toNat)):=Hi (by rw[si l k hlt,Crc.su]);generalize Crc.reg 4294967295 (l.take k)=r at*;have hx:bits .xor .u32 (r:Int) ((l[k].toNat:Int) % 4294967296)=((r ^^^ l[k].toNat:Nat):Int):=by
    rw[←W9 r l[k].toNat RJ (Crc.fK _),Int.emod_eq_of_lt (by omega) (by have:=l[k].toNat_lt;omega)]
   have hxl:r ^^^ l[k].toNat < 2 ^ 32:=Nat.xor_lt_two_pow RJ (Crc.fK _);go_wp2_with fail;generalize r ^^^ l[k].toNat=q at*;clear hx
   go_loop [3,5,6] (fun c j _=>∃ i:Nat,i≤8∧j=.int .i64 i∧c=.int .u32 (Crc.steps i q:Nat)) (fun _ j _=>8 -(intOf j).toNat)
   case atStart=>exact⟨0,by omega,rfl,rfl⟩
   case round=>
    obtain⟨i,hi,rfl,rfl⟩:=hrel;by_cases afm:i < 8
    ·have hb:Crc.steps i q < 2 ^ 32:=Crc.YU hxl i;have H2:=Hi (W9 (Crc.steps i q / 2) 3988292384 (by omega) (by decide));have h3:=Crc.sj i q;unfold Crc.step at h3;have H3:=Hi h3;clear h3;generalize Crc.steps i q=c at*;by_cases ht:c % 2=1
     ·have hc:((c:Int) % 2 == 1)=true:=(by rw[beq_iff_eq];omega);have HT:=Hi ht;clear ht;go_wp2_with fail
      go_round
      case rel=>exact⟨i+1,by omega,by go_num,by rw[H3.out,Ac HT.out];exact congrArg _ H2.out⟩
      case measure=>simp[intOf];omega
     ·have hc:((c:Int) % 2 == 1)=false:=(by rw[Fq];omega);have HT:=Hi ht;clear ht;go_wp2_with fail
      go_round
      case rel=>exact⟨i+1,by omega,by go_num,by rw[H3.out,Aa HT.out];rfl⟩
      case measure=>simp[intOf];omega
    ·obtain rfl:i=8:=(by omega);go_wp2_with fail
     go_round
     case rel=>exact⟨k+1,by omega,by go_num,by rw[HS.out]⟩
     case measure=>simp[intOf];omega
  ·obtain rfl:k=l.length:=(by omega);go_wp2_with fail;go_ret;rw[Ck] at RJ;exact⟨rZ (fP _ RJ),rfl⟩
theorem YY(l:List UInt8)(w:World)(hs:l.length≤1099511627776):
  Calls prog 157 #[.string (bs l)] w fun e w'=>e=.returned (.string (bs (Crc.Du l)))∧Bw w w':=by
 have hlt:=Crc.sum_lt l;go_enter func157,ntmps157;go_wp2_with fail;refine(aft l _ (by unfold maxLen;omega)).mono ?_;rintro e w1⟨rfl,rfl⟩;have H:=Hi hlt;go_wp2_with fail;refine(YX (Crc.sum l) 4 _ (Nat.lt_trans H (by decide)) (by decide)).mono ?_;rintro e w2⟨rfl,hb2⟩;go_wp2_with fail;go_ret;exact⟨rfl,hb2⟩
theorem sK(l:List UInt8)(w:World)(hs:l.length≤1099511627776):
  Calls prog 201 #[.string (bs l)] w fun e w'=>e=.returned (.tuple #[.string (bs (Crc.Dj l).1),.int .i64 (Crc.Dj l).2])∧Bw w w':=by
 by_cases h4:l.length < 4
 ·have H:Hid (Crc.Dj l=([],6)):=Hi (Ac h4);go_enter func201,ntmps201;go_wp2_with fail;go_ret2;rw[H.out];exact⟨rfl,Ad _ _⟩
 ·by_cases hse:Crc.Du (l.take (l.length -4))=l
  ·have H:Hid (Crc.Dj l=(l.take (l.length -4),0)):=Hi (by unfold Crc.Dj;rw[Aa h4,Ac hse]);have hb:(Crc.Du (l.take (l.length -4)) == l)=true:=(by simp[hse]);clear hse;go_enter func201,ntmps201;go_wp2_with fail;refine(YY (l.take (l.length -4)) _ (by rw[Aw];omega)).mono ?_;rintro e w1⟨rfl,hb1⟩;go_wp2_with fail;go_ret2;rw[H.out];exact⟨rfl,hb1⟩
  ·have H:Hid (Crc.Dj l=([],7)):=Hi (by unfold Crc.Dj;rw[Aa h4,Aa hse]);have hb:(Crc.Du (l.take (l.length -4)) == l)=false:=(by simp[hse]);clear hse;go_enter func201,ntmps201;go_wp2_with fail;refine(YY (l.take (l.length -4)) _ (by rw[Aw];omega)).mono ?_;rintro e w1⟨rfl,hb1⟩;go_wp2_with fail;go_ret2;rw[H.out];exact⟨rfl,hb1⟩
end
section
def IM:List UInt8:=List.replicate 64 0
structure Dsk where
 n:Nat
 base:Nat→List UInt8
 loose:List (Nat×List UInt8)
 left:Int
 down:Bool
namespace Dsk
def new(n:Nat):Dsk:=⟨n,fun _=>IM,[],-1,false⟩
def lay(f:Nat→List UInt8):List (Nat×List UInt8)→Nat→List UInt8
 |[]=>f
 |p :: l=>lay (fun k=>if k=p.1 then p.2 else f k) l
def now(D:Dsk):Nat→List UInt8:=lay D.base D.loose
def inside(D:Dsk)(at_ n:Int):Bool:=decide (0≤at_) && decide (0≤n) && decide (at_≤D.n) && decide (n≤D.n -at_)
def text(f:Nat→List UInt8)(k:Nat):Nat→List UInt8
 |0=>[]
 |n+1=>f k++text f (k+1) n
def up(D:Dsk):Int:=if D.down then 40 else 0
def writes(D:Dsk)(at_:Nat)(s:List UInt8):Nat→Dsk×Int
 |0=>(D,0)
 |n+1=>if D.left=0 then({ D with down:=true },40)
  else writes { D with loose:=D.loose++[(at_,s.take 64)],left:=max (D.left -1) (-1) } (at_+1) (s.drop 64) n
def write(D:Dsk)(at_:Int)(s:List UInt8):Dsk×Int:=
 if D.down then(D,40) else if s.length % 64=0∧D.inside at_ (s.length / 64:Nat)=true then writes D at_.toNat s (s.length / 64) else(D,2)
def flush(D:Dsk):Dsk×Int:=if D.down then(D,40) else({ D with base:=lay D.base D.loose,loose:=[] },0)
def keptFrom(keep:List UInt8):Nat→List (Nat×List UInt8)→List (Nat×List UInt8)
 |_,[]=>[]
 |i,p :: l=>(if keep≠[]∧(keep.getD (i % keep.length) 0).toNat % 2=1 then[p] else[])++keptFrom keep (i+1) l
def kept(D:Dsk)(keep:List UInt8):List (Nat×List UInt8):=keptFrom keep 0 D.loose
def Jd(D:Dsk)(keep:List UInt8):Dsk:={ D with base:=lay D.base (D.kept keep),loose:=[],left:= -1,down:=false }
structure Bf(D:Dsk):Prop where
 n1:1≤D.n
 n2:D.n≤16384
 base:∀ k,k < D.n→(D.base k).length=64
 loose:∀ p∈D.loose,p.1 < D.n∧p.2.length=64
 left: -1≤D.left∧D.left≤9223372036854775807
theorem afu(f:Nat→List UInt8)(a b:List (Nat×List UInt8)):lay f (a++b)=lay (lay f a) b:=by
 induction a generalizing f with
 |nil=>rfl
 |cons p a ih=>exact ih _
theorem sM(f:Nat→List UInt8)(a:List (Nat×List UInt8))(p:Nat×List UInt8):lay f (a++[p])=fun k=>if k=p.1 then p.2 else lay f a k:=by
 rw[afu];rfl
theorem Wh{N:Nat}{f:Nat→List UInt8}(hf:∀ k,k < N→(f k).length=64){l:List (Nat×List UInt8)}(hl:∀ p∈l,p.1 < N∧p.2.length=64):∀ k,k < N→(lay f l k).length=64:=by
 induction l generalizing f with
 |nil=>exact hf
 |cons p l ih=>
  refine ih (fun k hk=>?_) (fun q hq=>hl q (Dh _ hq));split
  ·exact(hl p Cc).2
  ·exact hf k hk
theorem Wi{N:Nat}{f:Nat→List UInt8}(hf:∀ k,k < N→(f k).length=64)(k n:Nat)(h:k+n≤N):(text f k n).length=64*n:=by
 induction n generalizing k with
 |zero=>rfl
 |succ n ih=>simp only[text,Aj];rw[hf k (by omega),ih (k+1) (by omega)];omega
theorem sN(f:Nat→List UInt8)(k n:Nat):text f k (n+1)=text f k n++f (k+n):=by
 induction n generalizing k with
 |zero=>simp[text]
 |succ n ih=>rw[text,ih (k+1),text,Cw,Nat.add_right_comm];rfl
theorem sO{keep:List UInt8}(i:Nat)(l:List (Nat×List UInt8)):∀ p∈keptFrom keep i l,p∈l:=by
 induction l generalizing i with
 |nil=>intro p hp;simp[keptFrom] at hp
 |cons q l ih=>
  intro p hp;simp only[keptFrom,Ee] at hp;rcases hp with hp|hp
  ·split at hp
   ·simp at hp;subst hp;exact Cc
   ·simp at hp
  ·exact Dh _ (ih _ p hp)
theorem Bf.new{n:Nat}(h1:1≤n)(h2:n≤16384):Bf (Dsk.new n):=⟨h1,h2,fun _ _=>by simp[Dsk.new,IM],fun p hp=>by simp[Dsk.new] at hp,by simp[Dsk.new]⟩
theorem Bf.now{D:Dsk}(h:Bf D):∀ k,k < D.n→(D.now k).length=64:=Wh h.base h.loose
theorem Bf.flush{D:Dsk}(h:Bf D):Bf D.flush.1:=by
 unfold Dsk.flush;split
 ·exact h
 ·exact⟨h.n1,h.n2,Wh h.base h.loose,fun p hp=>by simp at hp,h.left⟩
theorem Bf.Jd{D:Dsk}(h:Bf D)(keep:List UInt8):Bf (D.Jd keep):=
 ⟨h.n1,h.n2,Wh h.base (fun p hp=>h.loose p (sO 0 _ p hp)),fun p hp=>by simp[Dsk.Jd] at hp,by simp[Dsk.Jd]⟩
theorem Bf.writes{D:Dsk}(h:Bf D){at_:Nat}{s:List UInt8}{n:Nat}(hn:at_+n≤D.n)(hs:64*n≤s.length):Bf (Dsk.writes D at_ s n).1:=by
 induction n generalizing D at_ s with
 |zero=>exact h
 |succ n ih=>
  simp only[Dsk.writes];split
  ·exact⟨h.n1,h.n2,h.base,h.loose,h.left⟩
  ·have aAO:=h.left;have hD:Bf { D with loose:=D.loose++[(at_,s.take 64)],left:=max (D.left -1) (-1) }:=by
    refine⟨h.n1,h.n2,h.base,fun p hp=>?_,by show -1≤max (D.left -1) (-1)∧max (D.left -1) (-1)≤9223372036854775807;omega⟩;rcases Ee.1 hp with hp|hp
    ·exact h.loose p hp
    ·simp at hp;subst hp;exact⟨by show at_ < D.n;omega,by show(s.take 64).length=64;rw[Aw];omega⟩
   exact ih hD (by show at_+1+n≤D.n;omega) (by rw[BA];omega)
def upd(f:Nat→List UInt8)(i:Nat)(x:List UInt8):Nat→List UInt8:=fun k=>if k=i then x else f k
theorem Kn{f g:Nat→List UInt8}(k n:Nat)(h:∀ i,k≤i→i < k+n→f i=g i):text f k n=text g k n:=by
 induction n generalizing k with
 |zero=>rfl
 |succ n ih=>
  simp only[text];rw[h k (Ab _) (by omega),ih (k+1) (fun i h1 h2=>h i (by omega) (by omega))]
theorem Qp(f:Nat→List UInt8)(k m n:Nat):text f k (m+n)=text f k m++text f (k+m) n:=by
 induction m generalizing k with
 |zero=>simp[text]
 |succ m ih=>rw[Nat.add_right_comm,text,ih (k+1),text,Cw,show k+1+m=k+(m+1) by omega]
theorem Qq{f:Nat→List UInt8}{k n:Nat}(hf:∀ i,k≤i→i < k+n→(f i).length=64):(text f k n).length=64*n:=by
 induction n generalizing k with
 |zero=>rfl
 |succ n ih=>simp only[text,Aj];rw[hf k (Ab _) (by omega),ih (fun i h1 h2=>hf i (by omega) (by omega))];omega
theorem sP{f:Nat→List UInt8}{k n i:Nat}(hf:∀ j,k≤j→j < k+n→(f j).length=64)(hi:i < n):
  (text f k n).take (64*i)=text f k i∧((text f k n).drop (64*i)).take 64=f (k+i)∧(text f k n).drop (64*i+64)=text f (k+(i+1)) (n -(i+1)):=by
 have e:text f k n=text f k i++(f (k+i)++text f (k+(i+1)) (n -(i+1))):=by
  have h1:=Qp f k (i+1) (n -(i+1));rw[show i+1+(n -(i+1))=n by omega] at h1;rw[h1,sN,Cw]
 have l1:(text f k i).length=64*i:=Qq (fun j h1 h2=>hf j h1 (by omega));have l2:(f (k+i)).length=64:=hf _ (by omega) (by omega);refine⟨?_,?_,?_⟩
 ·rw[e,Gf l1]
 ·rw[e,Jb l1,Gf l2]
 ·rw[e,←Cw,Jb (by rw[Aj,l1,l2])]
theorem sQ{f:Nat→List UInt8}{k n i:Nat}{x:List UInt8}(hf:∀ j,k≤j→j < k+n→(f j).length=64)(hi:i < n)(hx:x.length=64):
  text (upd f (k+i) x) k n=(text f k n).take (64*i)++x++(text f k n).drop (64*i+x.length):=by
 obtain⟨h1,_,h3⟩:=sP hf hi;rw[hx,h1,h3];have hu:∀ j,k≤j→j < k+n→(upd f (k+i) x j).length=64:=fun j a b=>by
  unfold upd;split
  ·exact hx
  ·exact hf j a b
 have h4:=Qp (upd f (k+i) x) k (i+1) (n -(i+1));rw[show i+1+(n -(i+1))=n by omega] at h4;rw[h4,sN];have e1:upd f (k+i) x (k+i)=x:=by simp[upd]
 have e2:text (upd f (k+i) x) k i=text f k i:=Kn _ _ (fun j a b=>by unfold upd;rw[Aa (by omega)]);have e3:text (upd f (k+i) x) (k+(i+1)) (n -(i+1))=text f (k+(i+1)) (n -(i+1)):=Kn _ _ (fun j a b=>by unfold upd;rw[Aa (by omega)]);rw[e1,e2,e3]
theorem sS(k n:Nat):text (fun _=>IM) k n=List.replicate (64*n) 0:=by
 induction n generalizing k with
 |zero=>rfl
 |succ n ih=>
  rw[text,ih,IM,show 64*(n+1)=64+64*n by omega,List.replicate_append_replicate]
def upTo(f:Nat→List UInt8)(k:Nat):Nat→List UInt8:=fun j=>if j < k then f j else IM
theorem afv{f:Nat→List UInt8}{N:Nat}(hf:∀ i,i < N→(f i).length=64)(k:Nat):∀ i,i < N→(upTo f k i).length=64:=fun i hi=>by
 unfold upTo;split
 ·exact hf i hi
 ·simp[IM]
theorem afw(f:Nat→List UInt8)(a n:Nat):text (upTo f a) a n=List.replicate (64*n) 0:=by
 rw[←sS a n];exact Kn a n (fun i h1 h2=>by unfold upTo;rw[Aa (by omega)])
theorem afx(f:Nat→List UInt8)(a k n:Nat):text (upTo f (a+(k+1))) a n=text (upd (upTo f (a+k)) (a+k) (f (a+k))) a n:=by
 refine Kn a n (fun i h1 h2=>?_);unfold upd upTo;by_cases e1:i=a+k
 ·rw[Ac e1,e1,Ac (by omega)]
 ·rw[Aa e1];by_cases e2:i < a+k
  ·rw[Ac (by omega),Ac e2]
  ·rw[Aa (by omega),Aa e2]
theorem afy(f:Nat→List UInt8)(a n:Nat):text (upTo f (a+n)) a n=text f a n:=
 Kn a n (fun i h1 h2=>by unfold upTo;rw[Ac (by omega)])
theorem afz(f:Nat→List UInt8)(l:List (Nat×List UInt8))(k:Nat)(h:k < l.length):lay f (l.take (k+1))=upd (lay f (l.take k)) l[k].1 l[k].2:=by
 rw[BS h,sM];rfl
end Dsk
end
end Go.Proofs.YtmbbhdebddbhoaaGreat
