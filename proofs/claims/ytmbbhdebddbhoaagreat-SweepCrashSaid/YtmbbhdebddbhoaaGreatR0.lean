/- Base Crc DiskPlain -/
import Derived.Test.YtmbbhdebddbhoaaGreatChecked
import Derived.WalkKit
import Derived.Deep.WholeRow
import Derived.Lib.Hide
set_option maxHeartbeats 400000
set_option maxRecDepth 100000
set_option linter.all false
namespace Go.Proofs.YtmbbhdebddbhoaaGreat
open Tryz
section
open Go.RowKit
theorem ex{α:Sort _}(a:α):∃ b,a=b:=⟨a,rfl⟩
theorem Hi{p:Prop}(h:p):Hid p:=h
abbrev Bw(w w':World):Prop:=Below w.heap.size w w'
theorem np{α:Type _}:(∀(l:List α)(i:Nat)(a:α),l.toArray.setIfInBounds i a=(l.set i a).toArray)∧(∀(a b:α)(l:List α),(a::l).set 0 b=b::l)∧(∀(a b:α)(n:Nat)(l:List α),(a::l).set (n+1) b=a::l.set n b):=⟨fun _ _ _=>List.setIfInBounds_toArray ..,fun _ _ _=>rfl,fun _ _ _ _=>rfl⟩
theorem cr{w:World}{k i:Nat}{cs:Array Value}{t:TypeId}{fr:Nat×Nat}{v:Value}(h:w.heap[k]?=some (.cells cs t fr))(e:cs[i]?=some v:=by rfl):w.cell? ⟨k,i,none⟩=some v:=(cell_of_row w k i cs t fr h).trans e
theorem Cc:type_of% @And.intro:=@And.intro
theorem VT:type_of% @Array.getElem?_eq_getElem:=@Array.getElem?_eq_getElem
theorem CR:type_of% @Array.getElem?_eq_some_iff:=@Array.getElem?_eq_some_iff
theorem Dn:type_of% @Array.getElem?_toList:=@Array.getElem?_toList
theorem LX:type_of% @Array.replicate_succ:=@Array.replicate_succ
theorem LY:type_of% @Array.replicate_zero:=@Array.replicate_zero
theorem Af:type_of% @Below.refl:=@Below.refl
theorem Ei:type_of% @IntWalk.i64_in:=@IntWalk.i64_in
theorem Nz:type_of% @List.all_eq_true:=@List.all_eq_true
theorem Dp:type_of% @List.append_assoc:=@List.append_assoc
theorem EH:type_of% @List.append_nil:=@List.append_nil
theorem LZ:type_of% @List.append_toArray:=@List.append_toArray
theorem GI:type_of% @List.cons_append:=@List.cons_append
theorem Qz:type_of% @List.drop_eq_getElem_cons:=@List.drop_eq_getElem_cons
theorem M0:type_of% @List.drop_left':=@List.drop_left'
theorem Ro:type_of% @List.filter_append:=@List.filter_append
theorem QA:type_of% @List.filter_cons_of_neg:=@List.filter_cons_of_neg
theorem Uv:type_of% @List.filter_cons_of_pos:=@List.filter_cons_of_pos
theorem NA:type_of% @List.flatMap_append:=@List.flatMap_append
theorem GY:type_of% @List.getD_eq_getElem?_getD:=@List.getD_eq_getElem?_getD
theorem Cn:type_of% @List.getElem?_eq_getElem:=@List.getElem?_eq_getElem
theorem Uw:type_of% @List.getElem?_eq_some_iff:=@List.getElem?_eq_some_iff
theorem IX:type_of% @List.getElem?_map:=@List.getElem?_map
theorem Rp:type_of% @List.getElem_append_left:=@List.getElem_append_left
theorem Ux:type_of% @List.getElem_append_right:=@List.getElem_append_right
theorem Ci:type_of% @List.getElem_mem:=@List.getElem_mem
theorem Au:type_of% @List.length_append:=@List.length_append
theorem Br:type_of% @List.length_cons:=@List.length_cons
theorem Ce:type_of% @List.length_drop:=@List.length_drop
theorem Ld:type_of% @List.length_eq_zero_iff:=@List.length_eq_zero_iff
theorem NB:type_of% @List.length_filter_le:=@List.length_filter_le
theorem Cf:type_of% @List.length_map:=@List.length_map
theorem Ig:type_of% @List.length_nil:=@List.length_nil
theorem Kq:type_of% @List.length_singleton:=@List.length_singleton
theorem AL:type_of% @List.length_take:=@List.length_take
theorem CF:type_of% @List.map_append:=@List.map_append
theorem QB:type_of% @List.map_congr_left:=@List.map_congr_left
theorem BL:type_of% @List.map_cons:=@List.map_cons
theorem Fp:type_of% @List.mem_append:=@List.mem_append
theorem Bt:type_of% @List.mem_cons:=@List.mem_cons
theorem DT:type_of% @List.mem_cons_of_mem:=@List.mem_cons_of_mem
theorem Dg:type_of% @List.mem_cons_self:=@List.mem_cons_self
theorem Et:type_of% @List.mem_filter:=@List.mem_filter
theorem MM:type_of% @List.mem_flatMap:=@List.mem_flatMap
theorem Bz:type_of% @List.mem_map:=@List.mem_map
theorem Gm:type_of% @List.mem_map_of_mem:=@List.mem_map_of_mem
theorem EX:type_of% @List.mem_singleton:=@List.mem_singleton
theorem Eu:type_of% @List.nil_append:=@List.nil_append
theorem JF:type_of% @List.nodup_cons:=@List.nodup_cons
theorem Iw:type_of% @List.pairwise_cons:=@List.pairwise_cons
theorem Tf:type_of% @List.pairwise_singleton:=@List.pairwise_singleton
theorem M3:type_of% @List.push_toArray:=@List.push_toArray
theorem JG:type_of% @List.size_toArray:=@List.size_toArray
theorem JH:type_of% @List.sum_append:=@List.sum_append
theorem Dq:type_of% @List.sum_cons:=@List.sum_cons
theorem M4:type_of% @List.take_append_drop:=@List.take_append_drop
theorem Iz:type_of% @List.take_left':=@List.take_left'
theorem CY:type_of% @List.take_length:=@List.take_length
theorem Gn:type_of% @List.take_of_length_le:=@List.take_of_length_le
theorem Cw:type_of% @List.take_succ_eq_append_getElem:=@List.take_succ_eq_append_getElem
theorem GZ:type_of% @List.take_zero:=@List.take_zero
theorem Ac:type_of% @Nat.le_refl:=@Nat.le_refl
theorem Ap:type_of% @Nat.le_trans:=@Nat.le_trans
theorem DK:type_of% @Nat.lt_of_lt_of_le:=@Nat.lt_of_lt_of_le
theorem H8:type_of% @Nat.min_eq_left:=@Nat.min_eq_left
theorem NC:type_of% @Nat.mul_le_mul_right:=@Nat.mul_le_mul_right
theorem GJ:type_of% @Nat.zero_add:=@Nat.zero_add
theorem AB:type_of% @Nat.zero_le:=@Nat.zero_le
theorem Om:type_of% @Oper.semAt_some:=@Oper.semAt_some
theorem Cj:type_of% @Option.bind_some:=@Option.bind_some
theorem MN:type_of% @Option.isSome_iff_exists:=@Option.isSome_iff_exists
theorem Tg:type_of% @Option.map_eq_some_iff:=@Option.map_eq_some_iff
theorem Ej:type_of% @Option.map_some:=@Option.map_some
theorem G7:type_of% @Option.some.inj:=@Option.some.inj
theorem BX:type_of% @Option.some.injEq:=@Option.some.injEq
theorem M5:type_of% @Prod.mk.injEq:=@Prod.mk.injEq
theorem EI:type_of% @World.ownsRow_nil:=@World.ownsRow_nil
theorem Aq:type_of% @World.size_alloc:=@World.size_alloc
theorem H9:type_of% @beq_eq_false_iff_ne:=@beq_eq_false_iff_ne
theorem BS:type_of% @block_lt_of_cell:=@block_lt_of_cell
theorem El:type_of% @bodyPost_ret:=@bodyPost_ret
theorem Di:type_of% @callsIn_wide:=@callsIn_wide
theorem BA:type_of% @cell_of_row:=@cell_of_row
theorem Pp:type_of% @decide_eq_false:=@decide_eq_false
theorem Kr:type_of% @decide_eq_true:=@decide_eq_true
theorem CJ:type_of% @frozen_of_row:=@frozen_of_row
theorem AJ:type_of% @heap_alloc_new:=@heap_alloc_new
theorem BU:type_of% @heap_setCell_same:=@heap_setCell_same
theorem Aa:type_of% @if_neg:=@if_neg
theorem Ab:type_of% @if_pos:=@if_pos
theorem Du:type_of% @info_parts:=@info_parts
theorem QC:type_of% @of_decide_eq_true:=@of_decide_eq_true
theorem Gp:type_of% @run_underlying:=@run_underlying
end
section
open Go.RowKit
def bs(l:List UInt8):ByteArray:=⟨l.toArray⟩
@[simp] theorem afk (l:List UInt8):(bs l).size=l.length:=rfl
@[simp] theorem aq9 (l:List UInt8):(bs l).data=l.toArray:=rfl
@[simp] theorem aB2 (l k:List UInt8):bs l++bs k=bs (l++k):=by
 apply ByteArray.ext;simp[ByteArray.data_append]
theorem aqb{l:List UInt8}{i:Nat}(h:i < (bs l).size):i < l.length:=h
@[simp] theorem aB4 (l:List UInt8) (i:Nat) (h:i < (bs l).size):(bs l)[i]=l[i]'(aqb h):=rfl
@[simp] theorem aB3 (l:List UInt8) (a b:Nat):(bs l).extract a b=bs ((l.take b).drop a):=by
 apply ByteArray.ext;simp[ByteArray.data_extract];apply List.ext_getElem?;intro i;simp[List.getElem?_take,List.getElem?_drop];by_cases h:i < b -a
 ·simp[h,show a+i < b by omega]
 ·simp[h,show ¬ a+i < b by omega]
@[simp] theorem aB5 (l:List UInt8):(bs l).toList=l:=ByteArray.toList_mk l
theorem am7{k:IntKind}{a b:Int}(h:a=b):Ending.returned (.int k a)=.returned (.int k b):=by rw[h]
theorem an8(l:List UInt8)(k:Nat)(h:k < l.length):l.take (k+1)=l.take k++[l[k]]:=Cw h
@[irreducible] def CX (k:List UInt8):Array Value:=(k.map fun b=>Value.int .u8 (b.toNat:Int)).toArray
@[simp] theorem lM (k:List UInt8):(CX k).size=k.length:=by unfold CX;simp
theorem eH(k:List UInt8)(i:Nat)(h:i < k.length):(CX k)[i]?=some (.int .u8 (k[i].toNat:Int)):=by
 unfold CX;rw[List.getElem?_toArray,IX,Cn h];rfl
theorem azG(k:List UInt8)(i:Nat)(b:UInt8):(CX k).setIfInBounds i (.int .u8 (b.toNat:Int))=CX (k.set i b):=by
 unfold CX;rw[List.map_set,List.setIfInBounds_toArray]
theorem adh(k:List UInt8):(CX k).all (·.oneCell')=true:=by
 unfold CX;rw[Array.all_eq_true];intro i hi;simp at hi ⊢;rfl
theorem XO(n:Nat):(UInt8.ofNat n).toNat=n % 256:=rfl
theorem ZK(P:Program)(w:World)(src e dst:TypeId)(hs:P.underlying src=some (.slice e))(he:P.underlying e=some (.int .u8))(hd:P.underlying dst=some .string)
  (b off len cap:Nat)(k:List UInt8)(hlen:k.length=len)(FE:∀ i,(h:i < k.length)→w.cell? ⟨b,off+i,none⟩=some (.int .u8 (k[i].toNat:Int))):
  (convert src dst (.slice (some ⟨b,off,none⟩) len cap)).run P w=.ok (.string (bs k)) w:=by
 have h:=run_convert_bytes_arg (P:=P) w src e hs he b off len cap (k.map fun x=>(x.toNat:Int)) (by simpa using hlen) (fun i hi=>by
  rw[FE i (by omega)];simp[GY,Cn (show i < k.length by omega)]) dst hd
 rw[h]
 congr 2
 apply ByteArray.ext;apply Array.ext';rw[strOfNums_data];simp[bs,Function.comp_def]
theorem ayu(P:Program)(w:World)(t e:TypeId)(N n b:Nat)(hu:P.underlying t=some (.array N e))(hs:(P.info? e).map (·.size)=some 1)(hn:n≤N):
  (Instr.sliceAt t (.pointer (some ⟨b,0,none⟩)) none (some (.int .i64 (n:Int))) none).run P w=.ok (.slice (some ⟨b,0,none⟩) n N) w:=by
 cases hq:P.info? e with
 |none=>simp[hq] at hs
 |some i=>
  simp[Instr.sliceAt,Instr.sureAddr,Gp hu,Instr.sliceBounds,run_sliceBound,sizeOf,typeInfo,hq,go_sem,hn]
theorem ayv(P:Program)(w:World)(t e:TypeId)(N b:Nat)(hu:P.underlying t=some (.array N e))(hs:(P.info? e).map (·.size)=some 1):
  (Instr.sliceAt t (.pointer (some ⟨b,0,none⟩)) none none none).run P w=.ok (.slice (some ⟨b,0,none⟩) N N) w:=by
 cases hq:P.info? e with
 |none=>simp[hq] at hs
 |some i=>
  simp[Instr.sliceAt,Instr.sureAddr,Gp hu,Instr.sliceBounds,sizeOf,typeInfo,hq,go_sem]
theorem DF(w:World)(c:Array Value)(T:TypeId)(i:Nat):(w.alloc (.cells c T)).cell? ⟨w.heap.size,i,none⟩=c[i]? :=
 BA _ _ i c T (0,0) (heap_alloc_last w _)
theorem acP(P:Program)(w:World)(src e dst T:TypeId)(hs:P.underlying src=some (.slice e))(he:P.underlying e=some (.int .u8))(hd:P.underlying dst=some .string)
  (x:Int)(b:UInt8)(hx:x=(b.toNat:Int)):
  (convert src dst (.slice (some ⟨w.heap.size,0,none⟩) 1 1)).run P (w.alloc (.cells #[.int .u8 x] T))=.ok (.string (bs [b])) (w.alloc (.cells #[.int .u8 x] T)):=by
 subst hx;refine ZK P _ src e dst hs he hd _ 0 1 1 [b] rfl (fun i hi=>?_);rw[GJ,DF];obtain rfl:i=0:=by simpa using hi
 rfl
end
namespace Crc
def step(c:Nat):Nat:=if c % 2=1 then(c / 2) ^^^ 3988292384 else c / 2
def steps:Nat→Nat→Nat
 |0,c=>c
 |n+1,c=>steps n (step c)
theorem an0(n c:Nat):steps (n+1) c=step (steps n c):=by
 induction n generalizing c with
 |zero=>rfl
 |succ n ih=>rw[steps,ih (step c)];rfl
theorem az3{c:Nat}(h:c < 2 ^ 32):step c < 2 ^ 32:=by
 unfold step;have h2:c / 2 < 2 ^ 32:=by omega
 split
 ·exact Nat.xor_lt_two_pow h2 (by decide)
 ·exact h2
theorem um{c:Nat}(h:c < 2 ^ 32)(n:Nat):steps n c < 2 ^ 32:=by
 induction n generalizing c with
 |zero=>exact h
 |succ n ih=>exact ih (az3 h)
theorem aAK(a b:Nat):(a ^^^ b) / 2=(a / 2) ^^^ (b / 2):=by
 have h:=Nat.xor_div_two_pow (a:=a) (b:=b) (n:=1);simpa using h
theorem aAL(a b:Nat):(a ^^^ b) % 2=((a % 2) ^^^ (b % 2)):=by
 have h:=Nat.xor_mod_two_pow (a:=a) (b:=b) (n:=1);simpa using h
theorem az4(a b:Nat):step (a ^^^ b)=step a ^^^ step b:=by
 unfold step;rw[aAL,aAK];rcases Nat.mod_two_eq_zero_or_one a with ha|ha<;>rcases Nat.mod_two_eq_zero_or_one b with hb|hb<;>simp only[ha,hb]
 ·simp
 ·simp[Nat.xor_assoc]
 ·simp[Nat.xor_assoc,Nat.xor_comm 3988292384]
 ·have e:(a / 2 ^^^ 3988292384) ^^^ (b / 2 ^^^ 3988292384)=(a / 2 ^^^ b / 2) ^^^ (3988292384 ^^^ 3988292384):=by
   rw[Nat.xor_assoc,Nat.xor_assoc,←Nat.xor_assoc 3988292384,Nat.xor_comm 3988292384 (b / 2),Nat.xor_assoc (b / 2)]
  simp[e]
theorem az6(n a b:Nat):steps n (a ^^^ b)=steps n a ^^^ steps n b:=by
 induction n generalizing a b with
 |zero=>rfl
 |succ n ih=>simp only[steps];rw[az4,ih]
theorem az2(h:Nat):step (2*h)=h:=by
 unfold step;rw[Aa (by omega)];omega
theorem az5(n h:Nat):steps n (2 ^ n*h)=h:=by
 induction n generalizing h with
 |zero=>simp[steps]
 |succ n ih=>
  simp only[steps];rw[Nat.pow_succ,Nat.mul_comm (2 ^ n) 2,Nat.mul_assoc,az2,ih]
theorem avr(h l:Nat)(hl:l < 256):256*h+l=(256*h) ^^^ l:=by
 have e:=Nat.two_pow_add_eq_or_of_lt (i:=8) (b:=l) (by simpa using hl) h;have e2:2 ^ 8*h ^^^ l=2 ^ 8*h ||| l:=by
  apply Nat.eq_of_testBit_eq;intro i;simp only[Nat.testBit_xor,Nat.testBit_or,Nat.testBit_two_pow_mul];by_cases hi:i < 8
  ·simp[show ¬ 8≤i by omega]
  ·have:l.testBit i=false:=Nat.testBit_lt_two_pow (DK hl (by
    have:=Nat.pow_le_pow_right (n:=2) (by decide) (show 8≤i by omega);simpa using this))
   simp[this]
 have e3:(2:Nat) ^ 8=256:=by decide
 rw[e3] at e e2;rw[e,e2]
def tab(i:Nat):Nat:=steps 8 i
theorem aqg(c b:Nat):(c / 256) ^^^ tab ((c % 256) ^^^ b)=steps 8 (c ^^^ b):=by
 have hc:c=(256*(c / 256)) ^^^ (c % 256):=by
  rw[←avr _ _ (Nat.mod_lt _ (by decide))];omega
 have h1:steps 8 (c ^^^ b)=steps 8 (256*(c / 256)) ^^^ steps 8 ((c % 256) ^^^ b):=by
  rw[←az6,←Nat.xor_assoc,←hc]
 rw[h1];have h2:=az5 8 (c / 256);have e3:(2:Nat) ^ 8=256:=by decide
 rw[e3] at h2;rw[h2];rfl
def reg(c:Nat)(l:List UInt8):Nat:=l.foldl (fun c b=>steps 8 (c ^^^ b.toNat)) c
theorem am5(c:Nat)(l:List UInt8)(b:UInt8):reg c (l++[b])=steps 8 (reg c l ^^^ b.toNat):=by simp[reg]
theorem yz(b:UInt8):b.toNat < 2 ^ 32:=Nat.lt_trans b.toNat_lt (by decide)
theorem am4{c:Nat}(h:c < 2 ^ 32)(l:List UInt8):reg c l < 2 ^ 32:=by
 induction l generalizing c with
 |nil=>exact h
 |cons b l ih=>exact ih (um (Nat.xor_lt_two_pow h (yz b)) 8)
def SY(c:Nat):Nat:=4294967295 -c
theorem ald(c:Nat):SY c < 2 ^ 32:=by unfold SY;omega
def more(c:Nat)(l:List UInt8):Nat:=SY (reg (SY c) l)
def sum(l:List UInt8):Nat:=more 0 l
theorem sum_lt(l:List UInt8):sum l < 2 ^ 32:=ald _
def val:List UInt8→Nat
 |[]=>0
 |b :: l=>b.toNat+256*val l
theorem val_append(l k:List UInt8):val (l++k)=val l+256 ^ l.length*val k:=by
 induction l with
 |nil=>simp[val]
 |cons b l ih=>simp only[GI,val,ih,Br,Nat.pow_succ];rw[Nat.mul_add,←Nat.mul_assoc,Nat.mul_comm 256 (256 ^ l.length)];omega
theorem Ji(l:List UInt8):val l < 256 ^ l.length:=by
 induction l with
 |nil=>simp[val]
 |cons b l ih=>
  have:=b.toNat_lt;simp only[val,Br,Nat.pow_succ];omega
def le:Nat→Nat→List UInt8
 |0,_=>[]
 |n+1,v=>UInt8.ofNat v :: le n (v / 256)
@[simp] theorem BK (n v:Nat):(le n v).length=n:=by
 induction n generalizing v with
 |zero=>rfl
 |succ n ih=>simp[le,ih]
theorem uL(n v:Nat):val (le n v)=v % 256 ^ n:=by
 induction n generalizing v with
 |zero=>simp[le,val];omega
 |succ n ih=>
  simp only[le,val,ih];rw[Nat.pow_succ,Nat.mul_comm (256 ^ n) 256,Nat.mod_mul];rfl
theorem val_inj:∀ {l k:List UInt8},l.length=k.length→val l=val k→l=k
 |[],[],_,_=>rfl
 |a :: l,b :: k,hl,hv=>by
  have ha:=a.toNat_lt;have hb:=b.toNat_lt;simp only[val] at hv;have e1:a.toNat=b.toNat:=by omega
  have e2:val l=val k:=by omega
  rw[UInt8.toNat_inj.1 e1,val_inj (by simpa using hl) e2]
theorem kD(l:List UInt8):le l.length (val l)=l:=
 val_inj (BK _ _) (by rw[uL];exact Nat.mod_eq_of_lt (Ji l))
def EW(l:List UInt8):List UInt8:=l++le 4 (sum l)
theorem Rk(l:List UInt8):(EW l).length=l.length+4:=by simp[EW,BK]
theorem ayE(l:List UInt8):(EW l).take ((EW l).length -4)=l:=by
 rw[Rk,Nat.add_sub_cancel,EW,List.take_left]
def Er(l:List UInt8):List UInt8×Int:=if l.length < 4 then([],6) else if EW (l.take (l.length -4))=l then(l.take (l.length -4),0) else([],7)
theorem acg(l:List UInt8):Er (EW l)=(l,0):=by
 unfold Er;rw[ayE,Ab rfl,Aa (by rw[Rk];omega)]
theorem acf{l:List UInt8}(h:(Er l).2=0):EW (Er l).1=l:=by
 unfold Er at h ⊢;split
 ·rename_i h4;rw[Ab h4] at h;simp at h
 ·rename_i h4
  rw[Aa h4] at h;split
  ·rename_i h5;exact h5
  ·rename_i h5;rw[Aa h5] at h;simp at h
end Crc
section
open Go.RowKit
@[irreducible] def LV (k:Nat):Array Value:=((List.range 256).map fun i=>Value.int .u32 (if i < k then(Crc.tab i:Nat) else 0)).toArray
theorem lG(k i:Nat)(h:i < 256):(LV k)[i]?=some (.int .u32 (if i < k then(Crc.tab i:Nat) else 0)):=by
 unfold LV;rw[List.getElem?_toArray,IX,List.getElem?_range h];simp
theorem ZO(k:Nat):(LV k).size=256:=by unfold LV;simp
theorem azo(k:Nat)(h:k < 256):(LV k).setIfInBounds k (.int .u32 (Crc.tab k:Nat))=LV (k+1):=by
 apply Array.ext_getElem?;intro i;rw[Array.getElem?_setIfInBounds];by_cases hi:i < 256
 ·rw[lG _ _ hi,lG _ _ hi];by_cases e:k=i
  ·subst e;simp[ZO,hi]
  ·rw[Aa e];by_cases h2:i < k
   ·simp[h2,show i < k+1 by omega]
   ·simp[h2,show ¬ i < k+1 by omega]
 ·rw[Aa (by omega),Array.getElem?_eq_none (by rw[ZO];omega),Array.getElem?_eq_none (by rw[ZO];omega)]
theorem an6:Tryz.zeroCells313=LV 0:=by
 unfold LV
 kernel_rfl
theorem azp:(prog.info? 313).map (fun i=>(i.zero,i.size))=some (some (.agg Tryz.zeroCells313),256):=by kernel_rfl
theorem uB(k:Nat):(prog.info? 313).map (·.size)=some (LV k).size:=by rw[ZO];exact(zero_of_info azp).2
theorem an7(k:Nat):(LV k).all (·.oneCell')=true:=by
 rw[Array.all_eq_true];intro i hi;have:=lG k i (by rw[ZO] at hi;exact hi);rw[VT hi] at this;rw[G7 this];rfl
theorem aq4(c:Nat)(h:c < 2 ^ 32):bits .and .u32 (c:Int) 1=((c % 2:Nat):Int):=by
 rw[show(1:Int)=((1:Nat):Int) from rfl,u32_and_nat c 1 h (by decide),Nat.and_one_is_mod]
theorem gX(a b:Nat)(ha:a < 2 ^ 32)(hb:b < 2 ^ 32):bits .xor .u32 (a:Int) (b:Int)=((a ^^^ b:Nat):Int):=u32_xor_nat a b ha hb
theorem azq(w:World):
  Calls prog 249 #[] w fun e w'=>e=.returned (.agg (LV 256))∧Bw w w':=by
 go_enter func249,ntmps249;go_wp2_with fail;rw[an6]
 go_loopw [3] (fun i wr=>∃ k:Nat,k≤256∧i=.int .i64 k∧wr=w.alloc (Obj.cells (LV k) 313)) (fun i _=>256 -(intOf i).toNat)
 case atStart=>exact⟨0,by omega,rfl,rfl⟩
 case round=>
  obtain⟨k,hk,rfl,rfl⟩:=hrel;by_cases hlt:k < 256
  ·have FE:=lG k k hlt;go_wp2_with fail
   go_loop [2,8] (fun c j=>∃ i:Nat,i≤8∧j=.int .i64 i∧c=.int .u32 (Crc.steps i k:Nat)) (fun _ j=>8 -(intOf j).toNat)
   case atStart=>exact⟨0,by omega,rfl,rfl⟩
   case round=>
    obtain⟨i,hi,rfl,rfl⟩:=hrel;by_cases auA:i < 8
    ·have hb:Crc.steps i k < 2 ^ 32:=Crc.um (by omega) i;have h1:=aq4 _ hb;have h2:=gX (Crc.steps i k / 2) 3988292384 (by omega) (by decide);have h3:=Crc.an0 i k;unfold Crc.step at h3;have H1:=Hi h1;have H2:=Hi h2;have H3:=Hi h3;clear h1 h2 h3 FE;go_wp2_with fail
     ·have ht:(bits BinOp.and IntKind.u32 (↑(Crc.steps i k)) 1 == 1)=true:=(by assumption);rw[H1.out] at ht
      go_round
      case rel=>exact⟨i+1,by omega,by go_num,by rw[H3.out,Ab (by simp at ht;omega)];exact congrArg _ H2.out⟩
      case measure=>simp[intOf];omega
     ·have ht:(bits BinOp.and IntKind.u32 (↑(Crc.steps i k)) 1 == 1)=false:=(by assumption);rw[H1.out] at ht
      go_round
      case rel=>exact⟨i+1,by omega,by go_num,by rw[H3.out,Aa (by simp at ht;omega)];rfl⟩
      case measure=>simp[intOf];omega
    ·obtain rfl:i=8:=(by omega);have Dt:=azo k hlt;unfold Crc.tab at Dt;go_wp2_with fail;go_roundw
     case rel=>exact⟨k+1,by omega,by go_num,rfl⟩
     case measure=>simp[intOf];omega
  ·obtain rfl:k=256:=(by omega);go_wp2_with (first|(refine wpList_load_row rfl 313 _ rfl w.heap.size rfl 313 (LV 256) (0,0) _ (AJ w _) underlying313 rfl (uB 256) ?_)|(refine wpList_store_row rfl 313 _ _ rfl w.heap.size (LV 256) rfl rfl 313 (LV 256) (AJ w _) (uB 256) rfl (an7 256) ?_;rw[World.setRow_alloc_new]));exact El (v:=.agg (LV 256)) (results_cell_row rfl _ _ w.heap.size 313 _ (0,0) _ rfl (AJ w _) underlying313 rfl (uB 256)) rfl ⟨rfl,(Af _ _).alloc (Ac _) _⟩
end
section
open Go.RowKit
theorem ace(c:Nat)(h:c < 2 ^ 32):bits .xor .u32 IntKind.u32.max (c:Int)=((Crc.SY c:Nat):Int):=by
 have e:IntKind.u32.max=((4294967295:Nat):Int):=by decide
 rw[e,gX _ _ (by decide) h]
 congr 1
 unfold Crc.SY;apply Nat.eq_of_testBit_eq;intro i;have h1:=Nat.testBit_two_pow_sub_succ (x:=c) (n:=32) h i;rw[show 4294967295 -c=2 ^ 32 -(c+1) by omega,h1,Nat.testBit_xor,show(4294967295:Nat)=2 ^ 32 -1 by decide,Nat.testBit_two_pow_sub_one];by_cases hi:i < 32
 ·simp[hi]
 ·simp[hi];exact Nat.testBit_lt_two_pow (DK h (Nat.pow_le_pow_right (by decide) (by omega)))
theorem aAO:Tryz.zeroCells313.size=(LV 256).size:=by rw[an6,ZO,ZO]
theorem aws(c:Nat)(l:List UInt8)(w:World)(hc:c < 2 ^ 32)(hs:l.length≤maxLen):
  Calls prog 232 #[.int .u32 c,.string (bs l)] w fun e w'=>e=.returned (.int .u32 (Crc.more c l:Nat))∧Bw w w':=by
 unfold maxLen at hs;go_enter func232,ntmps232;go_wp2_with fail;refine(azq _).mono ?_;rintro e w1⟨rfl,hb⟩;go_wp2_with (first|(refine wpList_store_row rfl 313 _ _ rfl w1.heap.size (LV 256) rfl rfl 313 _ (AJ w1 _) (uB 256) aAO (an7 256) ?_;rw[World.setRow_alloc_new]))
 go_loop [0,12] (fun r i=>∃ k:Nat,k≤l.length∧i=.int .i64 k∧r=.int .u32 (Crc.reg (Crc.SY c) (l.take k):Nat)) (fun _ i=>l.length -(intOf i).toNat)
 case atStart=>exact⟨0,by omega,rfl,by rw[ace c hc];rfl⟩
 case round=>
  obtain⟨k,hk,rfl,rfl⟩:=hrel;have Zg:=Crc.am4 (Crc.ald c) (l.take k);by_cases hlt:k < l.length
  ·have hstep:Crc.reg (Crc.SY c) (l.take (k+1))=(Crc.reg (Crc.SY c) (l.take k) / 256) ^^^ Crc.tab ((Crc.reg (Crc.SY c) (l.take k) % 256) ^^^ l[k].toNat):=by
    rw[Crc.aqg,an8 l k hlt,Crc.am5]
   have HS:=Hi hstep;clear hstep;generalize Crc.reg (Crc.SY c) (l.take k)=r at*;have atH:=l[k].toNat_lt;have hx:bits .xor .u8 ((r:Int) % 256) (l[k].toNat:Int)=((r % 256 ^^^ l[k].toNat:Nat):Int):=by
    rw[show(r:Int) % 256=((r % 256:Nat):Int) by omega];exact u8_xor_nat _ _ (Nat.mod_lt _ (by decide)) (by omega)
   have hi:r % 256 ^^^ l[k].toNat < 256:=Nat.xor_lt_two_pow (n:=8) (Nat.mod_lt _ (by decide)) (by simpa using atH);have FE:=lG 256 _ hi;rw[Ab hi] at FE;have ht:Crc.tab (r % 256 ^^^ l[k].toNat) < 2 ^ 32:=Crc.um (by omega) 8;have H2:=Hi (gX (r / 256) (Crc.tab (r % 256 ^^^ l[k].toNat)) (by omega) ht);go_wp2_with fail
   go_round
   case rel=>exact⟨k+1,by omega,by go_num,by rw[HS.out,←H2.out];rfl⟩
   case measure=>simp[intOf];omega
  ·obtain rfl:k=l.length:=(by omega);go_wp2_with fail;go_ret;refine⟨am7 ?_,(hb.alloc hb.size _).mono (Ac _)⟩;rw[CY] at Zg;exact ace _ Zg
end
section
open Go.RowKit
theorem akF(k v:Nat):Crc.le (k+1) v=Crc.le k v++[UInt8.ofNat (v / 256 ^ k)]:=by
 induction k generalizing v with
 |zero=>simp[Crc.le]
 |succ k ih=>
  rw[Crc.le,ih (v / 256)];simp only[Crc.le,GI];rw[Nat.div_div_eq_div_mul,Nat.pow_succ,Nat.mul_comm 256]
def Qq(k v:Nat):List UInt8:=Crc.le k v++List.replicate (8 -k) 0
theorem akE(k v:Nat)(h:k≤8):(Qq k v).length=8:=by simp[Qq,Crc.BK];omega
theorem avZ(k v:Nat)(h:k < 8):(Qq k v).set k (UInt8.ofNat (v / 256 ^ k))=Qq (k+1) v:=by
 unfold Qq;rw[akF,show 8 -k=(8 -(k+1))+1 by omega,List.replicate_succ];rw[List.set_append_right _ _ (by rw[Crc.BK];exact Ac _),Crc.BK,Nat.sub_self];simp
theorem aw0(v n:Nat)(h:n≤8):(Qq 8 v).take n=Crc.le n v:=by
 unfold Qq;have:∀ m v,n≤m→(Crc.le m v).take n=Crc.le n v:=by
  induction n with
  |zero=>intros;simp[Crc.le]
  |succ n ih=>
   intro m v hm;cases m with
   |zero=>omega
   |succ m=>simp only[Crc.le,List.take_succ_cons];rw[ih (by omega) m _ (by omega)]
 simp[this 8 v h]
theorem aAM:(#[Value.int .u8 0,Value.int .u8 0,Value.int .u8 0,Value.int .u8 0,Value.int .u8 0,Value.int .u8 0,Value.int .u8 0,Value.int .u8 0]:Array Value)=CX (Qq 0 0):=by
 unfold CX;rfl
theorem gY(v n:Nat)(w:World)(hn:n≤8):
  Calls prog 159 #[.int .u64 v,.int .i64 n] w fun e w'=>e=.returned (.string (bs (Crc.le n v)))∧Bw w w':=by
 go_enter func159,ntmps159;go_wp2_with fail;rw[aAM]
 go_loopw [7] (fun i wr=>∃ k:Nat,k≤8∧i=.int .i64 k∧wr=w.alloc (Obj.cells (CX (Qq k v)) 274)) (fun i _=>8 -(intOf i).toNat)
 case atStart=>exact⟨0,by omega,rfl,rfl⟩
 case round=>
  obtain⟨k,hk,rfl,rfl⟩:=hrel;by_cases hlt:k < 8
  ·have hs:(CX (Qq k v)).setIfInBounds k (.int .u8 ((v:Int) / 2 ^ (8*k) % 256))=CX (Qq (k+1) v):=by
    rw[←avZ k v hlt,←azG,XO,show(256:Nat)=2 ^ 8 from rfl,←Nat.pow_mul]
    norm_cast
   have hg:=eH (Qq k v) k (by rw[akE _ _ hk];exact hlt);go_wp2_with fail;go_roundw
   case rel=>exact⟨k+1,by omega,by go_num,rfl⟩
   case measure=>simp[intOf];omega
  ·obtain rfl:k=8:=(by omega);have Cz:=fun(x:World)=>ayu prog x 274 5 8 n w.heap.size underlying274 (by kernel_rfl) hn
   have U0:=ZK prog (w.alloc (Obj.cells (CX (Qq 8 v)) 274)) 232 5 9 underlying232 underlying5 underlying9 w.heap.size 0 n 8 (Crc.le n v) (Crc.BK _ _) (fun i hi=>by
    rw[GJ,DF,eH _ _ (by rw[akE _ _ hk];rw[Crc.BK] at hi;omega)];simp only[←aw0 v n hn,List.getElem_take])
   go_wp2_with fail;go_ret;exact⟨rfl,(Af _ _).alloc (Ac _) _⟩
theorem ZE(v n:Nat)(w:World)(hv:v < 256 ^ n)(h1:1≤n)(hn:n≤8):
  Calls prog 186 #[.int .u64 v,.int .i64 n] w fun e w'=>e=.returned (.tuple #[.string (bs (Crc.le n v)),.int .i64 0])∧Bw w w':=by
 have Je:v < 18446744073709551616:=DK hv (by rw[show(18446744073709551616:Nat)=256 ^ 8 from rfl];exact Nat.pow_le_pow_right (by decide) hn);by_cases h8:n < 8
 ·have hq:((v:Int) / 2 ^ (8*n) != 0)=false:=by
   have e:v / 2 ^ (8*n)=0:=(by rw[Nat.pow_mul];exact Nat.div_eq_of_lt hv);have e2:(v:Int) / 2 ^ (8*n)=((v / 2 ^ (8*n):Nat):Int):=(by norm_cast);rw[e2,e];rfl
  go_enter func186,ntmps186;go_wp2_with fail;refine(gY v n _ hn).mono ?_;rintro e w1⟨rfl,hb⟩;go_wp2_with fail;go_ret2;exact⟨rfl,hb⟩
 ·obtain rfl:n=8:=by omega
  go_enter func186,ntmps186;go_wp2_with fail;refine(gY v 8 _ hn).mono ?_;rintro e w1⟨rfl,hb⟩;go_wp2_with fail;go_ret2;exact⟨rfl,hb⟩
theorem azg(l:List UInt8)(w:World)(hs:l.length≤maxLen):
  Calls prog 198 #[.string (bs l)] w fun e w'=>e=.returned (.int .u32 (Crc.sum l:Nat))∧Bw w w':=by
 go_enter func198,ntmps198;go_wp2_with fail;refine(aws 0 l _ (by decide) hs).mono ?_;rintro e w1⟨rfl,hb⟩;go_wp2_with fail;go_ret;exact⟨rfl,hb⟩
theorem dX(l:List UInt8)(w:World)(hs:l.length≤1099511627776):
  Calls prog 151 #[.string (bs l)] w fun e w'=>e=.returned (.string (bs (Crc.EW l)))∧Bw w w':=by
 have hlt:=Crc.sum_lt l;go_enter func151,ntmps151;go_wp2_with fail;refine(azg l _ (by unfold maxLen;omega)).mono ?_;rintro e w1⟨rfl,hb⟩;have H:=Hi hlt;go_wp2_with fail;refine(ZE (Crc.sum l) 4 _ H (by decide) (by decide)).mono ?_;rintro e w2⟨rfl,A8⟩;go_wp2_with fail;go_ret;exact⟨rfl,hb.trans (A8.mono hb.size)⟩
theorem alh(l:List UInt8)(w:World)(hs:l.length≤1099511627776):
  Calls prog 193 #[.string (bs l)] w fun e w'=>e=.returned (.tuple #[.string (bs (Crc.Er l).1),.int .i64 (Crc.Er l).2])∧Bw w w':=by
 by_cases h4:l.length < 4
 ·have H:Hid (Crc.Er l=([],6)):=Hi (Ab h4);go_enter func193,ntmps193;go_wp2_with fail;go_ret2;rw[H.out];exact⟨rfl,Af _ _⟩
 ·by_cases Jz:Crc.EW (l.take (l.length -4))=l
  ·have H:Hid (Crc.Er l=(l.take (l.length -4),0)):=Hi (by unfold Crc.Er;rw[Aa h4,Ab Jz]);have hb:(Crc.EW (l.take (l.length -4)) == l)=true:=(by simp[Jz]);clear Jz;go_enter func193,ntmps193;go_wp2_with fail;refine(dX (l.take (l.length -4)) _ (by rw[AL];omega)).mono ?_;rintro e w1⟨rfl,Ad⟩;go_wp2_with fail;go_ret2;rw[H.out];exact⟨rfl,Ad⟩
  ·have H:Hid (Crc.Er l=([],7)):=Hi (by unfold Crc.Er;rw[Aa h4,Aa Jz]);have hb:(Crc.EW (l.take (l.length -4)) == l)=false:=(by simp[Jz]);clear Jz;go_enter func193,ntmps193;go_wp2_with fail;refine(dX (l.take (l.length -4)) _ (by rw[AL];omega)).mono ?_;rintro e w1⟨rfl,Ad⟩;go_wp2_with fail;go_ret2;rw[H.out];exact⟨rfl,Ad⟩
theorem sN(v n:Nat)(w:World)(hv:v < 18446744073709551616)(hn:n≤8):
  Calls prog 203 #[.int .u64 v,.int .i64 n] w fun e w'=>e=.returned (.string (bs (Crc.le n v)))∧Bw w w':=by
 go_enter func203,ntmps203;go_wp2_with fail
 go_loopw [0,5,6] (fun q s i wr=>∃ k:Nat,k≤n∧i=.int .i64 k∧q=.int .u64 (v / 256 ^ k:Nat)∧s=.string (bs (Crc.le k v))∧Bw w wr) (fun _ _ i _=>n -(intOf i).toNat)
 case atStart=>exact⟨0,by omega,rfl,by simp,rfl,Af _ _⟩
 case round=>
  obtain⟨k,hk,rfl,rfl,rfl,hb⟩:=hrel;by_cases hlt:k < n
  ·have hq:v / 256 ^ k < 18446744073709551616:=Nat.lt_of_le_of_lt (Nat.div_le_self _ _) hv;have HS:=Hi (akF k v);have HD:Hid (v / 256 ^ (k+1)=v / 256 ^ k / 256):=Hi (by rw[Nat.pow_succ,Nat.div_div_eq_div_mul]);generalize v / 256 ^ k=q at*;have U0:=acP prog wr 232 5 9 5 underlying232 underlying5 underlying9 ((q:Int) % 256) (UInt8.ofNat q) (by rw[XO];norm_cast);go_wp2_with fail;go_roundw
   case rel=>exact⟨k+1,by omega,by go_num,by rw[HD.out];rfl,by rw[HS.out],(hb.alloc hb.size _)⟩
   case measure=>simp[intOf];omega
  ·obtain rfl:k=n:=(by omega);go_wp2_with fail;go_ret;exact⟨rfl,hb⟩
theorem ayp(l:List UInt8)(w:World)(hs:l.length≤maxLen):
  Calls prog 206 #[.string (bs l)] w fun e w'=>e=.returned (.int .u32 (Crc.sum l:Nat))∧w=w':=by
 unfold maxLen at hs;go_enter func206,ntmps206;go_wp2_with fail
 go_loop [3,4] (fun c i=>∃ k:Nat,k≤l.length∧i=.int .i64 k∧c=.int .u32 (Crc.reg 4294967295 (l.take k):Nat)) (fun _ i=>l.length -(intOf i).toNat)
 case atStart=>exact⟨0,by omega,rfl,rfl⟩
 case round=>
  obtain⟨k,hk,rfl,rfl⟩:=hrel;have Zg:=Crc.am4 (c:=4294967295) (by decide) (l.take k);by_cases hlt:k < l.length
  ·have HS:Hid (Crc.reg 4294967295 (l.take (k+1))=Crc.steps 8 (Crc.reg 4294967295 (l.take k) ^^^ l[k].toNat)):=Hi (by rw[an8 l k hlt,Crc.am5]);generalize Crc.reg 4294967295 (l.take k)=r at*;have hx:bits .xor .u32 (r:Int) ((l[k].toNat:Int) % 4294967296)=((r ^^^ l[k].toNat:Nat):Int):=by
    rw[←gX r l[k].toNat Zg (Crc.yz _),Int.emod_eq_of_lt (by omega) (by have:=l[k].toNat_lt;omega)]
   have FN:r ^^^ l[k].toNat < 2 ^ 32:=Nat.xor_lt_two_pow Zg (Crc.yz _);go_wp2_with fail;generalize r ^^^ l[k].toNat=q at*;clear hx
   go_loop [3,5,6] (fun c j _=>∃ i:Nat,i≤8∧j=.int .i64 i∧c=.int .u32 (Crc.steps i q:Nat)) (fun _ j _=>8 -(intOf j).toNat)
   case atStart=>exact⟨0,by omega,rfl,rfl⟩
   case round=>
    obtain⟨i,hi,rfl,rfl⟩:=hrel;by_cases auA:i < 8
    ·have hb:Crc.steps i q < 2 ^ 32:=Crc.um FN i;have H2:=Hi (gX (Crc.steps i q / 2) 3988292384 (by omega) (by decide));have h3:=Crc.an0 i q;unfold Crc.step at h3;have H3:=Hi h3;clear h3;generalize Crc.steps i q=c at*;by_cases ht:c % 2=1
     ·have hc:((c:Int) % 2 == 1)=true:=(by rw[beq_iff_eq];omega);have HT:=Hi ht;clear ht;go_wp2_with fail
      go_round
      case rel=>exact⟨i+1,by omega,by go_num,by rw[H3.out,Ab HT.out];exact congrArg _ H2.out⟩
      case measure=>simp[intOf];omega
     ·have hc:((c:Int) % 2 == 1)=false:=(by rw[H9];omega);have HT:=Hi ht;clear ht;go_wp2_with fail
      go_round
      case rel=>exact⟨i+1,by omega,by go_num,by rw[H3.out,Aa HT.out];rfl⟩
      case measure=>simp[intOf];omega
    ·obtain rfl:i=8:=(by omega);go_wp2_with fail
     go_round
     case rel=>exact⟨k+1,by omega,by go_num,by rw[HS.out]⟩
     case measure=>simp[intOf];omega
  ·obtain rfl:k=l.length:=(by omega);go_wp2_with fail;go_ret;rw[CY] at Zg;exact⟨am7 (ace _ Zg),rfl⟩
theorem uh(l:List UInt8)(w:World)(hs:l.length≤1099511627776):
  Calls prog 157 #[.string (bs l)] w fun e w'=>e=.returned (.string (bs (Crc.EW l)))∧Bw w w':=by
 have hlt:=Crc.sum_lt l;go_enter func157,ntmps157;go_wp2_with fail;refine(ayp l _ (by unfold maxLen;omega)).mono ?_;rintro e w1⟨rfl,rfl⟩;have H:=Hi hlt;go_wp2_with fail;refine(sN (Crc.sum l) 4 _ (Nat.lt_trans H (by decide)) (by decide)).mono ?_;rintro e w2⟨rfl,A8⟩;go_wp2_with fail;go_ret;exact⟨rfl,A8⟩
theorem amg(l:List UInt8)(w:World)(hs:l.length≤1099511627776):
  Calls prog 201 #[.string (bs l)] w fun e w'=>e=.returned (.tuple #[.string (bs (Crc.Er l).1),.int .i64 (Crc.Er l).2])∧Bw w w':=by
 by_cases h4:l.length < 4
 ·have H:Hid (Crc.Er l=([],6)):=Hi (Ab h4);go_enter func201,ntmps201;go_wp2_with fail;go_ret2;rw[H.out];exact⟨rfl,Af _ _⟩
 ·by_cases Jz:Crc.EW (l.take (l.length -4))=l
  ·have H:Hid (Crc.Er l=(l.take (l.length -4),0)):=Hi (by unfold Crc.Er;rw[Aa h4,Ab Jz]);have hb:(Crc.EW (l.take (l.length -4)) == l)=true:=(by simp[Jz]);clear Jz;go_enter func201,ntmps201;go_wp2_with fail;refine(uh (l.take (l.length -4)) _ (by rw[AL];omega)).mono ?_;rintro e w1⟨rfl,Ad⟩;go_wp2_with fail;go_ret2;rw[H.out];exact⟨rfl,Ad⟩
  ·have H:Hid (Crc.Er l=([],7)):=Hi (by unfold Crc.Er;rw[Aa h4,Aa Jz]);have hb:(Crc.EW (l.take (l.length -4)) == l)=false:=(by simp[Jz]);clear Jz;go_enter func201,ntmps201;go_wp2_with fail;refine(uh (l.take (l.length -4)) _ (by rw[AL];omega)).mono ?_;rintro e w1⟨rfl,Ad⟩;go_wp2_with fail;go_ret2;rw[H.out];exact⟨rfl,Ad⟩
end
section
def MK:List UInt8:=List.replicate 64 0
structure Dsk where
 n:Nat
 base:Nat→List UInt8
 loose:List (Nat×List UInt8)
 left:Int
 down:Bool
namespace Dsk
def new(n:Nat):Dsk:=⟨n,fun _=>MK,[],-1,false⟩
def lay(f:Nat→List UInt8):List (Nat×List UInt8)→Nat→List UInt8
 |[]=>f
 |p :: l=>lay (fun k=>if k=p.1 then p.2 else f k) l
def now(D:Dsk):Nat→List UInt8:=lay D.base D.loose
def inside(D:Dsk)(at_ n:Int):Bool:=decide (0≤at_) && decide (0≤n) && decide (at_≤D.n) && decide (n≤D.n -at_)
def text(f:Nat→List UInt8)(k:Nat):Nat→List UInt8
 |0=>[]
 |n+1=>f k++text f (k+1) n
def up(D:Dsk):Int:=if D.down then 40 else 0
def writes(D:Dsk)(at_:Nat)(s:List UInt8):Nat→Dsk×Int
 |0=>(D,0)
 |n+1=>if D.left=0 then({ D with down:=true },40)
  else writes { D with loose:=D.loose++[(at_,s.take 64)],left:=max (D.left -1) (-1) } (at_+1) (s.drop 64) n
def write(D:Dsk)(at_:Int)(s:List UInt8):Dsk×Int:=
 if D.down then(D,40) else if s.length % 64=0∧D.inside at_ (s.length / 64:Nat)=true then writes D at_.toNat s (s.length / 64) else(D,2)
def flush(D:Dsk):Dsk×Int:=if D.down then(D,40) else({ D with base:=lay D.base D.loose,loose:=[] },0)
def PX(D:Dsk)(n:Int):Dsk:={ D with left:=max n (-1) }
def keptFrom(keep:List UInt8):Nat→List (Nat×List UInt8)→List (Nat×List UInt8)
 |_,[]=>[]
 |i,p :: l=>(if keep≠[]∧(keep.getD (i % keep.length) 0).toNat % 2=1 then[p] else[])++keptFrom keep (i+1) l
def kept(D:Dsk)(keep:List UInt8):List (Nat×List UInt8):=keptFrom keep 0 D.loose
def Gd(D:Dsk)(keep:List UInt8):Dsk:={ D with base:=lay D.base (D.kept keep),loose:=[],left:= -1,down:=false }
structure BM(D:Dsk):Prop where
 n1:1≤D.n
 n2:D.n≤16384
 base:∀ k,k < D.n→(D.base k).length=64
 loose:∀ p∈D.loose,p.1 < D.n∧p.2.length=64
 left: -1≤D.left∧D.left≤9223372036854775807
theorem avV(f:Nat→List UInt8)(a b:List (Nat×List UInt8)):lay f (a++b)=lay (lay f a) b:=by
 induction a generalizing f with
 |nil=>rfl
 |cons p a ih=>exact ih _
theorem akD(f:Nat→List UInt8)(a:List (Nat×List UInt8))(p:Nat×List UInt8):lay f (a++[p])=fun k=>if k=p.1 then p.2 else lay f a k:=by
 rw[avV];rfl
theorem kC{N:Nat}{f:Nat→List UInt8}(hf:∀ k,k < N→(f k).length=64){l:List (Nat×List UInt8)}(hl:∀ p∈l,p.1 < N∧p.2.length=64):∀ k,k < N→(lay f l k).length=64:=by
 induction l generalizing f with
 |nil=>exact hf
 |cons p l ih=>
  refine ih (fun k hk=>?_) (fun q hq=>hl q (DT _ hq));split
  ·exact(hl p Dg).2
  ·exact hf k hk
theorem lH{N:Nat}{f:Nat→List UInt8}(hf:∀ k,k < N→(f k).length=64)(k n:Nat)(h:k+n≤N):(text f k n).length=64*n:=by
 induction n generalizing k with
 |zero=>rfl
 |succ n ih=>simp only[text,Au];rw[hf k (by omega),ih (k+1) (by omega)];omega
theorem anb(f:Nat→List UInt8)(k n:Nat):text f k (n+1)=text f k n++f (k+n):=by
 induction n generalizing k with
 |zero=>simp[text]
 |succ n ih=>rw[text,ih (k+1),text,Dp,Nat.add_right_comm];rfl
theorem akq{keep:List UInt8}(i:Nat)(l:List (Nat×List UInt8)):∀ p∈keptFrom keep i l,p∈l:=by
 induction l generalizing i with
 |nil=>intro p hp;simp[keptFrom] at hp
 |cons q l ih=>
  intro p hp;simp only[keptFrom,Fp] at hp;rcases hp with hp|hp
  ·split at hp
   ·simp at hp;subst hp;exact Dg
   ·simp at hp
  ·exact DT _ (ih _ p hp)
theorem BM.new{n:Nat}(h1:1≤n)(h2:n≤16384):BM (Dsk.new n):=⟨h1,h2,fun _ _=>by simp[Dsk.new,MK],fun p hp=>by simp[Dsk.new] at hp,by simp[Dsk.new]⟩
theorem BM.now{D:Dsk}(h:BM D):∀ k,k < D.n→(D.now k).length=64:=kC h.base h.loose
theorem BM.flush{D:Dsk}(h:BM D):BM D.flush.1:=by
 unfold Dsk.flush;split
 ·exact h
 ·exact⟨h.n1,h.n2,kC h.base h.loose,fun p hp=>by simp at hp,h.left⟩
theorem BM.PX{D:Dsk}(h:BM D){n:Int}(hn:n≤9223372036854775807):BM (D.PX n):=⟨h.n1,h.n2,h.base,h.loose,by simp only[Dsk.PX];omega⟩
theorem BM.Gd{D:Dsk}(h:BM D)(keep:List UInt8):BM (D.Gd keep):=
 ⟨h.n1,h.n2,kC h.base (fun p hp=>h.loose p (akq 0 _ p hp)),fun p hp=>by simp[Dsk.Gd] at hp,by simp[Dsk.Gd]⟩
theorem BM.writes{D:Dsk}(h:BM D){at_:Nat}{s:List UInt8}{n:Nat}(hn:at_+n≤D.n)(hs:64*n≤s.length):BM (Dsk.writes D at_ s n).1:=by
 induction n generalizing D at_ s with
 |zero=>exact h
 |succ n ih=>
  simp only[Dsk.writes];split
  ·exact⟨h.n1,h.n2,h.base,h.loose,h.left⟩
  ·have aj3:=h.left;have hD:BM { D with loose:=D.loose++[(at_,s.take 64)],left:=max (D.left -1) (-1) }:=by
    refine⟨h.n1,h.n2,h.base,fun p hp=>?_,by show -1≤max (D.left -1) (-1)∧max (D.left -1) (-1)≤9223372036854775807;omega⟩;rcases Fp.1 hp with hp|hp
    ·exact h.loose p hp
    ·simp at hp;subst hp;exact⟨by show at_ < D.n;omega,by show(s.take 64).length=64;rw[AL];omega⟩
   exact ih hD (by show at_+1+n≤D.n;omega) (by rw[Ce];omega)
def upd(f:Nat→List UInt8)(i:Nat)(x:List UInt8):Nat→List UInt8:=fun k=>if k=i then x else f k
theorem Pk{f g:Nat→List UInt8}(k n:Nat)(h:∀ i,k≤i→i < k+n→f i=g i):text f k n=text g k n:=by
 induction n generalizing k with
 |zero=>rfl
 |succ n ih=>
  simp only[text];rw[h k (Ac _) (by omega),ih (k+1) (fun i h1 h2=>h i (by omega) (by omega))]
theorem XN(f:Nat→List UInt8)(k m n:Nat):text f k (m+n)=text f k m++text f (k+m) n:=by
 induction m generalizing k with
 |zero=>simp[text]
 |succ m ih=>rw[Nat.add_right_comm,text,ih (k+1),text,Dp,show k+1+m=k+(m+1) by omega]
theorem Xx{f:Nat→List UInt8}{k n:Nat}(hf:∀ i,k≤i→i < k+n→(f i).length=64):(text f k n).length=64*n:=by
 induction n generalizing k with
 |zero=>rfl
 |succ n ih=>simp only[text,Au];rw[hf k (Ac _) (by omega),ih (fun i h1 h2=>hf i (by omega) (by omega))];omega
theorem ana{f:Nat→List UInt8}{k n i:Nat}(hf:∀ j,k≤j→j < k+n→(f j).length=64)(hi:i < n):
  (text f k n).take (64*i)=text f k i∧((text f k n).drop (64*i)).take 64=f (k+i)∧(text f k n).drop (64*i+64)=text f (k+(i+1)) (n -(i+1)):=by
 have e:text f k n=text f k i++(f (k+i)++text f (k+(i+1)) (n -(i+1))):=by
  have h1:=XN f k (i+1) (n -(i+1));rw[show i+1+(n -(i+1))=n by omega] at h1;rw[h1,anb,Dp]
 have l1:(text f k i).length=64*i:=Xx (fun j h1 h2=>hf j h1 (by omega));have l2:(f (k+i)).length=64:=hf _ (by omega) (by omega);refine⟨?_,?_,?_⟩
 ·rw[e,Iz l1]
 ·rw[e,M0 l1,Iz l2]
 ·rw[e,←Dp,M0 (by rw[Au,l1,l2])]
theorem anc{f:Nat→List UInt8}{k n i:Nat}{x:List UInt8}(hf:∀ j,k≤j→j < k+n→(f j).length=64)(hi:i < n)(hx:x.length=64):
  text (upd f (k+i) x) k n=(text f k n).take (64*i)++x++(text f k n).drop (64*i+x.length):=by
 obtain⟨h1,_,h3⟩:=ana hf hi;rw[hx,h1,h3];have hu:∀ j,k≤j→j < k+n→(upd f (k+i) x j).length=64:=fun j a b=>by
  unfold upd;split
  ·exact hx
  ·exact hf j a b
 have h4:=XN (upd f (k+i) x) k (i+1) (n -(i+1));rw[show i+1+(n -(i+1))=n by omega] at h4;rw[h4,anb];have e1:upd f (k+i) x (k+i)=x:=by simp[upd]
 have e2:text (upd f (k+i) x) k i=text f k i:=Pk _ _ (fun j a b=>by unfold upd;rw[Aa (by omega)]);have e3:text (upd f (k+i) x) (k+(i+1)) (n -(i+1))=text f (k+(i+1)) (n -(i+1)):=Pk _ _ (fun j a b=>by unfold upd;rw[Aa (by omega)]);rw[e1,e2,e3]
theorem ane(k n:Nat):text (fun _=>MK) k n=List.replicate (64*n) 0:=by
 induction n generalizing k with
 |zero=>rfl
 |succ n ih=>
  rw[text,ih,MK,show 64*(n+1)=64+64*n by omega,List.replicate_append_replicate]
def upTo(f:Nat→List UInt8)(k:Nat):Nat→List UInt8:=fun j=>if j < k then f j else MK
theorem azN{f:Nat→List UInt8}{N:Nat}(hf:∀ i,i < N→(f i).length=64)(k:Nat):∀ i,i < N→(upTo f k i).length=64:=fun i hi=>by
 unfold upTo;split
 ·exact hf i hi
 ·simp[MK]
theorem azO(f:Nat→List UInt8)(a n:Nat):text (upTo f a) a n=List.replicate (64*n) 0:=by
 rw[←ane a n];exact Pk a n (fun i h1 h2=>by unfold upTo;rw[Aa (by omega)])
theorem azP(f:Nat→List UInt8)(a k n:Nat):text (upTo f (a+(k+1))) a n=text (upd (upTo f (a+k)) (a+k) (f (a+k))) a n:=by
 refine Pk a n (fun i h1 h2=>?_);unfold upd upTo;by_cases e1:i=a+k
 ·rw[Ab e1,e1,Ab (by omega)]
 ·rw[Aa e1];by_cases e2:i < a+k
  ·rw[Ab (by omega),Ab e2]
  ·rw[Aa (by omega),Aa e2]
theorem azM(f:Nat→List UInt8)(a n:Nat):text (upTo f (a+n)) a n=text f a n:=
 Pk a n (fun i h1 h2=>by unfold upTo;rw[Ab (by omega)])
theorem avW(f:Nat→List UInt8)(l:List (Nat×List UInt8))(k:Nat)(h:k < l.length):lay f (l.take (k+1))=upd (lay f (l.take k)) l[k].1 l[k].2:=by
 rw[Cw h,akD];rfl
end Dsk
end
end Go.Proofs.YtmbbhdebddbhoaaGreat
