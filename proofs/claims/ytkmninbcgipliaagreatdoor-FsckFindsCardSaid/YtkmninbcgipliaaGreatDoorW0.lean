/- Base Crc DiskPlain WalPlain Heap Blk Reads Build DiskRep Builder DiskWalks -/
import Derived.Test.YtkmninbcgipliaaGreatDoorChecked
import Derived.WalkKit
import Derived.Deep.WholeRow
import Derived.Lib.Hide
import Derived.Maps.OwnSet
import Derived.SliceStrings
import Derived.ProofKit
import Derived.SizedLaws
import Derived.Deep.MidRow
import Derived.Lib.Builder
import Derived.Lib.UnsafeStr
import Derived.Laws.Externs
import Derived.Maps.AppendAt
import Derived.BigQuiet
import Derived.Deep.QuietTactic
import Derived.WalkSpells
set_option maxHeartbeats 1000000
set_option maxRecDepth 100000
set_option linter.all false
namespace Go.Proofs.YtkmninbcgipliaaGreatDoor
open Tryz
section
open Go.RowKit
theorem ex{α:Sort _}(a:α):∃ b,a=b:=⟨a,rfl⟩
theorem Hi{p:Prop}(h:p):Hid p:=h
abbrev Bw(w w':World):Prop:=Below w.heap.size w w'
abbrev Rt(w:World)(v:Value)(e:Ending)(w':World):Prop:=e=.returned v∧Bw w w'
theorem bT{u v w:World}(h:Bw u v)(k:Bw v w):Bw u w:=h.trans (k.mono h.size)
theorem bH{u v w:World}(h:Bw u v)(k:Bw v w):Hid (Bw u w):=h.trans (k.mono h.size)
theorem np{α:Type _}:(∀(l:List α)(i:Nat)(a:α),l.toArray.setIfInBounds i a=(l.set i a).toArray)∧(∀(a b:α)(l:List α),(a::l).set 0 b=b::l)∧(∀(a b:α)(n:Nat)(l:List α),(a::l).set (n+1) b=a::l.set n b):=⟨fun _ _ _=>List.setIfInBounds_toArray ..,fun _ _ _=>rfl,fun _ _ _ _=>rfl⟩
theorem cr{w:World}{k i:Nat}{cs:Array Value}{t:TypeId}{fr:Nat×Nat}{v:Value}(h:w.heap[k]?=some (.cells cs t fr))(e:cs[i]?=some v:=by rfl):w.cell? ⟨k,i,none⟩=some v:=(cell_of_row w k i cs t fr h).trans e
theorem CB:type_of% @And.intro:=@And.intro
theorem Xu:type_of% @Array.getElem?_eq_getElem:=@Array.getElem?_eq_getElem
theorem Dn:type_of% @Array.getElem?_eq_some_iff:=@Array.getElem?_eq_some_iff
theorem Dx:type_of% @Array.getElem?_toList:=@Array.getElem?_toList
theorem Nj:type_of% @Array.replicate_succ:=@Array.replicate_succ
theorem Nk:type_of% @Array.replicate_zero:=@Array.replicate_zero
theorem Ai:type_of% @Below.refl:=@Below.refl
theorem EN:type_of% @IntWalk.i64_in:=@IntWalk.i64_in
theorem Nl:type_of% @List.all_eq_true:=@List.all_eq_true
theorem DJ:type_of% @List.append_assoc:=@List.append_assoc
theorem Eg:type_of% @List.append_nil:=@List.append_nil
theorem Nn:type_of% @List.append_toArray:=@List.append_toArray
theorem I5:type_of% @List.cons_append:=@List.cons_append
theorem OH:type_of% @List.drop_eq_getElem_cons:=@List.drop_eq_getElem_cons
theorem Np:type_of% @List.drop_left':=@List.drop_left'
theorem VI:type_of% @List.eq_nil_iff_forall_not_mem:=@List.eq_nil_iff_forall_not_mem
theorem IQ:type_of% @List.filter_append:=@List.filter_append
theorem PK:type_of% @List.filter_cons_of_neg:=@List.filter_cons_of_neg
theorem QI:type_of% @List.filter_cons_of_pos:=@List.filter_cons_of_pos
theorem LV:type_of% @List.flatMap_append:=@List.flatMap_append
theorem PL:type_of% @List.flatMap_cons:=@List.flatMap_cons
theorem IU:type_of% @List.getD_eq_getElem?_getD:=@List.getD_eq_getElem?_getD
theorem CZ:type_of% @List.getElem?_eq_getElem:=@List.getElem?_eq_getElem
theorem Uy:type_of% @List.getElem?_eq_some_iff:=@List.getElem?_eq_some_iff
theorem JS:type_of% @List.getElem?_map:=@List.getElem?_map
theorem Uz:type_of% @List.getElem_append_left:=@List.getElem_append_left
theorem Xv:type_of% @List.getElem_append_right:=@List.getElem_append_right
theorem CK:type_of% @List.getElem_mem:=@List.getElem_mem
theorem Tp:type_of% @List.getElem_of_mem:=@List.getElem_of_mem
theorem AA:type_of% @List.length_append:=@List.length_append
theorem BM:type_of% @List.length_cons:=@List.length_cons
theorem CF:type_of% @List.length_drop:=@List.length_drop
theorem Ku:type_of% @List.length_eq_zero_iff:=@List.length_eq_zero_iff
theorem LW:type_of% @List.length_filter_le:=@List.length_filter_le
theorem Ca:type_of% @List.length_map:=@List.length_map
theorem IV:type_of% @List.length_nil:=@List.length_nil
theorem La:type_of% @List.length_singleton:=@List.length_singleton
theorem Bc:type_of% @List.length_take:=@List.length_take
theorem CQ:type_of% @List.map_append:=@List.map_append
theorem OI:type_of% @List.map_congr_left:=@List.map_congr_left
theorem Ce:type_of% @List.map_cons:=@List.map_cons
theorem Kv:type_of% @List.map_map:=@List.map_map
theorem Kw:type_of% @List.map_nil:=@List.map_nil
theorem Es:type_of% @List.mem_append:=@List.mem_append
theorem UA:type_of% @List.mem_append_left:=@List.mem_append_left
theorem Ch:type_of% @List.mem_cons:=@List.mem_cons
theorem Fs:type_of% @List.mem_cons_of_mem:=@List.mem_cons_of_mem
theorem Gl:type_of% @List.mem_cons_self:=@List.mem_cons_self
theorem G9:type_of% @List.mem_filter:=@List.mem_filter
theorem NZ:type_of% @List.mem_flatMap:=@List.mem_flatMap
theorem Bv:type_of% @List.mem_map:=@List.mem_map
theorem I6:type_of% @List.mem_map_of_mem:=@List.mem_map_of_mem
theorem Fu:type_of% @List.mem_singleton:=@List.mem_singleton
theorem EE:type_of% @List.nil_append:=@List.nil_append
theorem JV:type_of% @List.nodup_cons:=@List.nodup_cons
theorem Ky:type_of% @List.pairwise_cons:=@List.pairwise_cons
theorem Tq:type_of% @List.pairwise_singleton:=@List.pairwise_singleton
theorem Nq:type_of% @List.push_toArray:=@List.push_toArray
theorem Kz:type_of% @List.size_toArray:=@List.size_toArray
theorem LX:type_of% @List.sum_append:=@List.sum_append
theorem DY:type_of% @List.sum_cons:=@List.sum_cons
theorem Lb:type_of% @List.take_append_drop:=@List.take_append_drop
theorem Jf:type_of% @List.take_left':=@List.take_left'
theorem D5:type_of% @List.take_length:=@List.take_length
theorem Gx:type_of% @List.take_of_length_le:=@List.take_of_length_le
theorem Cr:type_of% @List.take_succ_eq_append_getElem:=@List.take_succ_eq_append_getElem
theorem Gm:type_of% @List.take_zero:=@List.take_zero
theorem Ag:type_of% @Nat.le_refl:=@Nat.le_refl
theorem Ay:type_of% @Nat.le_trans:=@Nat.le_trans
theorem Ip:type_of% @Nat.lt_of_lt_of_le:=@Nat.lt_of_lt_of_le
theorem Iq:type_of% @Nat.min_eq_left:=@Nat.min_eq_left
theorem PN:type_of% @Nat.mul_le_mul_right:=@Nat.mul_le_mul_right
theorem GQ:type_of% @Nat.zero_add:=@Nat.zero_add
theorem AV:type_of% @Nat.zero_le:=@Nat.zero_le
theorem OJ:type_of% @Oper.semAt_some:=@Oper.semAt_some
theorem CU:type_of% @Option.bind_some:=@Option.bind_some
theorem RZ:type_of% @Option.getD_some:=@Option.getD_some
theorem KD:type_of% @Option.isSome_iff_exists:=@Option.isSome_iff_exists
theorem Tt:type_of% @Option.map_eq_some_iff:=@Option.map_eq_some_iff
theorem EZ:type_of% @Option.map_some:=@Option.map_some
theorem GR:type_of% @Option.some.inj:=@Option.some.inj
theorem Cu:type_of% @Option.some.injEq:=@Option.some.injEq
theorem Nr:type_of% @Prod.mk.injEq:=@Prod.mk.injEq
theorem DZ:type_of% @World.ownsRow_nil:=@World.ownsRow_nil
theorem Az:type_of% @World.size_alloc:=@World.size_alloc
theorem Ev:type_of% @beq_eq_false_iff_ne:=@beq_eq_false_iff_ne
theorem Cv:type_of% @block_lt_of_cell:=@block_lt_of_cell
theorem EO:type_of% @bodyPost_ret:=@bodyPost_ret
theorem DK:type_of% @callsIn_wide:=@callsIn_wide
theorem BJ:type_of% @cell_of_row:=@cell_of_row
theorem LY:type_of% @decide_eq_true:=@decide_eq_true
theorem CG:type_of% @frozen_of_row:=@frozen_of_row
theorem AU:type_of% @heap_alloc_new:=@heap_alloc_new
theorem Cs:type_of% @heap_setCell_same:=@heap_setCell_same
theorem A9:type_of% @if_neg:=@if_neg
theorem Ae:type_of% @if_pos:=@if_pos
theorem Dy:type_of% @info_parts:=@info_parts
theorem O0:type_of% @of_decide_eq_true:=@of_decide_eq_true
theorem He:type_of% @run_underlying:=@run_underlying
end
section
open Go.RowKit
def bs(l:List UInt8):ByteArray:=⟨l.toArray⟩
@[simp] theorem aao (l:List UInt8):(bs l).size=l.length:=rfl
@[simp] theorem asH (l:List UInt8):(bs l).data=l.toArray:=rfl
@[simp] theorem aEZ (l k:List UInt8):bs l++bs k=bs (l++k):=by
 apply ByteArray.ext;simp[ByteArray.data_append]
theorem asJ{l:List UInt8}{i:Nat}(h:i < (bs l).size):i < l.length:=h
@[simp] theorem aF1 (l:List UInt8) (i:Nat) (h:i < (bs l).size):(bs l)[i]=l[i]'(asJ h):=rfl
@[simp] theorem aF0 (l:List UInt8) (a b:Nat):(bs l).extract a b=bs ((l.take b).drop a):=by
 apply ByteArray.ext;simp[ByteArray.data_extract];apply List.ext_getElem?;intro i;simp[List.getElem?_take,List.getElem?_drop];by_cases h:i < b -a
 ·simp[h,show a+i < b by omega]
 ·simp[h,show ¬ a+i < b by omega]
@[simp] theorem aF2 (l:List UInt8):(bs l).toList=l:=ByteArray.toList_mk l
theorem aoo{k:IntKind}{a b:Int}(h:a=b):Ending.returned (.int k a)=.returned (.int k b):=by rw[h]
theorem apv(l:List UInt8)(k:Nat)(h:k < l.length):l.take (k+1)=l.take k++[l[k]]:=Cr h
@[irreducible] def Dk (k:List UInt8):Array Value:=(k.map fun b=>Value.int .u8 (b.toNat:Int)).toArray
@[simp] theorem oL (k:List UInt8):(Dk k).size=k.length:=by unfold Dk;simp
theorem iX(k:List UInt8)(i:Nat)(h:i < k.length):(Dk k)[i]?=some (.int .u8 (k[i].toNat:Int)):=by
 unfold Dk;rw[List.getElem?_toArray,JS,CZ h];rfl
theorem aDl(k:List UInt8)(i:Nat)(b:UInt8):(Dk k).setIfInBounds i (.int .u8 (b.toNat:Int))=Dk (k.set i b):=by
 unfold Dk;rw[List.map_set,List.setIfInBounds_toArray]
theorem aeN(k:List UInt8):(Dk k).all (·.oneCell')=true:=by
 unfold Dk;rw[Array.all_eq_true];intro i hi;simp at hi ⊢;rfl
theorem Xp(n:Nat):(UInt8.ofNat n).toNat=n % 256:=rfl
theorem Xn(P:Program)(w:World)(src e dst:TypeId)(hs:P.underlying src=some (.slice e))(he:P.underlying e=some (.int .u8))(hd:P.underlying dst=some .string)
  (b off len cap:Nat)(k:List UInt8)(hlen:k.length=len)(Gh:∀ i,(h:i < k.length)→w.cell? ⟨b,off+i,none⟩=some (.int .u8 (k[i].toNat:Int))):
  (convert src dst (.slice (some ⟨b,off,none⟩) len cap)).run P w=.ok (.string (bs k)) w:=by
 have h:=run_convert_bytes_arg (P:=P) w src e hs he b off len cap (k.map fun x=>(x.toNat:Int)) (by simpa using hlen) (fun i hi=>by
  rw[Gh i (by omega)];simp[IU,CZ (show i < k.length by omega)]) dst hd
 rw[h]
 congr 2
 apply ByteArray.ext;apply Array.ext';rw[strOfNums_data];simp[bs,Function.comp_def]
theorem aBP(P:Program)(w:World)(t e:TypeId)(N n b:Nat)(hu:P.underlying t=some (.array N e))(hs:(P.info? e).map (·.size)=some 1)(hn:n≤N):
  (Instr.sliceAt t (.pointer (some ⟨b,0,none⟩)) none (some (.int .i64 (n:Int))) none).run P w=.ok (.slice (some ⟨b,0,none⟩) n N) w:=by
 cases hq:P.info? e with
 |none=>simp[hq] at hs
 |some i=>
  simp[Instr.sliceAt,Instr.sureAddr,He hu,Instr.sliceBounds,run_sliceBound,sizeOf,typeInfo,hq,go_sem,hn]
theorem aBQ(P:Program)(w:World)(t e:TypeId)(N b:Nat)(hu:P.underlying t=some (.array N e))(hs:(P.info? e).map (·.size)=some 1):
  (Instr.sliceAt t (.pointer (some ⟨b,0,none⟩)) none none none).run P w=.ok (.slice (some ⟨b,0,none⟩) N N) w:=by
 cases hq:P.info? e with
 |none=>simp[hq] at hs
 |some i=>
  simp[Instr.sliceAt,Instr.sureAddr,He hu,Instr.sliceBounds,sizeOf,typeInfo,hq,go_sem]
theorem E5(w:World)(c:Array Value)(T:TypeId)(i:Nat):(w.alloc (.cells c T)).cell? ⟨w.heap.size,i,none⟩=c[i]? :=
 BJ _ _ i c T (0,0) (heap_alloc_last w _)
theorem aem(P:Program)(w:World)(src e dst T:TypeId)(hs:P.underlying src=some (.slice e))(he:P.underlying e=some (.int .u8))(hd:P.underlying dst=some .string)
  (x:Int)(b:UInt8)(hx:x=(b.toNat:Int)):
  (convert src dst (.slice (some ⟨w.heap.size,0,none⟩) 1 1)).run P (w.alloc (.cells #[.int .u8 x] T))=.ok (.string (bs [b])) (w.alloc (.cells #[.int .u8 x] T)):=by
 subst hx;refine Xn P _ src e dst hs he hd _ 0 1 1 [b] rfl (fun i hi=>?_);rw[GQ,E5];obtain rfl:i=0:=by simpa using hi
 rfl
instance:CoeTail Nat Addr:=⟨fun k=>⟨k,0,none⟩⟩
instance:CoeTail Nat (Option Addr):=⟨fun k=>some ⟨k,0,none⟩⟩
instance:CoeTail Nat Value:=⟨fun k=>.pointer (some ⟨k,0,none⟩)⟩
instance:CoeTail (List UInt8) Value:=⟨fun k=>.string (bs k)⟩
instance:CoeTail Int Value:=⟨.int .i64⟩
instance:CoeTail Bool Value:=⟨.bool⟩
instance:CoeTail Unit Value:=⟨fun _=>.slice none 0 0⟩
end
namespace Ab
def step(c:Nat):Nat:=if c % 2=1 then(c / 2) ^^^ 3988292384 else c / 2
def steps:Nat→Nat→Nat
 |0,c=>c
 |n+1,c=>steps n (step c)
theorem apo(n c:Nat):steps (n+1) c=step (steps n c):=by
 induction n generalizing c with
 |zero=>rfl
 |succ n ih=>rw[steps,ih (step c)];rfl
theorem aGP(m n c:Nat):steps (m+n) c=steps n (steps m c):=by
 induction m generalizing c with
 |zero=>simp[steps]
 |succ m ih=>rw[Nat.add_right_comm,steps,ih];rfl
theorem aCH{c:Nat}(h:c < 2 ^ 32):step c < 2 ^ 32:=by
 unfold step;have h2:c / 2 < 2 ^ 32:=by omega
 split
 ·exact Nat.xor_lt_two_pow h2 (by decide)
 ·exact h2
theorem xD{c:Nat}(h:c < 2 ^ 32)(n:Nat):steps n c < 2 ^ 32:=by
 induction n generalizing c with
 |zero=>exact h
 |succ n ih=>exact ih (aCH h)
theorem aEC(a b:Nat):(a ^^^ b) / 2=(a / 2) ^^^ (b / 2):=by
 have h:=Nat.xor_div_two_pow (a:=a) (b:=b) (n:=1);simpa using h
theorem aED(a b:Nat):(a ^^^ b) % 2=((a % 2) ^^^ (b % 2)):=by
 have h:=Nat.xor_mod_two_pow (a:=a) (b:=b) (n:=1);simpa using h
theorem aCI(a b:Nat):step (a ^^^ b)=step a ^^^ step b:=by
 unfold step;rw[aED,aEC];rcases Nat.mod_two_eq_zero_or_one a with ha|ha<;>rcases Nat.mod_two_eq_zero_or_one b with hb|hb<;>simp only[ha,hb]
 ·simp
 ·simp[Nat.xor_assoc]
 ·simp[Nat.xor_assoc,Nat.xor_comm 3988292384]
 ·have e:(a / 2 ^^^ 3988292384) ^^^ (b / 2 ^^^ 3988292384)=(a / 2 ^^^ b / 2) ^^^ (3988292384 ^^^ 3988292384):=by
   rw[Nat.xor_assoc,Nat.xor_assoc,←Nat.xor_assoc 3988292384,Nat.xor_comm 3988292384 (b / 2),Nat.xor_assoc (b / 2)]
  simp[e]
theorem aCK(n a b:Nat):steps n (a ^^^ b)=steps n a ^^^ steps n b:=by
 induction n generalizing a b with
 |zero=>rfl
 |succ n ih=>simp only[steps];rw[aCI,ih]
theorem aCG(h:Nat):step (2*h)=h:=by
 unfold step;rw[A9 (by omega)];omega
theorem aCJ(n h:Nat):steps n (2 ^ n*h)=h:=by
 induction n generalizing h with
 |zero=>simp[steps]
 |succ n ih=>
  simp only[steps];rw[Nat.pow_succ,Nat.mul_comm (2 ^ n) 2,Nat.mul_assoc,aCG,ih]
theorem ayF(h l:Nat)(hl:l < 256):256*h+l=(256*h) ^^^ l:=by
 have e:=Nat.two_pow_add_eq_or_of_lt (i:=8) (b:=l) (by simpa using hl) h;have e2:2 ^ 8*h ^^^ l=2 ^ 8*h ||| l:=by
  apply Nat.eq_of_testBit_eq;intro i;simp only[Nat.testBit_xor,Nat.testBit_or,Nat.testBit_two_pow_mul];by_cases hi:i < 8
  ·simp[show ¬ 8≤i by omega]
  ·have:l.testBit i=false:=Nat.testBit_lt_two_pow (Ip hl (by
    have:=Nat.pow_le_pow_right (n:=2) (by decide) (show 8≤i by omega);simpa using this))
   simp[this]
 have e3:(2:Nat) ^ 8=256:=by decide
 rw[e3] at e e2;rw[e,e2]
def tab(i:Nat):Nat:=steps 8 i
theorem asO(c b:Nat):(c / 256) ^^^ tab ((c % 256) ^^^ b)=steps 8 (c ^^^ b):=by
 have hc:c=(256*(c / 256)) ^^^ (c % 256):=by
  rw[←ayF _ _ (Nat.mod_lt _ (by decide))];omega
 have h1:steps 8 (c ^^^ b)=steps 8 (256*(c / 256)) ^^^ steps 8 ((c % 256) ^^^ b):=by
  rw[←aCK,←Nat.xor_assoc,←hc]
 rw[h1];have h2:=aCJ 8 (c / 256);have e3:(2:Nat) ^ 8=256:=by decide
 rw[e3] at h2;rw[h2];rfl
def reg(c:Nat)(l:List UInt8):Nat:=l.foldl (fun c b=>steps 8 (c ^^^ b.toNat)) c
theorem aGU(c:Nat)(l k:List UInt8):reg c (l++k)=reg (reg c l) k:=by simp[reg]
theorem aom(c:Nat)(l:List UInt8)(b:UInt8):reg c (l++[b])=steps 8 (reg c l ^^^ b.toNat):=by simp[reg]
theorem aar(b:UInt8):b.toNat < 2 ^ 32:=Nat.lt_trans b.toNat_lt (by decide)
theorem aol{c:Nat}(h:c < 2 ^ 32)(l:List UInt8):reg c l < 2 ^ 32:=by
 induction l generalizing c with
 |nil=>exact h
 |cons b l ih=>exact ih (xD (Nat.xor_lt_two_pow h (aar b)) 8)
def Ur(c:Nat):Nat:=4294967295 -c
theorem ann(c:Nat):Ur c < 2 ^ 32:=by unfold Ur;omega
def more(c:Nat)(l:List UInt8):Nat:=Ur (reg (Ur c) l)
def sum(l:List UInt8):Nat:=more 0 l
theorem sum_lt(l:List UInt8):sum l < 2 ^ 32:=ann _
def val:List UInt8→Nat
 |[]=>0
 |b :: l=>b.toNat+256*val l
theorem aGO(b:UInt8)(l:List UInt8):val (b :: l)=b.toNat ^^^ (256*val l):=by
 have:=ayF (val l) b.toNat b.toNat_lt;rw[Nat.xor_comm,←this,val];omega
theorem aGN(c:Nat)(l:List UInt8):reg c l=steps (8*l.length) (c ^^^ val l):=by
 induction l generalizing c with
 |nil=>simp[reg,val,steps]
 |cons b l ih=>
  have e:reg c (b :: l)=reg (steps 8 (c ^^^ b.toNat)) l:=rfl;rw[e,ih,aGO,←Nat.xor_assoc,BM,show 8*(l.length+1)=8+8*l.length by omega,aGP,aCK 8 (c ^^^ b.toNat)];have h2:=aCJ 8 (val l);have e3:(2:Nat) ^ 8=256:=by decide
  rw[e3] at h2;rw[h2]
theorem aGX{c:Nat}(h:c < 2 ^ 32)(h0:step c=0):c=0:=by
 unfold step at h0;split at h0
 ·have e:c / 2=3988292384:=by
   have:=congrArg (· ^^^ 3988292384) h0;simpa[Nat.xor_assoc] using this
  omega
 ·omega
theorem aGQ{c:Nat}(n:Nat)(h:c < 2 ^ 32)(h0:steps n c=0):c=0:=by
 induction n generalizing c with
 |zero=>exact h0
 |succ n ih=>exact aGX h (ih (aCH h) h0)
theorem aH1{a b:Nat}(h:a ^^^ b=0):a=b:=by
 have:=congrArg (· ^^^ b) h;simpa[Nat.xor_assoc] using this
theorem aGY{a b:Nat}(n:Nat)(ha:a < 2 ^ 32)(hb:b < 2 ^ 32)(h:steps n a=steps n b):a=b:=by
 refine aH1 (aGQ n (Nat.xor_lt_two_pow ha hb) ?_);rw[aCK,h,Nat.xor_self]
theorem val_append(l k:List UInt8):val (l++k)=val l+256 ^ l.length*val k:=by
 induction l with
 |nil=>simp[val]
 |cons b l ih=>simp only[I5,val,ih,BM,Nat.pow_succ];rw[Nat.mul_add,←Nat.mul_assoc,Nat.mul_comm 256 (256 ^ l.length)];omega
theorem Jw(l:List UInt8):val l < 256 ^ l.length:=by
 induction l with
 |nil=>simp[val]
 |cons b l ih=>
  have:=b.toNat_lt;simp only[val,BM,Nat.pow_succ];omega
def le:Nat→Nat→List UInt8
 |0,_=>[]
 |n+1,v=>UInt8.ofNat v :: le n (v / 256)
@[simp] theorem Cb (n v:Nat):(le n v).length=n:=by
 induction n generalizing v with
 |zero=>rfl
 |succ n ih=>simp[le,ih]
theorem xV(n v:Nat):val (le n v)=v % 256 ^ n:=by
 induction n generalizing v with
 |zero=>simp[le,val];omega
 |succ n ih=>
  simp only[le,val,ih];rw[Nat.pow_succ,Nat.mul_comm (256 ^ n) 256,Nat.mod_mul];rfl
theorem val_inj:∀ {l k:List UInt8},l.length=k.length→val l=val k→l=k
 |[],[],_,_=>rfl
 |a :: l,b :: k,hl,hv=>by
  have ha:=a.toNat_lt;have hb:=b.toNat_lt;simp only[val] at hv;have e1:a.toNat=b.toNat:=by omega
  have e2:val l=val k:=by omega
  rw[UInt8.toNat_inj.1 e1,val_inj (by simpa using hl) e2]
theorem nJ(l:List UInt8):le l.length (val l)=l:=
 val_inj (Cb _ _) (by rw[xV];exact Nat.mod_eq_of_lt (Jw l))
def FN(l:List UInt8):List UInt8:=l++le 4 (sum l)
theorem RP(l:List UInt8):(FN l).length=l.length+4:=by simp[FN,Cb]
def PS(l:List UInt8):Prop:=4≤l.length∧FN (l.take (l.length -4))=l
instance (l:List UInt8):Decidable (PS l):=inferInstanceAs (Decidable (_∧_))
theorem aC2(l:List UInt8):(FN l).take ((FN l).length -4)=l:=by
 rw[RP,Nat.add_sub_cancel,FN,List.take_left]
theorem aGW(l:List UInt8):PS (FN l):=⟨by rw[RP];omega,by rw[aC2]⟩
theorem aGV{l:List UInt8}(h:4≤l.length):PS l↔reg 4294967295 l=steps 32 4294967295:=by
 obtain⟨t,c,rfl,hc⟩:∃ t c,l=t++c∧c.length=4:=⟨l.take (l.length -4),l.drop (l.length -4),(Lb _ _).symm,by simp;omega⟩;have hr:=aol (c:=4294967295) (by decide) t;have hv:val c < 2 ^ 32:=by have:=Jw c;rw[hc] at this;exact Nat.lt_of_lt_of_eq this (by decide)
 have e1:(t++c).take ((t++c).length -4)=t:=by
  rw[AA,hc,Nat.add_sub_cancel,List.take_left]
 have e2:reg 4294967295 (t++c)=steps 32 (reg 4294967295 t ^^^ val c):=by rw[aGU,aGN (reg _ t) c,hc]
 have e3:PS (t++c)↔val c=Ur (reg 4294967295 t):=by
  unfold PS;rw[e1,FN];constructor
  ·rintro⟨_,h2⟩;have h3:=List.append_cancel_left h2;rw[←h3,xV];exact Nat.mod_eq_of_lt (Nat.lt_of_lt_of_eq (sum_lt t) (by decide))
  ·intro h2;refine⟨h,?_⟩;have:le 4 (sum t)=c:=by
    have h3:=nJ c;rw[hc,h2] at h3;exact h3
   rw[this]
 rw[e2,e3];have hx:∀ a b:Nat,a < 2 ^ 32→b < 2 ^ 32→(b=Ur a↔a ^^^ b=4294967295):=by
  intro a b ha hb;have key:a ^^^ 4294967295=Ur a:=by
   unfold Ur;apply Nat.eq_of_testBit_eq;intro i;have h1:=Nat.testBit_two_pow_sub_succ (x:=a) (n:=32) ha i;rw[show 4294967295 -a=2 ^ 32 -(a+1) by omega,h1,Nat.testBit_xor,show(4294967295:Nat)=2 ^ 32 -1 by decide,Nat.testBit_two_pow_sub_one];by_cases hi:i < 32
   ·simp[hi]
   ·simp[hi];exact Nat.testBit_lt_two_pow (Ip ha (Nat.pow_le_pow_right (by decide) (by omega)))
  constructor
  ·intro e;rw[e,←key,←Nat.xor_assoc,Nat.xor_self,Nat.zero_xor]
  ·intro e;rw[←key,←e,←Nat.xor_assoc,Nat.xor_self,Nat.zero_xor]
 rw[hx _ _ hr hv];constructor
 ·intro e;rw[e]
 ·intro e;exact aGY 32 (Nat.xor_lt_two_pow hr hv) (by decide) e
theorem turned{l k:List UInt8}(hlen:k.length=l.length)(hl:PS l){from_ turns:Nat}(ht:turns < 2 ^ 32)(h0:turns≠0)(hf:from_≤8*l.length)
  (hv:val k=val l ^^^ (2 ^ from_*turns)):¬ PS k:=by
 have h4:=hl.1;rw[aGV (by omega)] at hl ⊢;rw[aGN,hlen,hv,←Nat.xor_assoc,aCK,←aGN,hl];intro e;have e2:steps (8*l.length) (2 ^ from_*turns)=0:=by
  have:=congrArg (steps 32 4294967295 ^^^ ·) e;simpa[←Nat.xor_assoc] using this
 rw[show 8*l.length=from_+(8*l.length -from_) by omega,aGP,aCJ] at e2;exact h0 (aGQ _ ht e2)
theorem aGS(a b:Nat):256*a ^^^ 256*b=256*(a ^^^ b):=by
 rw[show(256:Nat)=2 ^ 8 by decide];apply Nat.eq_of_testBit_eq;intro i;simp only[Nat.testBit_xor,Nat.testBit_two_pow_mul];cases decide (8≤i)<;>simp
def EK(l:List UInt8):List UInt8×Int:=if l.length < 4 then([],6) else if FN (l.take (l.length -4))=l then(l.take (l.length -4),0) else([],7)
theorem adT(l:List UInt8):EK (FN l)=(l,0):=by
 unfold EK;rw[aC2,Ae rfl,A9 (by rw[RP];omega)]
theorem adS{l:List UInt8}(h:(EK l).2=0):FN (EK l).1=l:=by
 unfold EK at h ⊢;split
 ·rename_i h4;rw[Ae h4] at h;simp at h
 ·rename_i h4
  rw[A9 h4] at h;split
  ·rename_i h5;exact h5
  ·rename_i h5;rw[A9 h5] at h;simp at h
theorem aGT{l:List UInt8}(h4:4≤l.length)(h:¬ PS l):EK l=([],7):=by
 unfold EK;rw[A9 (by omega),A9 (fun e=>h ⟨h4,e⟩)]
theorem aGZ(l k:List UInt8)(hlen:k.length=(FN l).length)(f t:Nat)(ht:t < 2 ^ 32)(h0:t≠0)(hf:f≤8*(FN l).length)
  (hv:val k=val (FN l) ^^^ (2 ^ f*(t % 2 ^ 32))):EK k=([],7):=by
 refine aGT (by rw[hlen,RP];omega) (turned hlen (aGW l) (from_:=f) (turns:=t) ht h0 hf ?_);rw[hv,Nat.mod_eq_of_lt ht]
end Ab
section
open Go.RowKit
@[irreducible] def Ni (k:Nat):Array Value:=((List.range 256).map fun i=>Value.int .u32 (if i < k then(Ab.tab i:Nat) else 0)).toArray
theorem oG(k i:Nat)(h:i < 256):(Ni k)[i]?=some (.int .u32 (if i < k then(Ab.tab i:Nat) else 0)):=by
 unfold Ni;rw[List.getElem?_toArray,JS,List.getElem?_range h];simp
theorem bX(k:Nat):(Ni k).size=256:=by unfold Ni;simp
theorem aCW(k:Nat)(h:k < 256):(Ni k).setIfInBounds k (.int .u32 (Ab.tab k:Nat))=Ni (k+1):=by
 apply Array.ext_getElem?;intro i;rw[Array.getElem?_setIfInBounds];by_cases hi:i < 256
 ·rw[oG _ _ hi,oG _ _ hi];by_cases e:k=i
  ·subst e;simp[bX,hi]
  ·rw[A9 e];by_cases h2:i < k
   ·simp[h2,show i < k+1 by omega]
   ·simp[h2,show ¬ i < k+1 by omega]
 ·rw[A9 (by omega),Array.getElem?_eq_none (by rw[bX];omega),Array.getElem?_eq_none (by rw[bX];omega)]
theorem apt:Tryz.zeroCells349=Ni 0:=by
 unfold Ni
 kernel_rfl
theorem aCX:(prog.info? 349).map (fun i=>(i.zero,i.size))=some (some (.agg Tryz.zeroCells349),256):=by kernel_rfl
theorem xH(k:Nat):(prog.info? 349).map (·.size)=some (Ni k).size:=by rw[bX];exact(zero_of_info aCX).2
theorem apu(k:Nat):(Ni k).all (·.oneCell')=true:=by
 rw[Array.all_eq_true];intro i hi;have:=oG k i (by rw[bX] at hi;exact hi);rw[Xu hi] at this;rw[GR this];rfl
theorem asC(c:Nat)(h:c < 2 ^ 32):bits .and .u32 (c:Int) 1=((c % 2:Nat):Int):=by
 rw[show(1:Int)=((1:Nat):Int) from rfl,u32_and_nat c 1 h (by decide),Nat.and_one_is_mod]
theorem kD(a b:Nat)(ha:a < 2 ^ 32)(hb:b < 2 ^ 32):bits .xor .u32 (a:Int) (b:Int)=((a ^^^ b:Nat):Int):=u32_xor_nat a b ha hb
theorem aCY(w:World):
  Calls prog 281 #[] w (Rt w (.agg (Ni 256))):=by
 go_in
 go_wp2_with fail;rw[apt]
 go_loopw [3] (fun i wr=>∃ k:Nat,k≤256∧i=.int .i64 k∧wr=w.alloc (Obj.cells (Ni k) 349)) (fun i _=>256 -(intOf i).toNat)
 case atStart=>exact⟨0,by omega,rfl,rfl⟩
 case round=>
  obtain⟨k,hk,rfl,rfl⟩:=hrel;by_cases hlt:k < 256
  ·have Gh:=oG k k hlt;go_wp2
   go_loop [2,8] (fun c j=>∃ i:Nat,i≤8∧j=.int .i64 i∧c=.int .u32 (Ab.steps i k:Nat)) (fun _ j=>8 -(intOf j).toNat)
   case atStart=>exact⟨0,by omega,rfl,rfl⟩
   case round=>
    obtain⟨i,hi,rfl,rfl⟩:=hrel;by_cases axz:i < 8
    ·have hb:Ab.steps i k < 2 ^ 32:=Ab.xD (by omega) i;have h1:=asC _ hb;have h2:=kD (Ab.steps i k / 2) 3988292384 (by omega) (by decide);have h3:=Ab.apo i k;unfold Ab.step at h3;have H1:=Hi h1;have H2:=Hi h2;have H3:=Hi h3;clear h1 h2 h3 Gh;go_wp2_with fail
     ·have ht:(bits BinOp.and IntKind.u32 (↑(Ab.steps i k)) 1 == 1)=true:=(by assumption);rw[H1.out] at ht
      go_round
      case rel=>exact⟨i+1,by omega,by go_num,by rw[H3.out,Ae (by simp at ht;omega)];exact congrArg _ H2.out⟩
      case measure=>simp[intOf];omega
     ·have ht:(bits BinOp.and IntKind.u32 (↑(Ab.steps i k)) 1 == 1)=false:=(by assumption);rw[H1.out] at ht
      go_round
      case rel=>exact⟨i+1,by omega,by go_num,by rw[H3.out,A9 (by simp at ht;omega)];rfl⟩
      case measure=>simp[intOf];omega
    ·obtain rfl:i=8:=(by omega);have JN:=aCW k hlt;unfold Ab.tab at JN;go_wp2;go_roundw
     case rel=>exact⟨k+1,by omega,by go_num,rfl⟩
     case measure=>simp[intOf];omega
  ·obtain rfl:k=256:=(by omega);go_wp2_with (first|(refine wpList_load_row rfl 349 _ rfl w.heap.size rfl 349 (Ni 256) (0,0) _ (AU w _) underlying349 rfl (xH 256) ?_)|(refine wpList_store_row rfl 349 _ _ rfl w.heap.size (Ni 256) rfl rfl 349 (Ni 256) (AU w _) (xH 256) rfl (apu 256) ?_;rw[World.setRow_alloc_new]));exact EO (v:=.agg (Ni 256)) (results_cell_row rfl _ _ w.heap.size 349 _ (0,0) _ rfl (AU w _) underlying349 rfl (xH 256)) rfl ⟨rfl,(Ai _ _).alloc (Ag _) _⟩
end
section
open Go.RowKit
theorem adQ(c:Nat)(h:c < 2 ^ 32):bits .xor .u32 IntKind.u32.max (c:Int)=((Ab.Ur c:Nat):Int):=by
 have e:IntKind.u32.max=((4294967295:Nat):Int):=by decide
 rw[e,kD _ _ (by decide) h]
 congr 1
 unfold Ab.Ur;apply Nat.eq_of_testBit_eq;intro i;have h1:=Nat.testBit_two_pow_sub_succ (x:=c) (n:=32) h i;rw[show 4294967295 -c=2 ^ 32 -(c+1) by omega,h1,Nat.testBit_xor,show(4294967295:Nat)=2 ^ 32 -1 by decide,Nat.testBit_two_pow_sub_one];by_cases hi:i < 32
 ·simp[hi]
 ·simp[hi];exact Nat.testBit_lt_two_pow (Ip h (Nat.pow_le_pow_right (by decide) (by omega)))
theorem aEG:Tryz.zeroCells349.size=(Ni 256).size:=by rw[apt,bX,bX]
theorem azI(c:Nat)(l:List UInt8)(w:World)(hc:c < 2 ^ 32)(hs:l.length≤maxLen):
  Calls prog 273 #[.int .u32 c,l] w (Rt w (.int .u32 (Ab.more c l:Nat))):=by
 unfold maxLen at hs
 go_in
 go_wp2_with fail;refine(aCY _).mono ?_;rintro e w1⟨rfl,hb⟩;go_wp2_with (first|(refine wpList_store_row rfl 349 _ _ rfl w1.heap.size (Ni 256) rfl rfl 349 _ (AU w1 _) (xH 256) aEG (apu 256) ?_;rw[World.setRow_alloc_new]))
 go_loop [0,12] (fun r i=>∃ k:Nat,k≤l.length∧i=.int .i64 k∧r=.int .u32 (Ab.reg (Ab.Ur c) (l.take k):Nat)) (fun _ i=>l.length -(intOf i).toNat)
 case atStart=>exact⟨0,by omega,rfl,by rw[adQ c hc];rfl⟩
 case round=>
  obtain⟨k,hk,rfl,rfl⟩:=hrel;have aX:=Ab.aol (Ab.ann c) (l.take k);by_cases hlt:k < l.length
  ·have hstep:Ab.reg (Ab.Ur c) (l.take (k+1))=(Ab.reg (Ab.Ur c) (l.take k) / 256) ^^^ Ab.tab ((Ab.reg (Ab.Ur c) (l.take k) % 256) ^^^ l[k].toNat):=by
    rw[Ab.asO,apv l k hlt,Ab.aom]
   have HS:=Hi hstep;clear hstep;generalize Ab.reg (Ab.Ur c) (l.take k)=r at*;have awG:=l[k].toNat_lt;have hx:bits .xor .u8 ((r:Int) % 256) (l[k].toNat:Int)=((r % 256 ^^^ l[k].toNat:Nat):Int):=by
    rw[show(r:Int) % 256=((r % 256:Nat):Int) by omega];exact u8_xor_nat _ _ (Nat.mod_lt _ (by decide)) (by omega)
   have hi:r % 256 ^^^ l[k].toNat < 256:=Nat.xor_lt_two_pow (n:=8) (Nat.mod_lt _ (by decide)) (by simpa using awG);have Gh:=oG 256 _ hi;rw[Ae hi] at Gh;have ht:Ab.tab (r % 256 ^^^ l[k].toNat) < 2 ^ 32:=Ab.xD (by omega) 8;have H2:=Hi (kD (r / 256) (Ab.tab (r % 256 ^^^ l[k].toNat)) (by omega) ht);go_wp2
   go_round
   case rel=>exact⟨k+1,by omega,by go_num,by rw[HS.out,←H2.out];rfl⟩
   case measure=>simp[intOf];omega
  ·obtain rfl:k=l.length:=(by omega);go_wp2;go_ret;refine⟨aoo ?_,(hb.alloc hb.size _).mono (Ag _)⟩;rw[D5] at aX;exact adQ _ aX
end
section
open Go.RowKit
theorem amD(k v:Nat):Ab.le (k+1) v=Ab.le k v++[UInt8.ofNat (v / 256 ^ k)]:=by
 induction k generalizing v with
 |zero=>simp[Ab.le]
 |succ k ih=>
  rw[Ab.le,ih (v / 256)];simp only[Ab.le,I5];rw[Nat.div_div_eq_div_mul,Nat.pow_succ,Nat.mul_comm 256]
def RH(k v:Nat):List UInt8:=Ab.le k v++List.replicate (8 -k) 0
theorem amC(k v:Nat)(h:k≤8):(RH k v).length=8:=by simp[RH,Ab.Cb];omega
theorem az6(k v:Nat)(h:k < 8):(RH k v).set k (UInt8.ofNat (v / 256 ^ k))=RH (k+1) v:=by
 unfold RH;rw[amD,show 8 -k=(8 -(k+1))+1 by omega,List.replicate_succ];rw[List.set_append_right _ _ (by rw[Ab.Cb];exact Ag _),Ab.Cb,Nat.sub_self];simp
theorem az7(v n:Nat)(h:n≤8):(RH 8 v).take n=Ab.le n v:=by
 unfold RH;have:∀ m v,n≤m→(Ab.le m v).take n=Ab.le n v:=by
  induction n with
  |zero=>intros;simp[Ab.le]
  |succ n ih=>
   intro m v hm;cases m with
   |zero=>omega
   |succ m=>simp only[Ab.le,List.take_succ_cons];rw[ih (by omega) m _ (by omega)]
 simp[this 8 v h]
theorem aEE:(#[Value.int .u8 0,Value.int .u8 0,Value.int .u8 0,Value.int .u8 0,Value.int .u8 0,Value.int .u8 0,Value.int .u8 0,Value.int .u8 0]:Array Value)=Dk (RH 0 0):=by
 unfold Dk;rfl
theorem kG(v n:Nat)(w:World)(hn:n≤8):
  Calls prog 189 #[.int .u64 v,.int .i64 n] w (Rt w ↑(Ab.le n v)):=by
 go_in
 go_wp2_with fail;rw[aEE]
 go_loopw [7] (fun i wr=>∃ k:Nat,k≤8∧i=.int .i64 k∧wr=w.alloc (Obj.cells (Dk (RH k v)) 318)) (fun i _=>8 -(intOf i).toNat)
 case atStart=>exact⟨0,by omega,rfl,rfl⟩
 case round=>
  obtain⟨k,hk,rfl,rfl⟩:=hrel;by_cases hlt:k < 8
  ·have hs:(Dk (RH k v)).setIfInBounds k (.int .u8 ((v:Int) / 2 ^ (8*k) % 256))=Dk (RH (k+1) v):=by
    rw[←az6 k v hlt,←aDl,Xp,show(256:Nat)=2 ^ 8 from rfl,←Nat.pow_mul]
    norm_cast
   have hg:=iX (RH k v) k (by rw[amC _ _ hk];exact hlt);go_wp2;go_roundw
   case rel=>exact⟨k+1,by omega,by go_num,rfl⟩
   case measure=>simp[intOf];omega
  ·obtain rfl:k=8:=(by omega);have CS:=fun(x:World)=>aBP prog x 318 5 8 n w.heap.size underlying318 (by kernel_rfl) hn
   have NJ:=Xn prog (w.alloc (Obj.cells (Dk (RH 8 v)) 318)) 54 5 9 underlying54 underlying5 underlying9 w.heap.size 0 n 8 (Ab.le n v) (Ab.Cb _ _) (fun i hi=>by
    rw[GQ,E5,iX _ _ (by rw[amC _ _ hk];rw[Ab.Cb] at hi;omega)];simp only[←az7 v n hn,List.getElem_take])
   go_wp2;go_ret;exact⟨rfl,(Ai _ _).alloc (Ag _) _⟩
theorem bO(v n:Nat)(w:World)(hv:v < 256 ^ n)(h1:1≤n)(hn:n≤8):
  Calls prog 208 #[.int .u64 v,.int .i64 n] w (Rt w (.tuple #[(Ab.le n v),.int .i64 0])):=by
 have Gi:v < 18446744073709551616:=Ip hv (by rw[show(18446744073709551616:Nat)=256 ^ 8 from rfl];exact Nat.pow_le_pow_right (by decide) hn);by_cases h8:n < 8
 ·have hq:((v:Int) / 2 ^ (8*n) != 0)=false:=by
   have e:v / 2 ^ (8*n)=0:=(by rw[Nat.pow_mul];exact Nat.div_eq_of_lt hv);have e2:(v:Int) / 2 ^ (8*n)=((v / 2 ^ (8*n):Nat):Int):=(by norm_cast);rw[e2,e];rfl
  go_in
  go_wp2_with fail;refine(kG v n _ hn).mono ?_;rintro e w1⟨rfl,hb⟩;go_wp2;go_ret2;exact⟨rfl,hb⟩
 ·obtain rfl:n=8:=by omega
  go_in
  go_wp2_with fail;refine(kG v 8 _ hn).mono ?_;rintro e w1⟨rfl,hb⟩;go_wp2;go_ret2;exact⟨rfl,hb⟩
theorem aCU(l:List UInt8)(w:World)(hs:l.length≤maxLen):
  Calls prog 238 #[l] w (Rt w (.int .u32 (Ab.sum l:Nat))):=by
 go_in
 go_wp2_with fail;refine(azI 0 l _ (by decide) hs).mono ?_;rintro e w1⟨rfl,hb⟩;go_wp2;go_ret;exact⟨rfl,hb⟩
theorem iN(l:List UInt8)(w:World)(hs:l.length≤1099511627776):
  Calls prog 182 #[l] w (Rt w ↑(Ab.FN l)):=by
 have hlt:=Ab.sum_lt l
 go_in
 go_wp2_with fail;refine(aCU l _ (by unfold maxLen;omega)).mono ?_;rintro e w1⟨rfl,hb⟩;have H:=Hi hlt;go_wp2_with fail;refine(bO (Ab.sum l) 4 _ H (by decide) (by decide)).mono ?_;rintro e w2⟨rfl,Ac⟩;go_wp2;go_ret;exact⟨rfl,hb.trans (Ac.mono hb.size)⟩
theorem ant(l:List UInt8)(w:World)(hs:l.length≤1099511627776):
  Calls prog 228 #[l] w (Rt w (.tuple #[(Ab.EK l).1,.int .i64 (Ab.EK l).2])):=by
 by_cases h4:l.length < 4
 ·have H:Hid (Ab.EK l=([],6)):=Hi (Ae h4)
  go_in
  go_wp2;go_ret2;rw[H.out];exact⟨rfl,Ai _ _⟩
 ·by_cases KX:Ab.FN (l.take (l.length -4))=l
  ·have H:Hid (Ab.EK l=(l.take (l.length -4),0)):=Hi (by unfold Ab.EK;rw[A9 h4,Ae KX]);have hb:(Ab.FN (l.take (l.length -4)) == l)=true:=(by simp[KX]);clear KX
   go_in
   go_wp2_with fail;refine(iN (l.take (l.length -4)) _ (by rw[Bc];omega)).mono ?_;rintro e w1⟨rfl,Ak⟩;go_wp2;go_ret2;rw[H.out];exact⟨rfl,Ak⟩
  ·have H:Hid (Ab.EK l=([],7)):=Hi (by unfold Ab.EK;rw[A9 h4,A9 KX]);have hb:(Ab.FN (l.take (l.length -4)) == l)=false:=(by simp[KX]);clear KX
   go_in
   go_wp2_with fail;refine(iN (l.take (l.length -4)) _ (by rw[Bc];omega)).mono ?_;rintro e w1⟨rfl,Ak⟩;go_wp2;go_ret2;rw[H.out];exact⟨rfl,Ak⟩
theorem wy(v n:Nat)(w:World)(hv:v < 18446744073709551616)(hn:n≤8):
  Calls prog 243 #[.int .u64 v,.int .i64 n] w (Rt w ↑(Ab.le n v)):=by
 go_in
 go_wp2
 go_loopw [0,5,6] (fun q s i wr=>∃ k:Nat,k≤n∧i=.int .i64 k∧q=.int .u64 (v / 256 ^ k:Nat)∧s= ↑(Ab.le k v)∧Bw w wr) (fun _ _ i _=>n -(intOf i).toNat)
 case atStart=>exact⟨0,by omega,rfl,by simp,rfl,Ai _ _⟩
 case round=>
  obtain⟨k,hk,rfl,rfl,rfl,hb⟩:=hrel;by_cases hlt:k < n
  ·have hq:v / 256 ^ k < 18446744073709551616:=Nat.lt_of_le_of_lt (Nat.div_le_self _ _) hv;have HS:=Hi (amD k v);have HD:Hid (v / 256 ^ (k+1)=v / 256 ^ k / 256):=Hi (by rw[Nat.pow_succ,Nat.div_div_eq_div_mul]);generalize v / 256 ^ k=q at*;have NJ:=aem prog wr 54 5 9 5 underlying54 underlying5 underlying9 ((q:Int) % 256) (UInt8.ofNat q) (by rw[Xp];norm_cast);go_wp2;go_roundw
   case rel=>exact⟨k+1,by omega,by go_num,by rw[HD.out];rfl,by rw[HS.out],(hb.alloc hb.size _)⟩
   case measure=>simp[intOf];omega
  ·obtain rfl:k=n:=(by omega);go_wp2;go_ret;exact⟨rfl,hb⟩
theorem aBJ(l:List UInt8)(w:World)(hs:l.length≤maxLen):
  Calls prog 246 #[l] w fun e w'=>e=.returned (.int .u32 (Ab.sum l:Nat))∧w=w':=by
 unfold maxLen at hs
 go_in
 go_wp2
 go_loop [3,4] (fun c i=>∃ k:Nat,k≤l.length∧i=.int .i64 k∧c=.int .u32 (Ab.reg 4294967295 (l.take k):Nat)) (fun _ i=>l.length -(intOf i).toNat)
 case atStart=>exact⟨0,by omega,rfl,rfl⟩
 case round=>
  obtain⟨k,hk,rfl,rfl⟩:=hrel;have aX:=Ab.aol (c:=4294967295) (by decide) (l.take k);by_cases hlt:k < l.length
  ·have HS:Hid (Ab.reg 4294967295 (l.take (k+1))=Ab.steps 8 (Ab.reg 4294967295 (l.take k) ^^^ l[k].toNat)):=Hi (by rw[apv l k hlt,Ab.aom]);generalize Ab.reg 4294967295 (l.take k)=r at*;have hx:bits .xor .u32 (r:Int) ((l[k].toNat:Int) % 4294967296)=((r ^^^ l[k].toNat:Nat):Int):=by
    rw[←kD r l[k].toNat aX (Ab.aar _),Int.emod_eq_of_lt (by omega) (by have:=l[k].toNat_lt;omega)]
   have Gv:r ^^^ l[k].toNat < 2 ^ 32:=Nat.xor_lt_two_pow aX (Ab.aar _);go_wp2_with fail;generalize r ^^^ l[k].toNat=q at*;clear hx
   go_loop [3,5,6] (fun c j _=>∃ i:Nat,i≤8∧j=.int .i64 i∧c=.int .u32 (Ab.steps i q:Nat)) (fun _ j _=>8 -(intOf j).toNat)
   case atStart=>exact⟨0,by omega,rfl,rfl⟩
   case round=>
    obtain⟨i,hi,rfl,rfl⟩:=hrel;by_cases axz:i < 8
    ·have hb:Ab.steps i q < 2 ^ 32:=Ab.xD Gv i;have H2:=Hi (kD (Ab.steps i q / 2) 3988292384 (by omega) (by decide));have h3:=Ab.apo i q;unfold Ab.step at h3;have H3:=Hi h3;clear h3;generalize Ab.steps i q=c at*;by_cases ht:c % 2=1
     ·have hc:((c:Int) % 2 == 1)=true:=(by rw[beq_iff_eq];omega);have HT:=Hi ht;clear ht;go_wp2
      go_round
      case rel=>exact⟨i+1,by omega,by go_num,by rw[H3.out,Ae HT.out];exact congrArg _ H2.out⟩
      case measure=>simp[intOf];omega
     ·have hc:((c:Int) % 2 == 1)=false:=(by rw[Ev];omega);have HT:=Hi ht;clear ht;go_wp2
      go_round
      case rel=>exact⟨i+1,by omega,by go_num,by rw[H3.out,A9 HT.out];rfl⟩
      case measure=>simp[intOf];omega
    ·obtain rfl:i=8:=(by omega);go_wp2
     go_round
     case rel=>exact⟨k+1,by omega,by go_num,by rw[HS.out]⟩
     case measure=>simp[intOf];omega
  ·obtain rfl:k=l.length:=(by omega);go_wp2;go_ret;rw[D5] at aX;exact⟨aoo (adQ _ aX),rfl⟩
theorem xe(l:List UInt8)(w:World)(hs:l.length≤1099511627776):
  Calls prog 187 #[l] w (Rt w ↑(Ab.FN l)):=by
 have hlt:=Ab.sum_lt l
 go_in
 go_wp2_with fail;refine(aBJ l _ (by unfold maxLen;omega)).mono ?_;rintro e w1⟨rfl,rfl⟩;have H:=Hi hlt;go_wp2_with fail;refine(wy (Ab.sum l) 4 _ (Nat.lt_trans H (by decide)) (by decide)).mono ?_;rintro e w2⟨rfl,Ac⟩;go_wp2;go_ret;exact⟨rfl,Ac⟩
theorem aox(l:List UInt8)(w:World)(hs:l.length≤1099511627776):
  Calls prog 241 #[l] w (Rt w (.tuple #[(Ab.EK l).1,.int .i64 (Ab.EK l).2])):=by
 by_cases h4:l.length < 4
 ·have H:Hid (Ab.EK l=([],6)):=Hi (Ae h4)
  go_in
  go_wp2;go_ret2;rw[H.out];exact⟨rfl,Ai _ _⟩
 ·by_cases KX:Ab.FN (l.take (l.length -4))=l
  ·have H:Hid (Ab.EK l=(l.take (l.length -4),0)):=Hi (by unfold Ab.EK;rw[A9 h4,Ae KX]);have hb:(Ab.FN (l.take (l.length -4)) == l)=true:=(by simp[KX]);clear KX
   go_in
   go_wp2_with fail;refine(xe (l.take (l.length -4)) _ (by rw[Bc];omega)).mono ?_;rintro e w1⟨rfl,Ak⟩;go_wp2;go_ret2;rw[H.out];exact⟨rfl,Ak⟩
  ·have H:Hid (Ab.EK l=([],7)):=Hi (by unfold Ab.EK;rw[A9 h4,A9 KX]);have hb:(Ab.FN (l.take (l.length -4)) == l)=false:=(by simp[KX]);clear KX
   go_in
   go_wp2_with fail;refine(xe (l.take (l.length -4)) _ (by rw[Bc];omega)).mono ?_;rintro e w1⟨rfl,Ak⟩;go_wp2;go_ret2;rw[H.out];exact⟨rfl,Ak⟩
end
section
def NW:List UInt8:=List.replicate 64 0
structure A8 where
 n:Nat
 base:Nat→List UInt8
 loose:List (Nat×List UInt8)
 left:Int
 down:Bool
namespace A8
def new(n:Nat):A8:=⟨n,fun _=>NW,[],-1,false⟩
def lay(f:Nat→List UInt8):List (Nat×List UInt8)→Nat→List UInt8
 |[]=>f
 |p :: l=>lay (fun k=>if k=p.1 then p.2 else f k) l
def now(D:A8):Nat→List UInt8:=lay D.base D.loose
def inside(D:A8)(at_ n:Int):Bool:=decide (0≤at_) && decide (0≤n) && decide (at_≤D.n) && decide (n≤D.n -at_)
def text(f:Nat→List UInt8)(k:Nat):Nat→List UInt8
 |0=>[]
 |n+1=>f k++text f (k+1) n
def up(D:A8):Int:=if D.down then 40 else 0
def writes(D:A8)(at_:Nat)(s:List UInt8):Nat→A8×Int
 |0=>(D,0)
 |n+1=>if D.left=0 then({ D with down:=true },40)
  else writes { D with loose:=D.loose++[(at_,s.take 64)],left:=max (D.left -1) (-1) } (at_+1) (s.drop 64) n
def write(D:A8)(at_:Int)(s:List UInt8):A8×Int:=
 if D.down then(D,40) else if s.length % 64=0∧D.inside at_ (s.length / 64:Nat)=true then writes D at_.toNat s (s.length / 64) else(D,2)
def flush(D:A8):A8×Int:=if D.down then(D,40) else({ D with base:=lay D.base D.loose,loose:=[] },0)
def nG(keep:List UInt8):Nat→List (Nat×List UInt8)→List (Nat×List UInt8)
 |_,[]=>[]
 |i,p :: l=>(if keep≠[]∧(keep.getD (i % keep.length) 0).toNat % 2=1 then[p] else[])++nG keep (i+1) l
def kept(D:A8)(keep:List UInt8):List (Nat×List UInt8):=nG keep 0 D.loose
def Od(D:A8)(keep:List UInt8):A8:={ D with base:=lay D.base (D.kept keep),loose:=[],left:= -1,down:=false }
structure Cg(D:A8):Prop where
 n1:1≤D.n
 n2:D.n≤16384
 base:∀ k,k < D.n→(D.base k).length=64
 loose:∀ p∈D.loose,p.1 < D.n∧p.2.length=64
 left: -1≤D.left∧D.left≤9223372036854775807
theorem az2(f:Nat→List UInt8)(a b:List (Nat×List UInt8)):lay f (a++b)=lay (lay f a) b:=by
 induction a generalizing f with
 |nil=>rfl
 |cons p a ih=>exact ih _
theorem amB(f:Nat→List UInt8)(a:List (Nat×List UInt8))(p:Nat×List UInt8):lay f (a++[p])=fun k=>if k=p.1 then p.2 else lay f a k:=by
 rw[az2];rfl
theorem nI{N:Nat}{f:Nat→List UInt8}(hf:∀ k,k < N→(f k).length=64){l:List (Nat×List UInt8)}(hl:∀ p∈l,p.1 < N∧p.2.length=64):∀ k,k < N→(lay f l k).length=64:=by
 induction l generalizing f with
 |nil=>exact hf
 |cons p l ih=>
  refine ih (fun k hk=>?_) (fun q hq=>hl q (Fs _ hq));split
  ·exact(hl p Gl).2
  ·exact hf k hk
theorem oH{N:Nat}{f:Nat→List UInt8}(hf:∀ k,k < N→(f k).length=64)(k n:Nat)(h:k+n≤N):(text f k n).length=64*n:=by
 induction n generalizing k with
 |zero=>rfl
 |succ n ih=>simp only[text,AA];rw[hf k (by omega),ih (k+1) (by omega)];omega
theorem apy(f:Nat→List UInt8)(k n:Nat):text f k (n+1)=text f k n++f (k+n):=by
 induction n generalizing k with
 |zero=>simp[text]
 |succ n ih=>rw[text,ih (k+1),text,DJ,Nat.add_right_comm];rfl
theorem amn{keep:List UInt8}(i:Nat)(l:List (Nat×List UInt8)):∀ p∈nG keep i l,p∈l:=by
 induction l generalizing i with
 |nil=>intro p hp;simp[nG] at hp
 |cons q l ih=>
  intro p hp;simp only[nG,Es] at hp;rcases hp with hp|hp
  ·split at hp
   ·simp at hp;subst hp;exact Gl
   ·simp at hp
  ·exact Fs _ (ih _ p hp)
theorem Cg.new{n:Nat}(h1:1≤n)(h2:n≤16384):Cg (A8.new n):=⟨h1,h2,fun _ _=>by simp[A8.new,NW],fun p hp=>by simp[A8.new] at hp,by simp[A8.new]⟩
theorem Cg.now{D:A8}(h:Cg D):∀ k,k < D.n→(D.now k).length=64:=nI h.base h.loose
theorem Cg.flush{D:A8}(h:Cg D):Cg D.flush.1:=by
 unfold A8.flush;split
 ·exact h
 ·exact⟨h.n1,h.n2,nI h.base h.loose,fun p hp=>by simp at hp,h.left⟩
theorem Cg.Od{D:A8}(h:Cg D)(keep:List UInt8):Cg (D.Od keep):=
 ⟨h.n1,h.n2,nI h.base (fun p hp=>h.loose p (amn 0 _ p hp)),fun p hp=>by simp[A8.Od] at hp,by simp[A8.Od]⟩
theorem Cg.writes{D:A8}(h:Cg D){at_:Nat}{s:List UInt8}{n:Nat}(hn:at_+n≤D.n)(hs:64*n≤s.length):Cg (A8.writes D at_ s n).1:=by
 induction n generalizing D at_ s with
 |zero=>exact h
 |succ n ih=>
  simp only[A8.writes];split
  ·exact⟨h.n1,h.n2,h.base,h.loose,h.left⟩
  ·have akX:=h.left;have hD:Cg { D with loose:=D.loose++[(at_,s.take 64)],left:=max (D.left -1) (-1) }:=by
    refine⟨h.n1,h.n2,h.base,fun p hp=>?_,by show -1≤max (D.left -1) (-1)∧max (D.left -1) (-1)≤9223372036854775807;omega⟩;rcases Es.1 hp with hp|hp
    ·exact h.loose p hp
    ·simp at hp;subst hp;exact⟨by show at_ < D.n;omega,by show(s.take 64).length=64;rw[Bc];omega⟩
   exact ih hD (by show at_+1+n≤D.n;omega) (by rw[CF];omega)
def upd(f:Nat→List UInt8)(i:Nat)(x:List UInt8):Nat→List UInt8:=fun k=>if k=i then x else f k
theorem QE{f g:Nat→List UInt8}(k n:Nat)(h:∀ i,k≤i→i < k+n→f i=g i):text f k n=text g k n:=by
 induction n generalizing k with
 |zero=>rfl
 |succ n ih=>
  simp only[text];rw[h k (Ag _) (by omega),ih (k+1) (fun i h1 h2=>h i (by omega) (by omega))]
theorem Zc(f:Nat→List UInt8)(k m n:Nat):text f k (m+n)=text f k m++text f (k+m) n:=by
 induction m generalizing k with
 |zero=>simp[text]
 |succ m ih=>rw[Nat.add_right_comm,text,ih (k+1),text,DJ,show k+1+m=k+(m+1) by omega]
theorem YW{f:Nat→List UInt8}{k n:Nat}(hf:∀ i,k≤i→i < k+n→(f i).length=64):(text f k n).length=64*n:=by
 induction n generalizing k with
 |zero=>rfl
 |succ n ih=>simp only[text,AA];rw[hf k (Ag _) (by omega),ih (fun i h1 h2=>hf i (by omega) (by omega))];omega
theorem apx{f:Nat→List UInt8}{k n i:Nat}(hf:∀ j,k≤j→j < k+n→(f j).length=64)(hi:i < n):
  (text f k n).take (64*i)=text f k i∧((text f k n).drop (64*i)).take 64=f (k+i)∧(text f k n).drop (64*i+64)=text f (k+(i+1)) (n -(i+1)):=by
 have e:text f k n=text f k i++(f (k+i)++text f (k+(i+1)) (n -(i+1))):=by
  have h1:=Zc f k (i+1) (n -(i+1));rw[show i+1+(n -(i+1))=n by omega] at h1;rw[h1,apy,DJ]
 have l1:(text f k i).length=64*i:=YW (fun j h1 h2=>hf j h1 (by omega));have l2:(f (k+i)).length=64:=hf _ (by omega) (by omega);refine⟨?_,?_,?_⟩
 ·rw[e,Jf l1]
 ·rw[e,Np l1,Jf l2]
 ·rw[e,←DJ,Np (by rw[AA,l1,l2])]
theorem apz{f:Nat→List UInt8}{k n i:Nat}{x:List UInt8}(hf:∀ j,k≤j→j < k+n→(f j).length=64)(hi:i < n)(hx:x.length=64):
  text (upd f (k+i) x) k n=(text f k n).take (64*i)++x++(text f k n).drop (64*i+x.length):=by
 obtain⟨h1,_,h3⟩:=apx hf hi;rw[hx,h1,h3];have hu:∀ j,k≤j→j < k+n→(upd f (k+i) x j).length=64:=fun j a b=>by
  unfold upd;split
  ·exact hx
  ·exact hf j a b
 have h4:=Zc (upd f (k+i) x) k (i+1) (n -(i+1));rw[show i+1+(n -(i+1))=n by omega] at h4;rw[h4,apy];have e1:upd f (k+i) x (k+i)=x:=by simp[upd]
 have e2:text (upd f (k+i) x) k i=text f k i:=QE _ _ (fun j a b=>by unfold upd;rw[A9 (by omega)]);have e3:text (upd f (k+i) x) (k+(i+1)) (n -(i+1))=text f (k+(i+1)) (n -(i+1)):=QE _ _ (fun j a b=>by unfold upd;rw[A9 (by omega)]);rw[e1,e2,e3]
theorem apA(k n:Nat):text (fun _=>NW) k n=List.replicate (64*n) 0:=by
 induction n generalizing k with
 |zero=>rfl
 |succ n ih=>
  rw[text,ih,NW,show 64*(n+1)=64+64*n by omega,List.replicate_append_replicate]
def upTo(f:Nat→List UInt8)(k:Nat):Nat→List UInt8:=fun j=>if j < k then f j else NW
theorem xO{f:Nat→List UInt8}{N:Nat}(hf:∀ i,i < N→(f i).length=64)(k:Nat):∀ i,i < N→(upTo f k i).length=64:=fun i hi=>by
 unfold upTo;split
 ·exact hf i hi
 ·simp[NW]
theorem aDu(f:Nat→List UInt8)(a n:Nat):text (upTo f a) a n=List.replicate (64*n) 0:=by
 rw[←apA a n];exact QE a n (fun i h1 h2=>by unfold upTo;rw[A9 (by omega)])
theorem aDv(f:Nat→List UInt8)(a k n:Nat):text (upTo f (a+(k+1))) a n=text (upd (upTo f (a+k)) (a+k) (f (a+k))) a n:=by
 refine QE a n (fun i h1 h2=>?_);unfold upd upTo;by_cases e1:i=a+k
 ·rw[Ae e1,e1,Ae (by omega)]
 ·rw[A9 e1];by_cases e2:i < a+k
  ·rw[Ae (by omega),Ae e2]
  ·rw[A9 (by omega),A9 e2]
theorem aDt(f:Nat→List UInt8)(a n:Nat):text (upTo f (a+n)) a n=text f a n:=
 QE a n (fun i h1 h2=>by unfold upTo;rw[Ae (by omega)])
theorem az4(f:Nat→List UInt8)(l:List (Nat×List UInt8))(k:Nat)(h:k < l.length):lay f (l.take (k+1))=upd (lay f (l.take k)) l[k].1 l[k].2:=by
 rw[Cr h,amB];rfl
end A8
end
namespace Aw
open Ab (le val FN)
def pad(s:List UInt8):List UInt8:=s++List.replicate ((s.length+63) / 64*64 -s.length) 0
theorem Te(s:List UInt8):(pad s).length=(s.length+63) / 64*64:=by simp[pad];omega
theorem anB(s:List UInt8):(pad s).length % 64=0:=by rw[Te];omega
def Er(s:List UInt8):Option (List UInt8):=if s.length≤65535 then some (le 2 s.length++s) else none
def BL:List (List UInt8)→Option (List UInt8)
 |[]=>some []
 |s :: l=>(Er s).bind fun a=>(BL l).map (a++ ·)
def GM(l:List (List UInt8)):Option (List UInt8):=if l.length≤65535 then(BL l).map (le 2 l.length++ ·) else none
def Ie(l:List (List UInt8)):Option (List UInt8):=(GM l).map fun s=>pad (le 4 s.length++s)
theorem apC(a b:List (List UInt8)):BL (a++b)=(BL a).bind fun x=>(BL b).map (x++ ·):=by
 induction a with
 |nil=>cases h:BL b<;>simp[BL,h]
 |cons s a ih=>
  simp only[I5,BL,ih];cases Er s with
  |none=>rfl
  |some x=>
   cases BL a with
   |none=>rfl
   |some y=>
    cases BL b with
    |none=>rfl
    |some z=>simp
def Ea(s:List UInt8):Option (List UInt8×Nat):=
 if s.length < 2 then none else if 2+val (s.take 2)≤s.length then some ((s.take (2+val (s.take 2))).drop 2,2+val (s.take 2)) else none
def EL:Nat→List UInt8→Option (List (List UInt8)×List UInt8)
 |0,s=>some ([],s)
 |k+1,s=>(Ea s).bind fun p=>(EL k (s.drop p.2)).map fun q=>(p.1 :: q.1,q.2)
def Dv(s:List UInt8):Option (List (List UInt8)):=
 if s.length < 2 then none else(EL (val (s.take 2)) (s.drop 2)).bind fun q=>if q.2=[] then some q.1 else none
theorem bR{s t:List UInt8}{n:Nat}(h:Ea s=some (t,n)):Er t=some (s.take n)∧n≤s.length∧2≤n:=by
 unfold Ea at h;split at h
 ·cases h
 ·split at h
  ·rename_i h1 h2
   simp only[Cu,Nr] at h;obtain⟨rfl,rfl⟩:=h;have hv:val (s.take 2) < 256 ^ 2:=by
    have:=Ab.Jw (s.take 2);rwa[Bc,Iq (by omega)] at this
   have hl:((s.take (2+val (s.take 2))).drop 2).length=val (s.take 2):=(by rw[CF,Bc];omega);refine⟨?_,h2,by omega⟩;unfold Er;rw[hl,Ae (by omega)];have e:le 2 (val (s.take 2))=s.take 2:=by
    have:=Ab.nJ (s.take 2);rwa[Bc,Iq (by omega)] at this
   rw[e]
   congr 1
   generalize val (s.take 2)=v at*;have h3:s.take 2=(s.take (2+v)).take 2:=(by rw[List.take_take,Iq (by omega)]);rw[h3,Lb]
  ·cases h
theorem aeb{k:Nat}{s r:List UInt8}{l:List (List UInt8)}(h:EL k s=some (l,r)):l.length=k∧∃ a,BL l=some a∧a++r=s:=by
 induction k generalizing s l r with
 |zero=>
  simp only[EL,Cu,Nr] at h;obtain⟨rfl,rfl⟩:=h;exact⟨rfl,[],rfl,rfl⟩
 |succ k ih=>
  simp only[EL] at h;cases h1:Ea s with
  |none=>rw[h1] at h;cases h
  |some p=>
   rw[h1] at h;simp only[CU] at h;cases h2:EL k (s.drop p.2) with
   |none=>rw[h2] at h;cases h
   |some q=>
    rw[h2] at h;simp only[EZ,Cu,Nr] at h;obtain⟨rfl,rfl⟩:=h;obtain⟨e1,_,_⟩:=bR (t:=p.1) (n:=p.2) h1;obtain⟨e2,a,e3,e4⟩:=ih (l:=q.1) (r:=q.2) h2;refine⟨by simp[e2],s.take p.2++a,by simp[BL,e1,e3],?_⟩;rw[DJ,e4,Lb]
theorem o7{s:List UInt8}{l:List (List UInt8)}(h:Dv s=some l):GM l=some s:=by
 unfold Dv at h;split at h
 ·cases h
 ·rename_i h0
  cases h1:EL (val (s.take 2)) (s.drop 2) with
  |none=>rw[h1] at h;cases h
  |some q=>
   rw[h1] at h;simp only[CU] at h;split at h
   ·rename_i hq
    simp only[Cu] at h;subst h;obtain⟨e1,a,e2,e3⟩:=aeb (l:=q.1) (r:=q.2) h1;have hv:val (s.take 2) < 256 ^ 2:=by
     have:=Ab.Jw (s.take 2);rwa[Bc,Iq (by omega)] at this
    unfold GM;rw[e1,Ae (by omega),e2];simp only[EZ];have e:le 2 (val (s.take 2))=s.take 2:=by
     have:=Ab.nJ (s.take 2);rwa[Bc,Iq (by omega)] at this
    rw[e,←Eg a,←hq,e3,Lb]
   ·cases h
def LQ(s:List UInt8):Option (List (List UInt8)×Nat):=
 if s.length < 64 then none else if val (s.take 4)≤s.length -4 then
  (Dv ((s.take (4+val (s.take 4))).drop 4)).bind fun l=>
   if pad (s.take (4+val (s.take 4)))=s.take (pad (s.take (4+val (s.take 4)))).length then some (l,(pad (s.take (4+val (s.take 4)))).length) else none
 else none
def mark(gen used:Nat):List UInt8:=pad (FN ([76,79,71,49]++le 8 gen++le 4 used))
theorem OA(gen used:Nat):(mark gen used).length=64:=by
 unfold mark;rw[Te,Ab.RP];simp[Ab.Cb]
def Ju:Nat→List UInt8→Option (List (List (List UInt8)))
 |0,s=>if s=[] then some [] else none
 |k+1,s=>if s=[] then some [] else(LQ s).bind fun p=>(Ju k (s.drop p.2)).map (p.1 :: ·)
theorem aA2{s:List UInt8}{l:List (List UInt8)}{k:Nat}(h:LQ s=some (l,k)):64≤k∧k % 64=0∧k≤s.length:=by
 unfold LQ at h;split at h
 ·cases h
 ·split at h
  ·cases h1:Dv ((s.take (4+val (s.take 4))).drop 4) with
   |none=>rw[h1] at h;cases h
   |some q=>
    rw[h1] at h;simp only[CU] at h;split at h
    ·rename_i h0 h2 h3
     simp only[Cu,Nr] at h;obtain⟨_,rfl⟩:=h;have hl:=congrArg List.length h3;rw[Bc] at hl;have hp:=Te (s.take (4+val (s.take 4)));rw[Bc] at hp;refine⟨by rw[hp];omega,anB _,by omega⟩
    ·cases h
  ·cases h
theorem aB3{f:Nat}{s S:List UInt8}{u:Nat}{l:List (List (List UInt8))}{t:List (List UInt8)}{k:Nat}(hS:S≠[])(h:Ju u s=(Ju (f+1) S).map (l++ ·))(hn:LQ S=some (t,k)):
  Ju u s=(Ju f (S.drop k)).map ((l++[t])++ ·):=by
 rw[h];simp only[Ju,A9 hS,hn,CU,Option.map_map]
 congr 1
 funext q
 simp
theorem aB2{f:Nat}{s S:List UInt8}{u:Nat}{l:List (List (List UInt8))}(hS:S≠[])(h:Ju u s=(Ju (f+1) S).map (l++ ·))(hn:LQ S=none):Ju u s=none:=by
 rw[h];simp[Ju,hS,hn]
theorem aoc(f:Nat):Ju f []=some []:=by cases f<;>rfl
def JQ(s:List UInt8)(n:Nat):Option (Nat×Nat×List (List (List UInt8))):=
 if s.take 64=pad [0] then some (0,0,[]) else
  if s.take 64=mark (val (((s.take 64).take 12).drop 4)) (val (((s.take 64).take 16).drop 12))∧val (((s.take 64).take 16).drop 12)≤n -1 then
   (Ju (val (((s.take 64).take 16).drop 12)) ((s.drop 64).take (64*val (((s.take 64).take 16).drop 12)))).map fun l=>(val (((s.take 64).take 12).drop 4),val (((s.take 64).take 16).drop 12),l)
  else none
end Aw
section
open Go.RowKit Go.Maps
structure A7(F:Nat→Prop)(w w':World):Prop where
 os:w'.os=w.os
 tape:w'.tape=w.tape
 output:w'.output=w.output
 size:w.heap.size≤w'.heap.size
 block:∀ k,k < w.heap.size→¬ F k→w'.heap[k]?=w.heap[k]?
theorem A7.refl(F:Nat→Prop)(w:World):A7 F w w:=⟨rfl,rfl,rfl,Ag _,fun _ _ _=>rfl⟩
theorem A7.of_below{F:Nat→Prop}{w w':World}(h:Bw w w'):A7 F w w':=⟨h.os,h.tape,h.output,h.size,fun k hk _=>h.block k hk⟩
theorem ub{w w':World}(h:Bw w w'):A7 (fun _=>False) w w':=A7.of_below h
theorem A7.trans{F G:Nat→Prop}{a b c:World}(h:A7 F a b)(k:A7 G b c)(hG:∀ i,G i→F i∨a.heap.size≤i):A7 F a c:=
 ⟨k.os.trans h.os,k.tape.trans h.tape,k.output.trans h.output,Ay h.size k.size,fun i hi hF=>(k.block i (Ip hi h.size) (fun g=>by rcases hG i g with f|f;exact hF f;omega)).trans (h.block i hi hF)⟩
theorem A7.mono{F G:Nat→Prop}{a b:World}(h:A7 F a b)(hG:∀ i,F i→G i):A7 G a b:=⟨h.os,h.tape,h.output,h.size,fun i hi hn=>h.block i hi (fun f=>hn (hG i f))⟩
theorem A7.of_grownBy{F:Nat→Prop}{w w':World}{row:Option Nat}(hg:w.grownBy w' row)(hr:∀ k,row=some k→F k):A7 F w w':=
 ⟨hg.os,hg.tape,hg.output,hg.size,fun k hk hF=>hg.block k hk (fun e=>hF (hr k e.symm))⟩
theorem A7.alloc{F:Nat→Prop}{a w:World}(h:A7 F a w)(o:Obj):A7 F a (w.alloc o):=
 h.trans (G:=fun _=>False) (A7.of_below ((Ai _ w).alloc (Ag _) o)) (fun _ f=>f.elim)
theorem A7.drew{F:Nat→Prop}{a w:World}(h:A7 F a w):A7 F a w.drew:=⟨h.os,h.tape,h.output,h.size,h.block⟩
theorem A7.setCell{F:Nat→Prop}{a w:World}(h:A7 F a w){p:Addr}(hp:F p.block∨a.heap.size≤p.block)(v:Value):A7 F a (w.setCell p v):=
 h.trans (G:=fun k=>k=p.block) ⟨rfl,rfl,rfl,by simp[World.setCell],fun k _ hk=>Below.heap_setCell _ _ _ _ hk⟩ (fun i e=>by rw[e];exact hp)
theorem Cz{B:Nat}{F:Nat→Prop}{a w w':World}(h:Below B a w)(k:A7 F w w')(hF:∀ i,F i→B≤i)(hB:B≤w.heap.size):Below B a w':=
 h.trans ⟨k.os,k.tape,k.output,k.size,fun i hi=>k.block i (by omega) (fun f=>by have:=hF i f;omega)⟩
theorem A7.cell{F:Nat→Prop}{w w':World}(h:A7 F w w'){p:Addr}(hp:p.block < w.heap.size)(hF:¬ F p.block):w'.cell? p=w.cell? p:=World.cell?_of_block (h.block p.block hp hF)
def Ja(kv:List (Int×Value))(i:Int):Option Value:=(kv.find? (fun p=>p.1 == i)).map (·.2)
def RB(i:Int)(kv:List (Int×Value)):List (Int×Value):=kv.filter (fun p=>!(p.1 == i))
def Vz(i:Int)(v:Value)(kv:List (Int×Value)):List (Int×Value):=(i,v) :: RB i kv
theorem ayT{i j:Int}(h:j≠i)(kv:List (Int×Value)):Ja (RB i kv) j=Ja kv j:=by
 unfold Ja RB;rw[find_filter_keep];intro p hp;simp at hp ⊢;omega
theorem amt(i:Int)(v:Value)(kv:List (Int×Value)):Ja (Vz i v kv) i=some v:=by simp[Ja,Vz]
theorem ams{i j:Int}(h:j≠i)(v:Value)(kv:List (Int×Value)):Ja (Vz i v kv) j=Ja kv j:=by
 have h2:¬ i=j:=fun e=>h e.symm
 rw[←ayT h kv];simp[Ja,Vz,h2]
theorem ayR{i:Int}{kv:List (Int×Value)}(hn:(kv.map (·.1)).Nodup):(RB i kv).length+(if(Ja kv i).isSome then 1 else 0)=kv.length:=by
 induction kv with
 |nil=>simp[RB,Ja]
 |cons p kv ih=>
  simp only[Ce,JV] at hn;have ih':=ih hn.2;by_cases h:p.1=i
  ·have h0:Ja kv i=none:=by
    unfold Ja;rw[Option.map_eq_none_iff,List.find?_eq_none];intro q hq;simp;intro e;exact hn.1 (by rw[h,←e];exact I6 hq)
   rw[h0] at ih';have e1:RB i (p :: kv)=RB i kv:=(by simp[RB,h]);have e2:Ja (p :: kv) i=some p.2:=(by simp[Ja,h]);rw[e1,e2];simpa using ih'
  ·have e1:RB i (p :: kv)=p :: RB i kv:=(by simp[RB,h]);have e2:Ja (p :: kv) i=Ja kv i:=(by simp[Ja,h]);rw[e1,e2];simp only[BM];omega
theorem ayS{i:Int}{kv:List (Int×Value)}(hn:(kv.map (·.1)).Nodup):((RB i kv).map (·.1)).Nodup:=by
 unfold RB;exact hn.sublist (List.Sublist.map _ List.filter_sublist)
theorem ayV{i:Int}{v:Value}{kv:List (Int×Value)}(hn:(kv.map (·.1)).Nodup):((Vz i v kv).map (·.1)).Nodup:=by
 simp only[Vz,Ce,JV];refine⟨?_,ayS hn⟩;intro h;obtain⟨p,hp,e⟩:=Bv.1 h;have:=(G9.1 hp).2;simp[e] at this
theorem ayU{kv:List (Int×Value)}{i:Int}{v:Value}(h:Ja kv i=some v):(i,v)∈kv:=by
 unfold Ja at h;obtain⟨p,hp,rfl⟩:=Tt.1 h;have h1:=List.find?_some hp;simp at h1;subst h1;exact List.mem_of_find?_eq_some hp
def SK(v:Value):Option (DataW Value×List MemPlace):=some (.held v,[])
def Qb(P:Program)(K:TypeId)(w:World)(m:Nat)(kv:List (Int×Value)):Prop:=
 (kv.map (·.1)).Nodup∧∃ D:DataW Value,w.ownsMap P K SK m kv.length D∧Tidy D∧size D=kv.length∧∀ i z,D.atKey (.int .i64 i) z=(match Ja kv i with|some v=>.held v|none=>z)
section
variable {P:Program}{K T E:TypeId}{w:World}{m:Nat}{kv:List (Int×Value)}
theorem Qb.lt(h:Qb P K w m kv):m < w.heap.size:=h.2.choose_spec.1.lt
theorem Qb.made(w:World):Qb P K (w.alloc (.map #[] 0)) w.heap.size []:=
 ⟨by simp,.map [],World.ownsMap_made w P K SK,tidy_empty,rfl,fun i z=>rfl⟩
theorem Qb.kept{w':World}(h:Qb P K w m kv)(e:w'.heap[m]?=w.heap[m]?):Qb P K w' m kv:=by
 obtain⟨hn,D,⟨es,clock,hb,F,hs,hD⟩,rest⟩:=h;exact⟨hn,D,⟨es,clock,e.trans hb,F,hs,hD⟩,rest⟩
theorem lI{D:DataW Value}{kl:Lit}{o:Option Value}(h:∀ z,D.atKey kl z=(match o with|some v=>.held v|none=>z)):has D kl=o.isSome:=by
 cases o with
 |none=>exact has_false_of_atKey (fun z=>h z)
 |some v=>exact has_true_of_atKey (fun z=>h z)
theorem Qb.lookup(h:Qb P K w m kv)(hk:P.underlying K=some (.int .i64))(ht:P.underlying T=some (.map K E)){z:Value}(hz:(zeroValue E).run P w=.ok z w)(i:Int)(hw:(Lit.int .i64 i).wf=true):
  (Instr.lookup T (.map (some m)) (.int .i64 i) false).run P w=.ok ((Ja kv i).getD z) w:=by
 obtain⟨_,D,hown,_,_,hat⟩:=h;obtain⟨v,ps,hrun,hv⟩:=hown.lookup (int_keyed hk) ht hz (zd:=.held z) (zp:=[]) rfl (keyOf_int_mk hk hw);have e:=hat i (.held z);simp only[SK,Cu,Nr] at hv;rw[e] at hv;rw[hrun];cases hg:Ja kv i with
 |none=>rw[hg] at hv;simp at hv ⊢;exact hv.1
 |some u=>rw[hg] at hv;simp at hv ⊢;exact hv.1
theorem Qb.update(h:Qb P K w m kv)(hk:P.underlying K=some (.int .i64))(ht:P.underlying T=some (.map K E))(i:Int)(hw:(Lit.int .i64 i).wf=true)(v:Value)(Jo:kv.length < maxLen):
  ∃ w',(Instr.mapUpdate T (.map (some m)) (.int .i64 i) v).run P w=.ok () w'∧Qb P K w' m (Vz i v kv)∧w.grownBy w' (some m):=by
 obtain⟨hn,D,hown,Vs,BS,hat⟩:=h;obtain⟨w',hrun,Cf,hg⟩:=hown.update (int_keyed hk) ht Jo (key:=.int .i64 i) (val:=v) (keyOf_int_mk hk hw) (d:=.held v) (ps:=[]) rfl;have Ki:size (D.put (.int .i64 i) (.held v))=(Vz i v kv).length:=by
  rw[size_put Vs,lI (hat i),BS];have:=ayR (i:=i) hn;simp only[Vz,BM];cases Rk:(Ja kv i).isSome<;>simp[Rk] at this ⊢ <;>omega
 refine⟨w',hrun,⟨ayV hn,_,?_,Vs.put (show WideAt.IsKeyLit (.int .i64 i) from trivial) _,Ki,fun j z=>?_⟩,hg⟩
 ·obtain⟨es,clock,hb,F,_,hD⟩:=Cf;refine⟨es,clock,hb,F,?_,hD⟩;rw[←Ki,hD,size_eq,length_sorted];simp
 ·by_cases e:j=i
  ·subst e;rw[atKey_put_same Vs.isMap (show WideAt.IsKeyLit (.int .i64 j) from trivial),amt]
  ·rw[atKey_put_other (fun e'=>e (by cases e';rfl)),ams e];exact hat j z
end
end
section
open Go.RowKit Go.Maps
theorem Ao{w:World}{k:Nat}{o:Obj}(h:w.heap[k]?=some o):k < w.heap.size:=(Dn.1 h).1
def Bf(w:World)(k:Nat)(t:TypeId):Prop:=∃ cs fr,w.heap[k]?=some (.cells cs t fr)
theorem Bf.lt{w:World}{k:Nat}{t:TypeId}(h:Bf w k t):k < w.heap.size:=by
 obtain⟨cs,fr,h⟩:=h;exact Ao h
theorem Bf.upd{F:Nat→Prop}{w w':World}{k:Nat}{t:TypeId}(h:Bf w k t)(hu:A7 F w w')(hF:¬ F k):Bf w' k t:=by
 have hl:=h.lt;obtain⟨cs,fr,h⟩:=h;exact⟨cs,fr,(hu.block k hl hF).trans h⟩
theorem Bf.ne{w:World}{k k':Nat}{t t':TypeId}(h:Bf w k t)(h':Bf w k' t')(ht:t≠t'):k≠k':=by
 rintro rfl;obtain⟨cs,fr,h⟩:=h;obtain⟨cs',fr',h'⟩:=h';rw[h] at h';injection h' with h'
 injection h' with _ h' _
 exact ht h'
theorem bM{w:World}{base e s:Nat}{v:Value}{n:Nat}{xs:List Value}(h:w.ownsRow base e s v n xs){g:Nat}(hg:v.ownBlock=some g):g < w.heap.size:=by
 rcases h.2 with⟨rfl,_⟩|⟨g',cap,cur,rfl,_,Ps,_⟩
 ·simp[Value.ownBlock] at hg
 ·simp[Value.ownBlock] at hg;subst hg;exact(Dn.1 Ps).1
theorem Cx{w:World}{base e s:Nat}{v:Value}{n:Nat}{xs:List Value}(h:w.ownsRow base e s v n xs){g:Nat}(hg:v.ownBlock=some g):Bf w g e:=by
 rcases h.2 with⟨rfl,_⟩|⟨g',cap,cur,rfl,_,Ps,_⟩
 ·simp[Value.ownBlock] at hg
 ·simp[Value.ownBlock] at hg;subst hg;exact⟨_,_,Ps⟩
def Dq(fp fp':Nat→Prop)(w:World):Prop:=∀ k,fp' k→fp k∨w.heap.size≤k
theorem BD{F:Nat→Prop}{w w':World}{base e s:Nat}{v:Value}{n:Nat}{xs:List Value}(h:w.ownsRow base e s v n xs)(hu:A7 F w w')(hF:∀ g,v.ownBlock=some g→¬ F g):w'.ownsRow base e s v n xs:=by
 obtain⟨h1,h2⟩:=h;refine⟨h1,?_⟩;rcases h2 with h2|⟨g,cap,cur,rfl,hg,Ps,rest⟩
 ·exact .inl h2
 ·exact .inr ⟨g,cap,cur,rfl,hg,by rw[hu.block g (Dn.1 Ps).1 (hF g rfl)];exact Ps,rest⟩
theorem add_plain(g i:Nat):(⟨g,0,none⟩:Addr).add i=⟨g,i,none⟩:=by unfold Addr.add;split<;>simp_all
theorem Wt(g o j:Nat):(⟨g,o,none⟩:Addr).add j=⟨g,o+j,none⟩:=by unfold Addr.add;split<;>simp_all
theorem add_zero'(q:Addr):q.add 0=q:=by unfold Addr.add;simp
theorem add_block(q:Addr)(i:Nat):(q.add i).block=q.block:=by unfold Addr.add;split<;>rfl
end
section
open Go.RowKit Go.WideShapes Go.ChangeShapes
theorem Hy(P:Program)(T E:TypeId)(hu:P.underlying T=some (.slice E))(s:Nat)(hs:(P.info? E).map (·.size)=some s)(p:Addr)(n cap k:Nat)(hk:k < n)(W:World):
  (Instr.indexAt T (.slice (some p) n cap) ↑(k:Int)).run P W=.ok (.pointer (some (p.add (k*s)))) W:=by
 cases hq:P.info? E with
 |none=>simp[hq] at hs
 |some i=>
  have h1:i.size=s:=by simpa[hq] using hs
  simp[Instr.indexAt,He hu,asIntOf,sizeOf,typeInfo,hq,h1,hk]
def BytesAt(w:World)(b:Nat)(l:List UInt8):Prop:=
 ∃ C e fr,w.heap[b]?=some (.cells C e fr)∧(∀ i,(h:i < l.length)→C[i]?=some (.int .u8 (l[i].toNat:Int)))∧(l.length≤fr.1∨fr=(0,0))
theorem BytesAt.cell{w:World}{b:Nat}{l:List UInt8}(h:BytesAt w b l)(i:Nat)(hi:i < l.length):w.cell? ⟨b,i,none⟩=some (.int .u8 (l[i].toNat:Int)):=by
 obtain⟨C,e,fr,hb,hc,_⟩:=h;rw[BJ w b i C e fr hb];exact hc i hi
theorem BytesAt.free{w:World}{b:Nat}{l:List UInt8}(h:BytesAt w b l)(i:Nat)(hi:i < l.length):w.frozen? ⟨b,i,none⟩=false:=by
 obtain⟨C,e,⟨f1,f2⟩,hb,_,hf⟩:=h;simp only[Nr] at hf;simp[World.frozen?,hb];omega
theorem BytesAt.set{w:World}{b:Nat}{l:List UInt8}(h:BytesAt w b l)(i:Nat)(x:UInt8):BytesAt (w.setCell ⟨b,i,none⟩ (.int .u8 (x.toNat:Int))) b (l.set i x):=by
 obtain⟨C,e,fr,hb,hc,hf⟩:=h;refine⟨C.setIfInBounds i (.int .u8 (x.toNat:Int)),e,fr,?_,fun j hj=>?_,by simpa using hf⟩
 ·rw[setCell_eq_setRow w b i C e fr _ hb];exact setRow_heap w b C _ e fr hb
 ·simp only[List.length_set] at hj;rw[Array.getElem?_setIfInBounds];have DV:j < C.size:=by
   have:=hc j hj;exact(Dn.1 this).1
  by_cases e1:i=j
  ·subst e1;simp[DV]
  ·rw[A9 e1,hc j hj,List.getElem_set_ne e1]
theorem BytesAt.lt{w:World}{b:Nat}{l:List UInt8}(h:BytesAt w b l):b < w.heap.size:=by
 obtain⟨C,e,fr,hb,_⟩:=h;exact(Dn.1 hb).1
theorem BytesAt.below{w w':World}{b:Nat}{l:List UInt8}(h:BytesAt w b l)(hb:Bw w w'):BytesAt w' b l:=by
 have hlt:=h.lt;obtain⟨C,e,fr,h1,h2⟩:=h;exact⟨C,e,fr,by rw[hb.block b hlt];exact h1,h2⟩
theorem asP(w:World)(l:List UInt8)(e:TypeId):BytesAt (w.drew.alloc (.cells (bytesRow (bs l) (grownCap w l.length 0 e)) e ((bytesRow (bs l) (grownCap w l.length 0 e)).size,(bytesRow (bs l) (grownCap w l.length 0 e)).size+1))) w.heap.size l:=by
 refine⟨_,_,_,heap_alloc_last w.drew _,fun i hi=>?_,?_⟩
 ·exact bytesRow_at (bs l) _ i (by simpa using hi)
 ·left;simp[bytesRow]
@[irreducible] def Cq (k:List UInt8):List Value:=(Dk k).toList
theorem NY(k:List UInt8):(Cq k).length=k.length:=by unfold Cq;simp
theorem iV(k:List UInt8):(Cq k).toArray=Dk k:=by unfold Cq;simp
theorem aeM(k:List UInt8):(Dk k).toList=Cq k:=by unfold Cq;rfl
theorem oJ(k:List UInt8)(i:Nat)(h:i < k.length):(Cq k)[i]?=some (.int .u8 (k[i].toNat:Int)):=by
 unfold Cq;rw[Dx,iX k i h]
theorem oK(k:List UInt8):∀ u∈Cq k,u.oneCell'=true:=by
 unfold Cq;intro u hu;exact(Array.all_eq_true_iff_forall_mem.1 (aeN k)) u (by simpa using hu)
theorem iW(x:UInt8)(k:List UInt8):Cq (x :: k)=.int .u8 (x.toNat:Int) :: Cq k:=by unfold Cq Dk;simp
theorem Zf:Cq []=[]:=by unfold Cq Dk;simp
theorem Ze(a b:List UInt8):Cq (a++b)=Cq a++Cq b:=by unfold Cq Dk;simp
theorem BytesAt.seg{b:Nat}(x:List UInt8):∀ {w:World} {q:List UInt8} (o:Nat),BytesAt w b q→o+x.length≤q.length→BytesAt (w.setCells b o (Cq x)) b (q.take o++x++q.drop (o+x.length)):=by
 induction x with
 |nil=>
  intro w q o h _;rw[Zf];simpa[World.setCells] using h
 |cons a x ih=>
  intro w q o h hl;simp only[BM] at hl;have h1:=ih (o+1) (h.set o a) (by rw[List.length_set];omega);rw[iW];simp only[World.setCells];have e:(q.set o a).take (o+1)++x++(q.set o a).drop (o+1+x.length)=q.take o++a :: x++q.drop (o+(a :: x).length):=by
   have e1:(q.set o a).take (o+1)=q.take o++[a]:=by
    rw[Cr (by rw[List.length_set];omega),List.getElem_set_self,List.take_set_of_le (Ag _)]
   have e2:(q.set o a).drop (o+1+x.length)=q.drop (o+(a :: x).length):=by
    rw[List.drop_set_of_lt (by omega),BM,show o+1+x.length=o+(x.length+1) by omega]
   rw[e1,e2];simp
  rw[←e];exact h1
theorem BytesAt.range{w:World}{b:Nat}{q:List UInt8}(h:BytesAt w b q)(o n:Nat)(hl:o+n≤q.length):w.rangeAt b o (Cq ((q.drop o).take n)):=by
 intro j v hv;have hj:=(Uy.1 hv).1;rw[NY] at hj;rw[oJ _ j hj] at hv;have Rl:j < n:=by rw[Bc] at hj;omega
 rw[h.cell (o+j) (by omega),←hv];simp[List.getElem_take,List.getElem_drop]
theorem BytesAt.there{w:World}{b:Nat}{q:List UInt8}(h:BytesAt w b q)(o n:Nat)(hl:o+n≤q.length):w.there b o n:=fun j hj=>⟨by rw[h.cell (o+j) (by omega)];rfl,h.free (o+j) (by omega)⟩
theorem ahi(w:World)(c:Array Value)(T:TypeId)(q:List UInt8)(hc:∀ i,(h:i < q.length)→c[i]?=some (.int .u8 (q[i].toNat:Int))):BytesAt (w.alloc (.cells c T)) w.heap.size q:=
 ⟨c,T,(0,0),heap_alloc_last w _,hc,.inr rfl⟩
theorem BytesAt.store{w:World}{b:Nat}{q:List UInt8}(h:BytesAt w b q)(P:Program)(o:Nat)(x:List UInt8)(hl:o+x.length≤q.length):
  (storeCells ⟨b,o,none⟩ (Dk x).toList).run P w=.ok () (w.setCells b o (Cq x)):=by
 have ht:=h.there o x.length hl;have:=run_storeCells_cells (P:=P) b o (Cq x) 0 w (fun j hj=>by rw[NY] at hj;simpa using(ht j hj).1) (fun j hj=>by rw[NY] at hj;simpa using(ht j hj).2) (oK x);rw[aeM];simpa using this
theorem aeV(b:Nat):∀ (vs:List Value) (o:Nat) (w:World),(w.setCells b o vs).heap.size=w.heap.size∧(w.setCells b o vs).os=w.os∧(w.setCells b o vs).tape=w.tape∧(w.setCells b o vs).output=w.output∧∀ k,k≠b→(w.setCells b o vs).heap[k]?=w.heap[k]?
 |[],_,_=>⟨rfl,rfl,rfl,rfl,fun _ _=>rfl⟩
 |v :: r,o,w=>by
  obtain⟨h1,h2,h3,h4,h5⟩:=aeV b r (o+1) (w.setCell ⟨b,o,none⟩ v);exact⟨h1.trans (by simp[World.setCell]),h2,h3,h4,fun k hk=>(h5 k hk).trans (Below.heap_setCell _ _ _ _ hk)⟩
theorem below_setCells{B:Nat}{a w:World}(h:Below B a w){b:Nat}(hb:B≤b)(o:Nat)(vs:List Value):Below B a (w.setCells b o vs):=by
 obtain⟨h1,h2,h3,h4,h5⟩:=aeV b vs o w;exact h.trans ⟨h2,h3,h4,by omega,fun k hk=>h5 k (by omega)⟩
theorem atj(P:Program)(src dst e:TypeId)(hs:P.underlying src=some .string)(hd:P.underlying dst=some (.slice e))(he:P.underlying e=some (.int .u8))(w:World)(x:List UInt8):
  ∃ (w1:World) (cap:Nat),(convert src dst ↑x).run P w=.ok (.slice w.heap.size x.length cap) w1∧BytesAt w1 w.heap.size x∧Bw w w1∧w1.heap.size=w.heap.size+1:=by
 have h:=run_bytes_of_string (P:=P) w src dst e (bs x) hs hd he;exact⟨_,_,h,asP w x e,(Ai _ _).drew.alloc (Ag _) _,by simp⟩
theorem run_arrayAt(P:Program)(W:World)(T E:TypeId)(N:Nat)(a:Option Addr)(n c:Nat)(hu:P.underlying T=some (.array N E))(hn:N≤n):(Instr.arrayAt T (.slice a n c)).run P W=.ok (.pointer a) W:=by
 simp[Instr.arrayAt,He hu,show ¬ n < N by omega]
end
section
theorem aip(off:Nat):∀ (l:List Value) (k:Nat) (cs:Array Value) (i:Nat),off+k+l.length≤cs.size→
  ((l.zipIdx k).foldl (fun cs (p:Value×Nat)=>cs.setIfInBounds (off+p.2) p.1) cs)[i]?=if off+k≤i∧i < off+k+l.length then l[i -(off+k)]? else cs[i]?
 |[],k,cs,i,_=>by simp;intro h1 h2;omega
 |v :: l,k,cs,i,h=>by
  simp only[BM] at h;rw[List.zipIdx_cons,List.foldl_cons,aip off l (k+1) _ i (by simp;omega)];simp only[BM];by_cases h1:off+(k+1)≤i∧i < off+(k+1)+l.length
  ·rw[Ae h1,Ae (by omega),show i -(off+k)=(i -(off+(k+1)))+1 by omega,List.getElem?_cons_succ]
  ·rw[A9 h1,Array.getElem?_setIfInBounds];by_cases h2:off+k=i
   ·rw[Ae h2,Ae (by omega),Ae (by omega),show i -(off+k)=0 by omega];rfl
   ·rw[A9 h2,A9 (by omega)]
theorem air(off n:Nat)(v cs:Array Value)(hv:v.size=n)(hl:off+n=cs.size):
  Array.foldl (fun cs (x:Value×Nat)=>cs.setIfInBounds (off+x.snd) x.fst) cs v.zipIdx 0 n=(cs.toList.take off++v.toList).toArray:=by
 have e0:Array.foldl (fun cs (x:Value×Nat)=>cs.setIfInBounds (off+x.snd) x.fst) cs v.zipIdx 0 n=(v.toList.zipIdx 0).foldl (fun cs (p:Value×Nat)=>cs.setIfInBounds (off+p.2) p.1) cs:=by
  have hz:v.zipIdx.size=n:=by simp[hv]
  rw[←Array.toList_zipIdx,Array.foldl_toList,hz]
 rw[e0];apply Array.ext_getElem?;intro j;rw[aip off v.toList 0 cs j (by simp;omega)];have eR:∀ X:List Value,X.toArray[j]?=X[j]? :=fun X=>List.getElem?_toArray
 have eC:cs[j]?=cs.toList[j]? :=Array.getElem?_toList.symm;rw[eC,eR (cs.toList.take off++v.toList)];simp only[Nat.add_zero,Array.length_toList];by_cases a1:j < off
 ·rw[A9 (by omega),List.getElem?_append_left (by simp;omega),List.getElem?_take,Ae a1]
 ·rw[List.getElem?_append_right (by simp;omega)];simp only[Bc,Array.length_toList,Iq (show off≤cs.size by omega)];by_cases a2:j < off+v.size
  ·rw[Ae (by omega)]
  ·rw[A9 (by omega),List.getElem?_eq_none (by simp;omega),List.getElem?_eq_none (by simp;omega)]
theorem auU(n:Nat)(v cs:Array Value)(hv:v.size=n)(hl:cs.size=n):
  Array.foldl (fun cs (x:Value×Nat)=>cs.setIfInBounds x.snd x.fst) cs v.zipIdx 0 n=v:=by
 have h:=air 0 n v cs hv (by omega);simp only[GQ] at h;rw[h];simp
end
section
open Go.RowKit Go.Maps
theorem aoU:(prog.info? 240).map (fun i=>(i.zero,i.size))=some (some (.agg (Dk NW)),64):=by kernel_rfl
theorem aC5(w:World):(zeroValue 240).run prog w=.ok (.agg (Dk NW)) w:=(zero_of_info aoU).1 w
theorem aes:(prog.info? 240).map (·.size)=some 64:=(zero_of_info aoU).2
@[irreducible] def Oz (l:List (Nat×List UInt8)):List Value:=l.flatMap fun p=>Value.int .i64 (p.1:Int) :: Cq p.2
theorem azf(l:List (Nat×List UInt8))(p:Nat×List UInt8):Oz (l++[p])=Oz l++(Value.int .i64 (p.1:Int) :: Cq p.2):=by
 unfold Oz;simp
theorem amL:Oz []=[]:=by unfold Oz;rfl
theorem aze(l:List (Nat×List UInt8))(h:∀ p∈l,p.2.length=64)(k:Nat)(hk:k < l.length)(j:Nat)(hj:j < 65):
  (Oz l)[k*65+j]?=(Value.int .i64 (l[k].1:Int) :: Cq l[k].2)[j]? :=by
 induction l generalizing k with
 |nil=>simp at hk
 |cons p l ih=>
  have e:Oz (p :: l)=(Value.int .i64 (p.1:Int) :: Cq p.2)++Oz l:=by unfold Oz;rfl
  have hlen:(Value.int .i64 (p.1:Int) :: Cq p.2).length=65:=by rw[BM,NY,h p Gl]
  rw[e];cases k with
  |zero=>
   rw[Nat.zero_mul,GQ,List.getElem?_append_left (by omega)];rfl
  |succ k=>
   rw[List.getElem?_append_right (by omega),hlen,show(k+1)*65+j -65=k*65+j by omega];exact ih (fun q hq=>h q (Fs _ hq)) k (by simpa using hk)
@[irreducible] def putRow (p:Nat×List UInt8):Array Value:=(Value.int .i64 (p.1:Int) :: Cq p.2).toArray
theorem bN(p:Nat×List UInt8):(putRow p).toList=Value.int .i64 (p.1:Int) :: Cq p.2:=by unfold putRow;rfl
theorem ae4(p:Nat×List UInt8)(h:p.2.length=64):(putRow p).size=65:=by
 rw[←Array.length_toList,bN,BM,NY,h]
theorem ao1(p:Nat×List UInt8):(putRow p)[0]?=some (.int .i64 (p.1:Int)):=by
 rw[←Dx,bN];rfl
theorem wN(p:Nat×List UInt8):(putRow p).all (·.oneCell')=true:=by
 rw[Array.all_eq_true_iff_forall_mem];intro u hu;have:u∈(putRow p).toList:=by simpa using hu
 rw[bN] at this;rcases Ch.1 this with rfl|h
 ·rfl
 ·exact oK _ u h
theorem ae6:(prog.info? 242).map (fun i=>(i.zero,i.size))=some (some (.agg Tryz.zeroCells242),65):=by kernel_rfl
theorem wS(p:Nat×List UInt8)(h:p.2.length=64):(prog.info? 242).map (·.size)=some (putRow p).size:=by rw[ae4 p h];exact(zero_of_info ae6).2
theorem ae8(p:Nat×List UInt8)(h:p.2.length=64):Tryz.zeroCells242.size=(putRow p).size:=by rw[ae4 p h];kernel_rfl
theorem aAN(w:World)(p:Nat×List UInt8)(T:TypeId):(w.alloc (.cells (putRow p) T)).rangeAt w.heap.size 1 (Cq p.2):=by
 intro j v hv;rw[E5,←Dx,bN,Nat.add_comm 1 j];exact hv
theorem oz(x:List UInt8)(h:x.length=64):(prog.info? 240).map (·.size)=some (Cq x).length:=by rw[NY,h];exact aes
@[irreducible] def QD (i:Int) (x:List UInt8):Array Value:=(Value.int .i64 i :: Cq x).toArray
theorem aAK(a k:Nat)(x:List UInt8):QD ((a:Int)+(k:Int)) x=putRow (a+k,x):=by unfold QD putRow;rfl
theorem ae3(i:Int)(x:List UInt8)(h:x.length=64):(QD i x).size=65:=by
 unfold QD;rw[Kz,BM,NY,h]
theorem wT:Tryz.zeroCells242.size=65:=by kernel_rfl
theorem aAP(i:Int)(x:List UInt8)(h:x.length=64):
  Array.foldl (fun cs (x:Value×Nat)=>cs.setIfInBounds (1+x.snd) x.fst) (Tryz.zeroCells242.setIfInBounds 0 (Value.int .i64 i)) (Dk x).zipIdx 0 64=QD i x:=by
 have hz:(Tryz.zeroCells242.setIfInBounds 0 (Value.int .i64 i)).size=65:=by rw[Array.size_setIfInBounds,wT]
 rw[air 1 64 (Dk x) _ (by simp[h]) (by rw[hz])];have h0:(Tryz.zeroCells242.setIfInBounds 0 (Value.int .i64 i)).toList.take 1=[.int .i64 i]:=by
  apply List.ext_getElem?;intro j;rw[List.getElem?_take];by_cases hj:j < 1
  ·obtain rfl:j=0:=(by omega);rw[Ae hj,Dx,Array.getElem?_setIfInBounds,Ae rfl,Ae (by rw[wT];decide)];rfl
  ·rw[A9 hj,List.getElem?_eq_none (by simp;omega)]
 rw[h0,aeM];unfold QD;rfl
theorem aAQ(Z:Array Value)(i:Int)(x:List UInt8)(h:x.length=64)(hZ:Z.size=65):
  Array.foldl (fun cs (x:Value×Nat)=>cs.setIfInBounds x.snd x.fst) Z (QD i x).zipIdx 0 65=QD i x:=auU 65 _ _ (ae3 i x h) hZ
theorem amN{w:World}{base g n cap:Nat}{l:List (Nat×List UInt8)}(h:w.ownsRow base 242 65 (.slice g n cap) l.length (Oz l))(hl:∀ p∈l,p.2.length=64)(k:Nat)(hk:k < l.length):
  w.rangeAt g (k*65) (Value.int .i64 (l[k].1:Int) :: Cq l[k].2):=by
 intro j v hv;have hj:j < 65:=by
  have:=(Uy.1 hv).1;rw[BM,NY,hl _ (CK hk)] at this;omega
 rw[←aze l hl k hk j hj] at hv;have:=h.cells (g:=g) rfl _ _ hv;have e:(⟨g,0,none⟩:Addr).add (k*65+j)=⟨g,k*65+j,none⟩:=by unfold Addr.add;split<;>simp_all
 rw[e] at this;exact this
theorem wR(p:Nat×List UInt8)(h:p.2.length=64):(prog.info? 242).map (·.size)=some (Value.int .i64 (p.1:Int) :: Cq p.2).length:=by rw[BM,NY,h];exact(zero_of_info ae6).2
theorem wQ(p:Nat×List UInt8):(Value.int .i64 (p.1:Int) :: Cq p.2).toArray=putRow p:=by unfold putRow;rfl
theorem ao5:(prog.info? 242).map (·.size)=some 65:=(zero_of_info ae6).2
def Oa(w:World)(m N:Nat)(f:Nat→List UInt8):Prop:=
 ∃ kv,Qb prog 3 w m kv∧(∀ p∈kv,∃ i:Nat,i < N∧p.1=(i:Int)∧p.2=.agg (Dk (f i)))∧∀ i:Nat,i < N→Ja kv i=none→f i=NW
theorem Oa.lt{w:World}{m N:Nat}{f:Nat→List UInt8}(h:Oa w m N f):m < w.heap.size:=h.choose_spec.1.lt
theorem Oa.kept{w w':World}{m N:Nat}{f:Nat→List UInt8}(h:Oa w m N f)(e:w'.heap[m]?=w.heap[m]?):Oa w' m N f:=by
 obtain⟨kv,h1,h2⟩:=h;exact⟨kv,h1.kept e,h2⟩
theorem Oa.made(w:World)(N:Nat):Oa (w.alloc (.map #[] 0)) w.heap.size N (fun _=>NW):=⟨[],Qb.made w,fun p hp=>by simp at hp,fun _ _ _=>rfl⟩
theorem aqb(i:Nat)(h:i≤16384):(Lit.int .i64 (i:Int)).wf=true:=WalkArith.wf_i64 (by omega)
theorem Oa.get{w:World}{m N:Nat}{f:Nat→List UInt8}(h:Oa w m N f)(i:Nat)(hi:i < N)(hN:N≤16384):
  (Instr.lookup 141 (.map (some m)) ↑(i:Int) false).run prog w=.ok (.agg (Dk (f i))) w:=by
 obtain⟨kv,h1,h2,h3⟩:=h;rw[h1.lookup underlying3 underlying141 (aC5 w) i (aqb i (by omega))];cases hg:Ja kv i with
 |none=>rw[h3 i hi hg];rfl
 |some v=>
  obtain⟨j,_,e1,e2⟩:=h2 _ (ayU hg);simp at e1 e2;have e3:i=j:=by omega
  subst e3;rw[e2];rfl
theorem wu(N:Nat):∀ (l:List Int),l.Nodup→(∀ x∈l,∃ i:Nat,i < N∧x=(i:Int))→l.length≤N:=by
 induction N with
 |zero=>
  intro l _ h;cases l with
  |nil=>simp
  |cons x l=>obtain⟨i,hi,_⟩:=h x Gl;omega
 |succ N ih=>
  intro l hn h;by_cases hm:(N:Int)∈l
  ·have h1:=ih (l.erase (N:Int)) (hn.erase _) (fun x hx=>by
    obtain⟨hne,hx⟩:=(List.Nodup.mem_erase_iff hn).1 hx;obtain⟨i,hi,e⟩:=h x hx;exact⟨i,by have:i≠N:=fun e'=>hne (by rw[e,e']);omega,e⟩)
   rw[List.length_erase_of_mem hm] at h1;omega
  ·have:=ih l hn (fun x hx=>by
    obtain⟨i,hi,e⟩:=h x hx;exact⟨i,by have:i≠N:=fun e'=>hm (by rw[←e',←e];exact hx);omega,e⟩)
   omega
theorem Oa.put{w:World}{m N:Nat}{f:Nat→List UInt8}(h:Oa w m N f)(i:Nat)(hi:i < N)(hN:N≤16384)(x:List UInt8):
  ∃ w',(Instr.mapUpdate 141 (.map (some m)) ↑(i:Int) (.agg (Dk x))).run prog w=.ok () w'∧Oa w' m N (fun k=>if k=i then x else f k)∧w.grownBy w' (some m):=by
 obtain⟨kv,h1,h2,h3⟩:=h;have hlen:kv.length≤N:=by
  have:=wu N (kv.map (·.1)) h1.1 (fun y hy=>by
   obtain⟨p,hp,rfl⟩:=Bv.1 hy;obtain⟨j,hj,e,_⟩:=h2 p hp;exact⟨j,hj,e⟩)
  simpa using this
 obtain⟨w',hrun,hm,hg⟩:=h1.update underlying3 underlying141 i (aqb i (by omega)) (.agg (Dk x)) (by unfold maxLen;omega);refine⟨w',hrun,⟨Vz i (.agg (Dk x)) kv,hm,fun p hp=>?_,fun j hj hg=>?_⟩,hg⟩
 ·rcases Ch.1 hp with rfl|hp
  ·exact⟨i,hi,rfl,by simp⟩
  ·obtain⟨EI,JM⟩:=G9.1 hp;obtain⟨j,hj,e1,e2⟩:=h2 p EI;have hne:¬ j=i:=fun e=>by simp[e1,e] at JM
   exact⟨j,hj,e1,by simp only[A9 hne];exact e2⟩
 ·by_cases e:j=i
  ·subst e;rw[amt] at hg;simp at hg
  ·simp only[A9 e];rw[ams (by omega)] at hg;exact h3 j hj hg
structure Fv(w:World)(b m:Nat)(lv:Value)(D:A8):Prop where
 struct:w.heap[b]?=some (.cells #[(D.n:Int),.map (some m),lv,.int .i64 D.left,D.down] 144)
 base:Oa w m D.n D.base
 loose:w.ownsRow 0 242 65 lv D.loose.length (Oz D.loose)
 mb:m≠b
 lb:lv.ownBlock≠some b
 lm:lv.ownBlock≠some m
 fine:D.Cg
def R7(b m:Nat)(lv:Value)(k:Nat):Prop:=k=b∨k=m∨lv.ownBlock=some k
def BP(w:World)(b:Nat)(D:A8)(fp:Nat→Prop):Prop:=∃ m lv,Fv w b m lv D∧fp=R7 b m lv
theorem Fv.upd{F:Nat→Prop}{w w':World}{b m:Nat}{lv:Value}{D:A8}(h:Fv w b m lv D)(hu:A7 F w w')(hF:∀ k,R7 b m lv k→¬ F k):Fv w' b m lv D:=
 ⟨by rw[hu.block b (Dn.1 h.struct).1 (hF b (.inl rfl))];exact h.struct,h.base.kept (hu.block m h.base.lt (hF m (.inr (.inl rfl)))),BD h.loose hu (fun g hg=>hF g (.inr (.inr hg))),h.mb,h.lb,h.lm,h.fine⟩
theorem BP.upd{F:Nat→Prop}{w w':World}{b:Nat}{D:A8}{fp:Nat→Prop}(h:BP w b D fp)(hu:A7 F w w')(hF:∀ k,fp k→¬ F k):BP w' b D fp:=by
 obtain⟨m,lv,h1,rfl⟩:=h;exact⟨m,lv,h1.upd hu hF,rfl⟩
theorem BP.below{w w':World}{b:Nat}{D:A8}{fp:Nat→Prop}(h:BP w b D fp)(hu:Bw w w'):BP w' b D fp:=h.upd (ub hu) (fun _ _ f=>f)
theorem BP.lt{w:World}{b:Nat}{D:A8}{fp:Nat→Prop}(h:BP w b D fp):∀ k,fp k→k < w.heap.size:=by
 obtain⟨m,lv,h1,rfl⟩:=h;rintro k (rfl|rfl|hk)
 ·exact(Dn.1 h1.struct).1
 ·exact h1.base.lt
 ·exact bM h1.loose hk
theorem BP.fine{w:World}{b:Nat}{D:A8}{fp:Nat→Prop}(h:BP w b D fp):D.Cg:=by obtain⟨m,lv,h1,_⟩:=h;exact h1.fine
def Et(w:World)(b:Nat)(l:List UInt8)(fp:Nat→Prop):Prop:=
 ∃ p v,w.heap[b]?=some (.cells #[.pointer p,v] 210)∧(p=none∨p=some ⟨b,0,none⟩)∧w.ownsRow 0 5 1 v l.length (Cq l)∧v.ownBlock≠some b∧(l=[]→v= ↑())∧fp=fun k=>k=b∨v.ownBlock=some k
theorem Et.made(w:World):Et (w.alloc (.cells #[.pointer none,()] 210)) w.heap.size [] (fun k=>k=w.heap.size∨(Value.slice none 0 0).ownBlock=some k):=
 ⟨none,↑(),AU w _,.inl rfl,⟨by rw[NY];rfl,.inl ⟨rfl,rfl⟩⟩,by simp[Value.ownBlock],fun _=>rfl,rfl⟩
theorem Et.lt{w:World}{b:Nat}{l:List UInt8}{fp:Nat→Prop}(h:Et w b l fp):∀ k,fp k→k < w.heap.size:=by
 obtain⟨p,v,h1,_,h3,_,_,rfl⟩:=h;rintro k (rfl|hk)
 ·exact(Dn.1 h1).1
 ·exact bM h3 hk
theorem Et.own{w:World}{b:Nat}{l:List UInt8}{fp:Nat→Prop}(h:Et w b l fp):fp b:=by
 obtain⟨p,v,_,_,_,_,_,rfl⟩:=h;exact .inl rfl
theorem Et.upd{F:Nat→Prop}{w w':World}{b:Nat}{l:List UInt8}{fp:Nat→Prop}(h:Et w b l fp)(hu:A7 F w w')(hF:∀ k,fp k→¬ F k):Et w' b l fp:=by
 obtain⟨p,v,h1,h2,h3,h4,h5,rfl⟩:=h;exact⟨p,v,by rw[hu.block b (Dn.1 h1).1 (hF b (.inl rfl))];exact h1,h2,BD h3 hu (fun g hg=>hF g (.inr hg)),h4,h5,rfl⟩
theorem asL:∃ j,prog.info? 210=some j∧j.size=2:=by
 have h:(prog.info? 210).map (·.size)=some 2:=by kernel_rfl
 exact Tt.1 h
theorem asK:liesAt prog prog.depth 210 (2 / prog.cellsOf 210) 0 210 1=true:=by kernel_rfl
theorem ZV:(prog.info? 5).map (fun i=>(i.zero,i.size,i.bytes))=some (some (.int .u8 0),1,1):=by kernel_rfl
theorem aaC(b:Nat)(p:Option Addr)(v:Value)(w:World)(hb:w.heap[b]?=some (.cells #[.pointer p,v] 210))(hp:p=none∨p=some ⟨b,0,none⟩):
  Calls prog 204 #[b] w fun e w'=>e=.returned (.tuple #[])∧w'.heap[b]?=some (.cells #[b,v] 210)∧A7 (fun k=>k=b) w w':=by
 obtain⟨j,hj,hjs⟩:=asL;have c0:w.cell? b=some (.pointer p):=by rw[Lib.cell_of_heap hb];rfl
 rcases hp with rfl|rfl
 ·have hf:=Lib.frozen_of_heap hb 0;have hsh:w.shape? b=some (210,2):=by simp[World.shape?,hb]
  go_in
  go_wp2_with fail;rw[Lib.run_to_unsafe w ⟨b,0,none⟩ underlying208 underlying323 hj (by rw[hjs];decide) hsh (Nat.zero_lt_succ 1)];simp only[Result.andThen];rw[Oper.upon_value];go_wp2_with fail;rw[run_callFunc_extern func255 (by kernel_rfl) (by kernel_rfl) (by kernel_rfl) (e:=Extern.AbiNoEscape.same) (by kernel_rfl)];rw[Lib.run_noEscape];simp only[Result.andThen];rw[Oper.upon_value];go_wp2_with fail;rw[Lib.run_from_unsafe w ⟨b,0,none⟩ underlying323 underlying208 hj hsh asK];simp only[Result.andThen];rw[Oper.upon_value];go_wp2_with fail
  go_end0
  exact⟨rfl,Cs w b 0 _ _ _ hb,(A7.refl (fun k=>k=b) w).setCell (p:=⟨b,0,none⟩) (.inl rfl) _⟩
 ·go_in
  go_wp2_with fail;rw[Lib.run_neq_ptr_same w _ underlying208 hj];go_wp2_with fail
  go_end0
  exact⟨rfl,hb,A7.refl _ _⟩
theorem ahf{w:World}{b:Nat}{l:List UInt8}{fp:Nat→Prop}(h:Et w b l fp)(g off c:Nat)(k:List UInt8)(hk:∀ i,(hi:i < k.length)→w.cell? ⟨g,off+i,none⟩=some (.int .u8 (k[i].toNat:Int)))
  (hg:¬ fp g)(hlen:l.length+k.length≤1099511627776)(n:Nat)(hn:k.length=n):
  Calls prog 207 #[b,.slice (some ⟨g,off,none⟩) n c] w fun e w'=>e=.returned (.tuple #[(n:Int),.nilIface])∧∃ fp',Et w' b (l++k) fp'∧A7 fp w w'∧Dq fp fp' w:=by
 obtain⟨p,v,hb,hp,hown,hne,YI,rfl⟩:=h;have qx:=Hi YI;clear YI;obtain⟨i0,hi,AY,AZ,Bb⟩:=Dy ZV;have Om:g≠b:=fun e=>hg (.inl e)
 have HK:=Hi hk;clear hk;subst hn
 go_in
 go_wp2_with fail;refine(aaC b p v _ hb hp).mono ?_;rintro e w1⟨rfl,Ak,G8⟩;have lM:b < w.heap.size:=(Dn.1 hb).1;have LK:w1.ownsRow 0 5 1 v l.length (Cq l):=BD hown G8 (fun q hq e=>hne (by rw[hq,e]));have c1:w1.cell? ⟨b,1,none⟩=some v:=by rw[Lib.cell_of_heap Ak];rfl
 have YH:∀ j u,(Cq k)[j]?=some u→w1.cell? ((⟨g,off,none⟩:Addr).add j)=some u:=by
  intro j u hj;have J7:j < k.length:=by
   have:=(Uy.1 hj).1;rwa[NY] at this
  have e:(⟨g,off,none⟩:Addr).add j=⟨g,off+j,none⟩:=by unfold Addr.add;split<;>simp_all
  have hc:=HK j J7;rw[e,G8.cell (p:=⟨g,off+j,none⟩) (Cv hc) Om,hc];rw[oJ k j J7] at hj;exact hj
 go_wp2_with (at_builtin;refine wpList_append_own_at _ rfl _ _ 54 rfl 0 5 i0 (.int .u8 0) 1 1 underlying54 hi AY AZ Bb rfl (by decide) _ _ _ rfl LK ⟨g,off,none⟩ k.length c (Cq k) rfl (by rw[NY,Nat.mul_one]) YH (oK k) ?c3 ?c4 ?c5 ?_)
 case c3=>unfold maxLen;omega
 case c4=>omega
 case c5=>omega
 intro v' w2 Cf AJ Px hat;have JY:=Hi Px;clear Px;have Ac:w2.heap[b]?=some (.cells #[b,v] 210):=by
  rw[AJ.block b (Ip lM G8.size) (fun e=>hne e.symm)];exact Ak
 have d1:w2.cell? ⟨b,1,none⟩=some v:=by rw[Lib.cell_of_heap Ac];rfl
 have f1:w2.frozen? ⟨b,1,none⟩=false:=Lib.frozen_of_heap Ac 1;have Kj:v'.ownBlock≠some b:=by
  rcases hat with hat|hat
  ·rw[hat];exact hne
  ·rw[hat];intro e;have:=GR e;have:=G8.size;omega
 have Zy:Hid (l++k=[]→v'= ↑()):=Hi (fun e=>by
  obtain⟨e1,e2⟩:=List.append_eq_nil_iff.1 e;exact JY.2 ⟨qx e1,e2⟩)
 obtain⟨ao,n',cap,rfl⟩:∃ ao n' cap,v'=.slice ao n' cap:=by
  rcases Cf.2 with⟨hv,_⟩|⟨g,cap,cur,hv,_⟩
  ·exact⟨_,_,_,hv⟩
  ·exact⟨_,_,_,hv⟩
 clear c1 YH;go_wp2;go_ret2;have ED:A7 (fun k=>k=b∨v.ownBlock=some k) w w2:=(G8.mono (fun i e=>Or.inl e)).trans (A7.of_grownBy (F:=fun k=>k=b∨v.ownBlock=some k) AJ (fun q e=>.inr e)) (fun i e=>.inl e);have Du:=ED.setCell (p:=⟨b,1,none⟩) (.inl (.inl rfl)) (.slice ao n' cap);refine⟨rfl,fun q=>q=b∨(Value.slice ao n' cap).ownBlock=some q,⟨some ⟨b,0,none⟩,.slice ao n' cap,Cs w2 b 1 _ _ _ Ac,.inr rfl,?_,Kj,Zy.out,rfl⟩,Du,?_⟩
 ·rw[AA,Ze];exact BD Cf ((A7.refl (fun q=>q=b) w2).setCell (p:=⟨b,1,none⟩) (.inl rfl) _) (fun q hq e=>Kj (by rw[hq,e]))
 ·rintro q (rfl|hq)
  ·exact .inl (.inl rfl)
  ·rcases hat with hat|hat
   ·exact .inl (.inr (by rw[←hat];exact hq))
   ·rw[hat] at hq;have:=GR hq;exact .inr (by have:=G8.size;omega)
theorem XY{w:World}{b:Nat}{l:List UInt8}{fp:Nat→Prop}(h:Et w b l fp):
  Calls prog 128 #[b] w fun e w'=>e=.returned l∧A7 fp w w':=by
 obtain⟨p,v,hb,hp,hown,hne,Px,rfl⟩:=h;have TV:w.drew.heap[b]?=some (.cells #[.pointer p,v] 210):=hb;have c1:w.drew.cell? ⟨b,1,none⟩=some v:=by rw[Lib.cell_of_heap TV];rfl
 rcases hown.2 with⟨rfl,h0⟩|⟨g,cap,cur,rfl,_,hg,hnc,Qo,DV,ay9⟩
 ·obtain rfl:l=[]:=by simpa using h0
  have hUS:(Builtin.unsafeString_ #[280,3] 9 #[.pointer none,.int .i64 0]).run prog w.drew=.ok (.string .empty) w.drew:=Lib.run_unsafeString_none _ _ _ _ _;have hSD:(Builtin.unsafeSliceData_ #[54] 280 #[.slice none 0 0]).run prog w.drew=.ok (.pointer none) w.drew:=rfl;clear hp hne hown
  go_in
  go_wp2;go_region;all_goals (go_wp2;go_ret;exact⟨rfl,(A7.refl _ _).drew⟩)
 ·by_cases h0:l=[]
  ·have:=Px h0;simp at this
  ·have N8:l.length≠0:=(by simpa using h0);have hSD:(Builtin.unsafeSliceData_ #[54] 280 #[.slice g l.length cap]).run prog w.drew=.ok (.pointer g) w.drew:=Lib.run_unsafeSliceData_row _ _ _ _ _ _ (by omega);have hUS:(Builtin.unsafeString_ #[280,3] 9 #[.pointer g,.int .i64 l.length]).run prog w.drew=.ok ↑l (w.drew.freeze ⟨g,0,none⟩ l.length):=by
    refine Lib.run_unsafeString_row w.drew 280 3 9 5 underlying280 (by kernel_rfl) g cur.size (by have Rj:w.drew.heap[g]?=some (.cells cur 5 (0,0)):=hg;simp[World.shape?,Rj]) l h0 (by omega) (by unfold maxLen at Qo;omega) ?_;intro j x hx;have J7:=(Uy.1 hx).1;have:=hown.cells (g:=g) rfl j (.int .u8 x.toNat) (by rw[oJ l j J7];rw[CZ J7] at hx;rw[GR hx]);exact this
   have Pq:A7 (fun k=>k=b∨(Value.slice g l.length cap).ownBlock=some k) w (w.drew.freeze ⟨g,0,none⟩ l.length):=by
    refine((A7.refl _ w).drew).trans (G:=fun k=>k=g) ?_ (fun i e=>.inl (.inr (by rw[e];rfl)));unfold World.freeze;split
    ·exact A7.refl _ _
    ·refine⟨rfl,rfl,rfl,by simp,fun k _ hF=>?_⟩;simp only[Array.getElem?_modify];rw[A9 (fun e=>hF e.symm)]
   have HF:=Hi Pq;clear hp hne hown Pq
   go_in
   go_wp2;go_region;all_goals (go_wp2;go_ret;exact⟨rfl,HF⟩)
theorem Fv.cells{w:World}{b m:Nat}{lv:Value}{D:A8}(h:Fv w b m lv D):
  w.cell? b=some ↑(D.n:Int)∧w.cell? ⟨b,1,none⟩=some (.map (some m))∧w.cell? ⟨b,2,none⟩=some lv∧w.cell? ⟨b,3,none⟩=some (.int .i64 D.left)∧w.cell? ⟨b,4,none⟩=some ↑D.down∧∀ j,w.frozen? ⟨b,j,none⟩=false:=by
 refine⟨?_,?_,?_,?_,?_,fun j=>CG w b j _ _ h.struct⟩<;>rw[BJ w b _ _ _ _ h.struct]<;>rfl
theorem azZ(n:Nat)(w:World)(h1:1≤n)(h2:n≤16384):
  Calls prog 90 #[.int .i64 n] w fun e w'=>∃ b fp,e=.returned (.tuple #[.pointer (some ⟨b,0,none⟩),.int .i64 0])∧BP w' b (A8.new n) fp∧Bw w w'∧∀ k,fp k→w.heap.size≤k:=by
 have NN:=@run_makeMap prog
 go_in
 go_wp2;go_ret2;refine⟨w.heap.size+1,R7 (w.heap.size+1) w.heap.size ↑(),?_,⟨w.heap.size,↑(),⟨?_,?_,?_,?_,?_,?_,?_⟩,rfl⟩,?_,?_⟩
 ·rfl
 ·exact heap_alloc2_new w _ _
 ·exact(Oa.made w n).kept (heap_alloc_old _ _ (by simp))
 ·exact⟨by simp[A8.new,amL],.inl ⟨rfl,rfl⟩⟩
 ·omega
 ·simp[Value.ownBlock]
 ·simp[Value.ownBlock]
 ·exact A8.Cg.new h1 h2
 ·exact((Ai _ _).alloc (Ag _) _).alloc (by simp) _
 ·rintro k (rfl|rfl|hk)
  ·omega
  ·exact Ag _
  ·simp[Value.ownBlock] at hk
theorem Zg{w:World}{b m:Nat}{lv:Value}{D:A8}(h:Fv w b m lv D):Calls prog 209 #[b] w fun e w'=>e=.returned (.int .i64 D.up)∧w=w':=by
 obtain⟨c0,c1,c2,c3,c4,cf⟩:=h.cells;obtain⟨n,f,l,q,d⟩:=D;simp only at c4;clear c0 c1 c2 c3 cf;cases d
 ·go_in
  go_wp2;go_ret;exact⟨rfl,rfl⟩
 ·go_in
  go_wp2;go_ret;exact⟨rfl,rfl⟩
theorem adn{w:World}{b m:Nat}{lv:Value}{D:A8}(h:Fv w b m lv D)(at_ n:Int)(_h1: -9223372036854775808≤at_)(_h2:at_≤9223372036854775807)(_h3: -9223372036854775808≤n)(_h4:n≤9223372036854775807):
  Calls prog 210 #[b,.int .i64 at_,.int .i64 n] w fun e w'=>e=.returned (.bool (D.inside at_ n))∧w=w':=by
 obtain⟨c0,_,_,_,_,_⟩:=h.cells;have hN:=h.fine.n2;generalize TU:D.n=N at*;have HN:=Hi TU;clear TU;by_cases a1:0≤at_
 ·have d1:decide (0≤at_)=true:=by simpa using a1
  by_cases a2:0≤n
  ·have d2:decide (0≤n)=true:=(by simpa using a2);by_cases a3:at_≤(N:Int)
   ·have d3:decide (at_≤(N:Int))=true:=(by simpa using a3);by_cases a4:n≤(N:Int) -at_
    ·have d4:decide (n≤(N:Int) -at_)=true:=(by simpa using a4);have HI:Hid (D.inside at_ n=true):=Hi (by unfold A8.inside;rw[HN.out,d1,d2,d3,d4];rfl)
     go_in
     go_wp2;go_ret;rw[HI.out];exact⟨rfl,rfl⟩
    ·have d4:decide (n≤(N:Int) -at_)=false:=(by simpa using a4);have HI:Hid (D.inside at_ n=false):=Hi (by unfold A8.inside;rw[HN.out,d1,d2,d3,d4];rfl)
     go_in
     go_wp2;go_ret;rw[HI.out];exact⟨rfl,rfl⟩
   ·have d3:decide (at_≤(N:Int))=false:=(by simpa using a3);have HI:Hid (D.inside at_ n=false):=Hi (by unfold A8.inside;rw[HN.out,d1,d2,d3];rfl)
    go_in
    go_wp2;go_ret;rw[HI.out];exact⟨rfl,rfl⟩
  ·have d2:decide (0≤n)=false:=(by simpa using a2);have HI:Hid (D.inside at_ n=false):=Hi (by unfold A8.inside;rw[d1,d2];rfl)
   go_in
   go_wp2;go_ret;rw[HI.out];exact⟨rfl,rfl⟩
 ·have d1:decide (0≤at_)=false:=by simpa using a1
  have HI:Hid (D.inside at_ n=false):=Hi (by unfold A8.inside;rw[d1];rfl)
  go_in
  go_wp2;go_ret;rw[HI.out];exact⟨rfl,rfl⟩
theorem Z9{w:World}{b:Nat}{D:A8}{fp:Nat→Prop}(h:BP w b D fp):Calls prog 77 #[b] w fun e w'=>e=.returned (D.n:Int)∧w=w':=by
 obtain⟨m,lv,h,rfl⟩:=h;obtain⟨c0,_,_,_,_,_⟩:=h.cells
 go_in
 go_wp2;go_ret;exact⟨rfl,rfl⟩
theorem Fv.set{w:World}{b m:Nat}{lv:Value}{D D':A8}(h:Fv w b m lv D)(i:Nat)(v:Value)
  (hs:(#[.int .i64 (D.n:Int),.map (some m),lv,.int .i64 D.left,.bool D.down]:Array Value).setIfInBounds i v=#[.int .i64 (D'.n:Int),.map (some m),lv,.int .i64 D'.left,.bool D'.down])
  (hn:D'.n=D.n)(hb:D'.base=D.base)(hl:D'.loose=D.loose)(hf:D'.Cg):Fv (w.setCell ⟨b,i,none⟩ v) b m lv D':=by
 have hu:A7 (fun k=>k=b) w (w.setCell ⟨b,i,none⟩ v):=(A7.refl (fun k=>k=b) w).setCell (p:=⟨b,i,none⟩) (.inl rfl) v;refine⟨?_,?_,?_,h.mb,h.lb,h.lm,hf⟩
 ·rw[←hs];exact Cs w b i _ _ v h.struct
 ·rw[hn,hb];exact h.base.kept (hu.block m h.base.lt h.mb)
 ·rw[hl];exact BD h.loose hu (fun g hg e=>h.lb (by rw[hg,e]))
