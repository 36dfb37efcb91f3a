/- FilRep2 WalOpen2 FilNames2 -/
import Derived.Test.YtkmninbcgipliaaGreatDoorV2
import Derived.Maps.RangeWalk
import Derived.Sort.KeysCollected
import Derived.Shelf.SlIter.Nil
import Derived.Shelf.SortM.Plain
import Derived.Shelf.SortM.SortNone
import Derived.Ground.GgzProg
import Derived.Ground.SlgmProg
import Derived.Maps.OwnIn
set_option maxHeartbeats 4000000
set_option maxRecDepth 100000
set_option linter.all false
namespace Go.Proofs.YtkmninbcgipliaaGreatDoor
open Tryz
open Go.RowKit
open Go.Maps
section
open Ag
theorem Yz{kv:List (List UInt8×Value)}(hn:(kv.map (·.1)).Nodup){k:List UInt8}{v:Value}:DU kv k=some v↔(k,v)∈kv:=by
 refine⟨vK,fun hm=>?_⟩
 induction kv with
 |nil=>simp at hm
 |cons p kv ih=>
  simp only[Ca,Js] at hn;unfold DU;rcases Cc.1 hm with e|hm
  ·subst e;simp
  ·have:¬ p.1=k:=fun e=>hn.1 (by rw[e];exact Hu (f:=(·.1)) hm)
   rw[List.find?_cons_of_neg (by simpa using this)];exact ih hn.2 hm
theorem aQ{kv ay:List (List UInt8×Value)}(hn:(kv.map (·.1)).Nodup)(h:kv.Perm ay)(k:List UInt8):DU kv k=DU ay k:=by
 have hn':(ay.map (·.1)).Nodup:=(h.map (·.1)).nodup_iff.1 hn;cases h1:DU kv k with
 |none=>
  cases h2:DU ay k with
  |none=>rfl
  |some v=>
   have:=(Yz hn).2 (h.mem_iff.2 ((Yz hn').1 h2));rw[h1] at this;cases this
 |some v=>exact((Yz hn').2 (h.mem_iff.1 ((Yz hn).1 h1))).symm
theorem adp{kv ay:List (List UInt8×Value)}(h:kv.Perm ay)(k:List UInt8):(Jb k kv).Perm (Jb k ay):=h.filter _
def PE(F:M):List (List UInt8×Value):=F.map fun p=>(p.1,.agg #[.string (bs p.2)])
theorem adq(F:M)(k:List UInt8):DU (PE F) k=(Ag.get F k).map fun s=>.agg #[.string (bs s)]:=by
 induction F with
 |nil=>rfl
 |cons p F ih=>
  unfold DU Ag.get PE;rw[Ca];by_cases h:p.1=k
  ·subst h;simp
  ·rw[List.find?_cons_of_neg (by simpa using h),List.find?_cons_of_neg (by simpa using h)];exact ih
theorem anx(F:M)(k:List UInt8):Jb k (PE F)=PE (del k F):=by
 unfold Jb PE del;rw[List.filter_map];rfl
def CO(w:World)(m:Nat)(F:M):Prop:=Up F∧∃ kv:List (List UInt8×Value),kv.Perm (PE F)∧G9 prog 9 w m kv
theorem aBs:(prog.info? 109).map (fun i=>(i.zero,i.size))=some (some (.agg #[.string ByteArray.empty]),1):=by kernel_rfl
theorem ao5(w:World):(zeroValue 109).run prog w=.ok (.agg #[.string ByteArray.empty]) w:=(zero_of_info aBs).1 w
section
variable {w w':World}{m:Nat}{F:M}
theorem CO.lt(h:CO w m F):m < w.heap.size:=h.2.choose_spec.2.lt
theorem CO.kept(h:CO w m F)(e:w'.heap[m]?=w.heap[m]?):CO w' m F:=by
 obtain⟨h1,kv,h2,h3⟩:=h;exact⟨h1,kv,h2,h3.kept e⟩
theorem CO.upd{P:Nat→Prop}(h:CO w m F)(hu:A7 P w w')(hP:¬ P m):CO w' m F:=h.kept (hu.block m h.lt hP)
theorem CO.below(h:CO w m F)(hb:Bw w w'):CO w' m F:=h.kept (hb.block m h.lt)
theorem CO.made(w:World):CO (w.alloc (.map #[] 0)) w.heap.size []:=⟨Up.nil,[],List.Perm.nil,G9.made w⟩
theorem CO.is(h:CO w m F):∃ es clock,w.heap[m]?=some (.map es clock):=by
 obtain⟨_,kv,_,_,D,⟨es,clock,hm,_⟩,_⟩:=h;exact⟨es,clock,hm⟩
theorem CO.Dl(h:CO w m F){t:TypeId}:¬ Bb w m t:=by
 obtain⟨es,clock,hm⟩:=h.is;rintro⟨cs,fr,hb⟩;rw[hm] at hb;injection hb with hb
 cases hb
theorem CO.nodup{kv:List (List UInt8×Value)}(h2:kv.Perm (PE F))(h1:Up F):(kv.map (·.1)).Nodup:=by
 rw[(h2.map (·.1)).nodup_iff];unfold PE;rw[Kq];exact h1.nodup
theorem CO.lookup(h:CO w m F)(k:List UInt8)(hk:k.length≤maxLen):
  (Instr.lookup 113 (.map (some m)) (.string (bs k)) false).run prog w=.ok (.agg #[.string (bs ((Ag.get F k).getD []))]) w:=by
 obtain⟨h1,kv,h2,h3⟩:=h;rw[h3.lookup underlying9 underlying113 (ao5 w) k hk,aQ (CO.nodup h2 h1) h2,adq];cases Ag.get F k<;>rfl
theorem CO.aB(h:CO w m F)(k:List UInt8)(hk:k.length≤maxLen):
  (Instr.lookup 113 (.map (some m)) (.string (bs k)) true).run prog w=.ok (.tuple #[.agg #[.string (bs ((Ag.get F k).getD []))],.bool (Ag.get F k).isSome]) w:=by
 obtain⟨h1,kv,h2,h3⟩:=h;rw[h3.aB underlying9 underlying113 (ao5 w) k hk,aQ (CO.nodup h2 h1) h2,adq];cases Ag.get F k<;>rfl
theorem CO.update(h:CO w m F)(k v:List UInt8)(hk:k.length≤maxLen)(J2:F.length < maxLen):
  ∃ w',(Instr.mapUpdate 113 (.map (some m)) (.string (bs k)) (.agg #[.string (bs v)])).run prog w=.ok () w'∧CO w' m (put k v F)∧w.grownBy w' (some m):=by
 obtain⟨h1,kv,h2,h3⟩:=h;obtain⟨w',hrun,h4,h5⟩:=h3.update underlying9 underlying113 k hk (.agg #[.string (bs v)]) (by rw[h2.length_eq];unfold PE;rw[BP];exact J2);refine⟨w',hrun,⟨h1.put k v,_,?_,h4⟩,h5⟩;unfold Rc;refine(List.Perm.cons _ ((adp h2 k).trans (by rw[anx]))).trans ?_;exact((aK h1 k v).symm.map fun p=>(p.1,Value.agg #[.string (bs p.2)]))
theorem CO.delete(h:CO w m F)(k:List UInt8)(hk:k.length≤maxLen)(ty:TypeId):
  ∃ w',(Builtin.delete_ #[113,9] ty #[.map (some m),.string (bs k)]).run prog w=.ok (.tuple #[]) w'∧CO w' m (del k F)∧w.grownBy w' (some m):=by
 obtain⟨h1,kv,h2,h3⟩:=h;obtain⟨w',hrun,h4,h5⟩:=h3.delete underlying9 underlying113 k hk ty;exact⟨w',hrun,⟨h1.del k,_,(adp h2 k).trans (by rw[anx]),h4⟩,h5⟩
theorem CO.len(h:CO w m F)(ty:TypeId):(Builtin.len_ #[113] ty #[.map (some m)]).run prog w=.ok (.int .i64 (F.length:Int)) w:=by
 obtain⟨h1,kv,h2,_,D,hown,_,BQ,_⟩:=h;rw[hown.len underlying113 ty,BQ,h2.length_eq];unfold PE;rw[BP]
end
def asR(F:St)(b m x:Nat):Array Value:=#[.pointer (some ⟨b,0,none⟩),.int .i64 (F.log:Int),.int .i64 (F.size:Int),.int .i64 (F.AL:Int),.map (some m),.pointer (some ⟨x,0,none⟩),.int .i64 F.fault]
structure Db(w:World)(y b m x:Nat)(gv:Value)(F:St):Prop where
 struct:w.heap[y]?=some (.cells (asR F b m x) 116)
 map:CO w m F.m
 DL:Cm w x b gv F.w
 fits:F.log≤16384∧F.size≤16384∧1≤F.size∧F.AL≤1
def Tc(y m x:Nat)(gv:Value)(k:Nat):Prop:=k=y∨k=m∨BS x gv k
section
variable {w w':World}{y b m x:Nat}{gv:Value}{F:St}
theorem Db.cells(h:Db w y b m x gv F):
  w.cell? ⟨y,0,none⟩=some (.pointer (some ⟨b,0,none⟩))∧w.cell? ⟨y,1,none⟩=some (.int .i64 (F.log:Int))∧w.cell? ⟨y,2,none⟩=some (.int .i64 (F.size:Int))∧w.cell? ⟨y,3,none⟩=some (.int .i64 (F.AL:Int))∧
  w.cell? ⟨y,4,none⟩=some (.map (some m))∧w.cell? ⟨y,5,none⟩=some (.pointer (some ⟨x,0,none⟩))∧w.cell? ⟨y,6,none⟩=some (.int .i64 F.fault)∧∀ j,w.frozen? ⟨y,j,none⟩=false:=by
 refine⟨?_,?_,?_,?_,?_,?_,?_,fun j=>Dt w y j _ _ h.struct⟩<;>rw[BL w y _ _ _ _ h.struct]<;>rfl
theorem Db.lt(h:Db w y b m x gv F):∀ k,Tc y m x gv k→k < w.heap.size:=by
 rintro k (rfl|rfl|hk)
 ·exact Ao h.struct
 ·exact h.map.lt
 ·exact h.DL.lt k hk
theorem Db.blk(h:Db w y b m x gv F):Bb w y 116:=⟨_,_,h.struct⟩
theorem Cm.kind(h:Cm w x b gv F.w){k:Nat}(hk:BS x gv k):Bb w k 224∨Bb w k 61:=by
 rcases hk with rfl|hk
 ·exact .inl ⟨_,_,h.struct⟩
 ·obtain⟨cs,h1,_⟩:=h.groups;exact .inr (Cn h1 hk)
theorem Db.Yr(h:Db w y b m x gv F):y≠m∧¬ BS x gv y∧¬ BS x gv m:=
 ⟨fun e=>h.map.Dl (e▸h.blk),fun hk=>by
  rcases h.DL.kind hk with e|e
  ·exact Bb.ne h.blk e (by decide) rfl
  ·exact Bb.ne h.blk e (by decide) rfl,fun hk=>by
  rcases h.DL.kind hk with e|e<;>exact h.map.Dl e⟩
theorem Db.upd{P:Nat→Prop}(h:Db w y b m x gv F)(hu:A7 P w w')(hP:∀ k,Bb w k 9→¬ P k)(hG:∀ k,Tc y m x gv k→¬ P k):Db w' y b m x gv F:=
 ⟨(hu.block y (Ao h.struct) (hG y (.inl rfl))).trans h.struct,h.map.upd hu (hG m (.inr (.inl rfl))),h.DL.upd hu hP (fun k hk=>hG k (.inr (.inr hk))),h.fits⟩
theorem Db.below(h:Db w y b m x gv F)(hb:Bw w w'):Db w' y b m x gv F:=h.upd (ub hb) (fun _ _ f=>f) (fun _ _ f=>f)
end
theorem BB.Dl{w:World}{b:Nat}{D:A8}{fp:Nat→Prop}(h:BB w b D fp)(k:Nat)(hk:fp k){t:TypeId}(h1:t≠144)(h2:t≠242):¬ Bb w k t:=by
 obtain⟨m,lv,hI,rfl⟩:=h;rcases hk with rfl|rfl|hk
 ·exact fun hb=>Bb.ne hb ⟨_,_,hI.struct⟩ h1 rfl
 ·obtain⟨kv,⟨_,D',⟨es,clock,hm,_⟩,_⟩,_⟩:=hI.base;rintro⟨cs,fr,hb⟩;rw[hm] at hb;injection hb with hb
  cases hb
 ·exact fun hb=>Bb.ne hb (Cn hI.loose hk) h2 rfl
end
section
open Go.Sort
open Ag
theorem qD(name data:T)(gone:Bool)(w:World)(hn:name.length≤maxLen)(hd:data.length≤maxLen):
  Calls prog 54 #[.agg #[.string (bs name),.string (bs data),.bool gone]] w fun e w'=>e=.returned (.bool (Am.may ⟨name,data,gone⟩))∧Bw w w':=by
 have hb:=(Ai w.heap.size w).alloc (Ae _) (.cells #[.string (bs name),.string (bs data),.bool gone] 57);have HB:=Hi hb;clear hb;unfold maxLen at hn hd;by_cases h1:name=[]
 ·have hv:Hid (Am.may ⟨name,data,gone⟩=false):=Hi (by unfold Am.may Fu;simp[h1]);rw[hv.out];have hne:bs name=ByteArray.empty:=by rw[h1];rfl
  subst h1
  go_in
  go_wp2;go_ret;exact⟨rfl,HB⟩
 ·have he:name.isEmpty=false:=by simpa using h1
  by_cases h2:name.length≤32
  ·have jF:(name.length:Int)≤32:=(by omega);by_cases h3:data.length≤65535
   ·have h3i:(data.length:Int)≤65535:=(by omega);cases gone with
    |false=>
     have hv:Hid (Am.may ⟨name,data,false⟩=true):=Hi (by unfold Am.may Fu;simp[h1,h2,h3]);clear h1;rw[hv.out]
     go_in
     go_wp2;go_ret;exact⟨rfl,HB⟩
    |true=>
     by_cases h4:data=[]
     ·have hv:Hid (Am.may ⟨name,data,true⟩=true):=Hi (by unfold Am.may Fu;simp[h1,h2,h4]);have hf:data.isEmpty=true:=(by simpa using h4);clear h1 h4;rw[hv.out]
      go_in
      go_wp2;go_ret;exact⟨rfl,HB⟩
     ·have hv:Hid (Am.may ⟨name,data,true⟩=false):=Hi (by unfold Am.may Fu;simp[h1,h2,h3,h4]);have hf:data.isEmpty=false:=(by simpa using h4);clear h1 h4;rw[hv.out]
      go_in
      go_wp2;go_ret;exact⟨rfl,HB⟩
   ·have hv:Hid (Am.may ⟨name,data,gone⟩=false):=Hi (by unfold Am.may Fu;simp[h1,h2,h3]);clear h1;have h3i:¬ (data.length:Int)≤65535:=(by omega);rw[hv.out]
    go_in
    go_wp2;go_ret;exact⟨rfl,HB⟩
  ·have hv:Hid (Am.may ⟨name,data,gone⟩=false):=Hi (by unfold Am.may Fu;simp[h1,h2]);clear h1;have jF:¬ (name.length:Int)≤32:=(by omega);rw[hv.out]
   go_in
   go_wp2;go_ret;exact⟨rfl,HB⟩
theorem qE(n:Nat)(w:World)(hn:n < 4294967296):
  Calls prog 140 #[.int .i64 (n:Int)] w fun e w'=>e=.returned (.string (bs (A9.le 4 n)))∧Bw w w':=by
 go_in
 go_wp2_with fail;refine(aJ n 4 _ hn (by decide) (by decide)).mono ?_;rintro e w1⟨rfl,hb⟩;go_wp2;go_ret;exact⟨rfl,hb⟩
theorem qG(s:List UInt8)(w:World)(hs:s.length≤100000000):
  Calls prog 139 #[.string (bs s)] w fun e w'=>e=.returned (.string (bs (Av.pad s)))∧Bw w w':=by
 obtain⟨N,hN⟩:∃ N:Nat,N=(s.length+63) / 64*64:=⟨_,rfl⟩;have hq:((s.length:Int)+64 -1) / 64*64=(N:Int):=by omega
 obtain⟨m,hm⟩:∃ m:Nat,m=N -s.length:=⟨_,rfl⟩;have LJ:(N:Int) -(s.length:Int)=(m:Int):=by omega
 have abC:Hid (Av.pad s=s++List.replicate m 0):=Hi (by unfold Av.pad;rw[←hN,←hm]);have ZN:m≤100:=by omega
 have LK:N≤100000100:=by omega
 obtain⟨C,NY,Af⟩:=aob w m (by omega);have av7:=aP prog (w.alloc (.cells C 5)) 54 5 9 underlying54 underlying5 underlying9 w.heap.size 0 m m (List.replicate m 0) List.length_replicate (fun i h=>by rw[Ha];exact Af.cell i h);clear Af hN hm
 go_in
 go_wp2;go_ret;rw[abC.out];exact⟨rfl,(Ai _ _).alloc (Ae _) _⟩
theorem agS{s:List UInt8}(h:cut s=none)(w:World)(hs:s.length≤1000000000):
  Calls prog 161 #[.string (bs s)] w fun e w'=>e=.returned (.tuple #[.string ByteArray.empty,.string ByteArray.empty,.bool false])∧w=w':=by
 by_cases h0:s.length < 4
 ·clear h
  go_in
  go_wp2;go_ret3;exact⟨rfl,rfl⟩
 ·have Mr:∀ W,(Instr.slice 9 (.string (bs s)) none (some (.int .i64 4)) none).run prog W=.ok (.string (bs (s.take 4))) W:=fun W=>O7 prog W 9 underlying9 s 4 (by omega)
  have KW:(s.take 4).length=4:=by rw[AZ];omega
  have hv:=A9.JS (s.take 4);rw[KW] at hv;have Lp:=Hi (fun(W:World)=>XA (s.take 4) W (by omega) (by omega));unfold cut at h;rw[Ab h0] at h;generalize A9.val (s.take 4)=v at*;have Yh:¬ v≤s.length -4:=fun e=>by rw[Ad e] at h;cases h
  have ac1:v < 4294967296:=hv;have Kk:IntKind.u64.wrap ((s.length:Int) -4)=(s.length:Int) -4:=IntWalk.u64_in _ (by omega);have hvi:(s.length:Int) -4 < (v:Int):=by omega
  clear h KW hv Yh
  go_in
  go_wp2_with fail;refine(Lp _).mono ?_;rintro e w1⟨rfl,rfl⟩;go_wp2;go_ret3;exact⟨rfl,rfl⟩
theorem qw{s p q:List UInt8}(h:cut s=some (p,q))(w:World)(hs:s.length≤1000000000):
  Calls prog 161 #[.string (bs s)] w fun e w'=>e=.returned (.tuple #[.string (bs p),.string (bs q),.bool true])∧Bw w w':=by
 have h0:¬ s.length < 4:=by have:=VT h;omega
 have Mr:∀ W,(Instr.slice 9 (.string (bs s)) none (some (.int .i64 4)) none).run prog W=.ok (.string (bs (s.take 4))) W:=fun W=>O7 prog W 9 underlying9 s 4 (by omega)
 have KW:(s.take 4).length=4:=by rw[AZ];omega
 have hv:=A9.JS (s.take 4);rw[KW] at hv;have Lp:=Hi (fun(W:World)=>XA (s.take 4) W (by omega) (by omega));unfold cut at h;rw[Ab h0] at h;generalize A9.val (s.take 4)=v at*;have Yh:v≤s.length -4:=by
  by_cases e:v≤s.length -4
  ·exact e
  ·rw[Ab e] at h;cases h
 rw[Ad Yh] at h;simp only[Ci,ML] at h;obtain⟨rfl,rfl⟩:=h;have ac1:v < 4294967296:=hv;have Kk:IntKind.u64.wrap ((s.length:Int) -4)=(s.length:Int) -4:=IntWalk.u64_in _ (by omega);have LX:IntKind.u64.wrap (4+(v:Int))=4+(v:Int):=IntWalk.u64_in _ (by omega);have hvi:(v:Int)≤(s.length:Int) -4:=by omega
 have hcu:∀ W,(Instr.slice 9 (.string (bs s)) (some (.int .i64 4)) (some (.int .u64 (4+(v:Int)))) none).run prog W=.ok (.string (bs ((s.take (4+v)).drop 4))) W:=fun W=>by
  have:=ani prog W 9 underlying9 s 4 (4+v) (by omega) (by omega);rw[Int.natCast_add] at this;exact this
 have XO:∀ W,(Instr.slice 9 (.string (bs s)) (some (.int .u64 (4+(v:Int)))) none none).run prog W=.ok (.string (bs (s.drop (4+v)))) W:=fun W=>by
  have g2:(4:Int)+(v:Int)≤(s.length:Int):=by omega
  have g3:((4:Int)+(v:Int)).toNat=4+v:=by omega
  have g4:(0:Int)≤4+(v:Int):=by omega
  simp[Instr.slice,Hd underlying9,Instr.sliceBounds,run_sliceBound,go_sem,g2,g3,g4]
 clear KW hv Yh
 go_in
 go_wp2_with fail;refine(Lp _).mono ?_;rintro e w1⟨rfl,rfl⟩;go_wp2;go_region;go_wp2;go_ret3;exact⟨rfl,(Ai _ _).drew⟩
theorem aha(AL num:Nat)(w:World)(ha:AL≤1)(hn:num < 18446744073709551616):
  Calls prog 142 #[.int .i64 (AL:Int),.int .u64 (num:Int)] w fun e w'=>e=.returned (.string (bs (Ag.mark AL num)))∧Bw w w':=by
 have HN:=Hi hn;have aja:({ data:=#[70,73,76,49] }:ByteArray)=bs [70,73,76,49]:=rfl;clear hn
 go_in
 go_wp2_with fail;refine(aJ num 8 _ (by have:=HN.out;exact this) (by decide) (by decide)).mono ?_;rintro e w1⟨rfl,Aj⟩;have HB1:=Hi Aj;clear Aj;have UJ:=adg prog w1 54 5 9 5 underlying54 underlying5 underlying9 (AL:Int) (UInt8.ofNat AL) (by rw[YC,Nat.mod_eq_of_lt (by omega)]);go_wp2_with fail;refine(gF (70 :: 73 :: 76 :: 49 :: UInt8.ofNat AL :: A9.le 8 num) _ (by simp[A9.C9])).mono ?_;rintro e w3⟨rfl,Ap⟩;have Au:=Hi ((HB1.alloc HB1.size _).trans (Ap.mono (by have:=HB1.size;rw[Ay];omega)));clear Ap UJ;go_wp2_with fail;refine(qG (A9.Fx (70 :: 73 :: 76 :: 49 :: UInt8.ofNat AL :: A9.le 8 num)) _ (by rw[A9.Sl];simp[A9.C9])).mono ?_;rintro e w4⟨rfl,AB⟩;have AX:=bH Au AB;clear AB;go_wp2;go_ret;exact⟨rfl,AX⟩
theorem agO(v:Value)(log size AL:Nat)(w:World)(h1:log≤16384)(h2:size≤16384)(h3:AL≤1):
  Calls prog 138 #[.agg #[v,.int .i64 (log:Int),.int .i64 (size:Int),.int .i64 (AL:Int)],.int .i64 (AL:Int)] w fun e w'=>e=.returned (.int .i64 ((CV log size AL:Nat):Int))∧Bw w w':=by
 have hb:=(Ai w.heap.size w).alloc (Ae _) (.cells #[v,.int .i64 (log:Int),.int .i64 (size:Int),.int .i64 (AL:Int)] 112);have HB:=Hi hb;clear hb;have hp:(AL:Int)*(size:Int)≤16384∧0≤(AL:Int)*(size:Int):=by
  rcases Nat.lt_or_ge AL 1 with e|e
  ·obtain rfl:AL=0:=(by omega);omega
  ·obtain rfl:AL=1:=(by omega);omega
 obtain⟨Fs,JI⟩:=hp;have he:Hid (((CV log size AL:Nat):Int)=1+(log:Int)+(AL:Int)*(size:Int)):=Hi (by unfold CV;rw[Int.natCast_add,Int.natCast_add,Int.natCast_mul];rfl);have hm:IntKind.i64.wrap ((AL:Int)*(size:Int))=(AL:Int)*(size:Int):=ET _ (by omega);have LJ:IntKind.i64.wrap (1+(log:Int)+(AL:Int)*(size:Int))=1+(log:Int)+(AL:Int)*(size:Int):=ET _ (by omega);rw[he.out]
 go_in
 go_wp2;go_ret;exact⟨rfl,HB⟩
section
variable {w:World}{y b m x:Nat}{gv:Value}{F:St}
theorem asP(h:Db w y b m x gv F)(k:T)(hk:k.length≤maxLen):
  Calls prog 16 #[.pointer (some ⟨y,0,none⟩),.string (bs k)] w fun e w'=>e=.returned (.tuple #[.string (bs ((Ag.get F.m k).getD [])),.bool (Ag.get F.m k).isSome])∧Bw w w':=by
 have hl:=h.map.aB k hk;obtain⟨_,_,_,_,c4,_⟩:=h.cells;clear h hk;generalize Ag.get F.m k=r at*;generalize r.isSome=u at*
 go_in
 go_wp2;go_ret2;exact⟨rfl,(Ai _ _).alloc (Ae _) _⟩
theorem ahh(h:Db w y b m x gv F):
  Calls prog 58 #[.pointer (some ⟨y,0,none⟩)] w fun e w'=>e=.returned (.int .i64 (F.room:Int))∧w=w':=by
 obtain⟨_,_,c2,_⟩:=h.cells;obtain⟨_,h2,h3,_⟩:=h.fits;have he:Hid ((F.room:Int)=(F.size:Int)*64 -4):=Hi (by unfold St.room;omega);rw[he.out];clear h;generalize F.size=n at*
 go_in
 go_wp2;go_ret;exact⟨rfl,rfl⟩
end
theorem arJ{F:M}(hu:Up F){ss:List T}(hp:ss.Perm (F.map (·.1))):(ss.map fun k=>8+k.length+((Ag.get F k).getD []).length).sum=(F.map cost).sum:=by
 rw[(hp.map _).sum_nat,Kq]
 congr 1
 apply P8;intro p hp
 show 8+p.1.length+((Ag.get F p.1).getD []).length=cost p
 rw[get_mem hu (v:=p.2) hp];rfl
theorem anC(kv:List (List UInt8×Value))(x:List UInt8):x∈kv.map (·.1)↔(DU kv x).isSome=true:=by
 unfold DU;rw[Option.isSome_map,List.find?_isSome,Bz];constructor
 ·rintro⟨p,hp,rfl⟩;exact⟨p,hp,by simp⟩
 ·rintro⟨p,hp,h⟩;exact⟨p,hp,by simpa using h⟩
theorem G9.keyed{w:World}{m:Nat}{kv:List (List UInt8×Value)}(h:G9 prog 9 w m kv):∃ D:DataW Value,w.ownsMap prog 9 RN m kv.length D∧Maps.size D=kv.length∧(kv.map (·.1)).Perm (strKeys D):=by
 obtain⟨hn,D,hown,_,BQ,hat⟩:=h;refine⟨D,hown,BQ,Collected.perm (left:=fun _=>false) ⟨hn,fun x=>?_⟩ hown (string_keyed underlying9) underlying9 (fun _=>rfl)⟩;rw[jV (hat x),anC];simp
theorem agZ(F:M):(PE F).map (·.1)=F.map (·.1):=by unfold PE;rw[Kq];rfl
def QB(F:M)(ss:List T):Nat:=(ss.map fun k=>8+k.length+((Ag.get F k).getD []).length).sum
theorem asL(F:M)(ss:List T)(k s:T)(h:Ag.get F k=some s):QB F (ss++[k])=QB F ss+(8+k.length+s.length):=by
 unfold QB;rw[CK,Lg];simp[h]
theorem asK(F:M)(ss:List T)(h:∀ k∈ss,∃ s,Ag.get F k=some s):QB F ss≤ss.length*used F:=by
 induction ss with
 |nil=>simp[QB]
 |cons k ss ih=>
  obtain⟨s,hs⟩:=h k Gf;have h1:=ih (fun x hx=>h x (F9 _ hx));have h2:=aop (get_some hs);have e:QB F (k :: ss)=(8+k.length+s.length)+QB F ss:=by unfold QB;rw[Ca,DR,hs];rfl
  unfold cost at h2;rw[e,BG,Nat.succ_mul];simp only at h2;omega
theorem atF{w:World}{m:Nat}{F:M}(h:CO w m F)(hc:used F≤1000000000):
  Calls prog 57 #[.map (some m)] w fun e w'=>e=.returned (.int .i64 (used F:Int))∧Bw w w':=by
 have hlt:=h.lt;obtain⟨hu,kv,ZQ,hn,D,hown,ht,BQ,hat⟩:=h;have hlen:=Rf F;have Dw:kv.length=F.length:=by rw[ZQ.length_eq];unfold PE;rw[BP]
 have HG:=Hi (fun(x:T)=>(aQ hn ZQ x).trans (adq F x));have HU:=Hi (show used F=4+(F.map cost).sum from rfl);have EM:=Hi hu;have IV:=Hi hat;have HP:=Hi ZQ;have HN:=Hi hn;have HC:=Hi hc;have NA:=Hi hlen;have DX:=Hi BQ;have KD:=Hi Dw;have Oh:=Hi hlt;have aeX:=Hi hown;clear hu ZQ hn ht hat hc hlen BQ Dw hlt
 go_in
 go_wp2_with (first
  |(at_range;refine wpList_range_own _ rfl _ 113 rfl 9 109 (string_keyed underlying9) underlying113 _ m _ _ rfl hown ?_;intro w0 awe ZC TF)
  |fail)
 go_frame
 clear hown
 go_loopw [3] (fun n wr=>∃ (left:Lit→Bool) (cnt:Nat) (ss:List T),wr.ranges prog 9 RN m w.heap.size kv.length D left cnt∧Collected D left ss∧ss.length+cnt≤kv.length∧(∀ k∈ss,∃ s,Ag.get F k=some s)∧n=.int .i64 ((4+QB F ss:Nat):Int)∧Bw w wr)
  (fun _ wr=>wr.rangeLeft m w.heap.size)
 case atStart=>exact⟨_,_,[],awe,Collected.start D,by rw[←DX.out];simp,by simp,rfl,(Ai _ _).grown ZC (Ae _) (fun j hj=>by cases hj)⟩
 case round=>
  obtain⟨left,cnt,ss,tu,hC,rP,hall,rfl,hb⟩:=hrel;have BN:=asK F ss hall;have hcb:QB F ss≤125000000*1000000000:=Aw BN (Nat.mul_le_mul (by have:=NA.out;have:=HC.out;have:=KD.out;omega) HC);have Ql:=Hi hC;have Fb:=Hi hall;have HB:=Hi hb;have Ui:=Hi tu;have SF:=Hi rP;clear BN hC hall hb rP
  go_wp2_with (first
   |(at_next;refine wpList_next_ranges _ rfl _ rfl 9 (string_keyed underlying9) RN encStr id (fun key kl hk=>by obtain⟨x,hx,_⟩:=Maps.keyOf_str underlying9 hk;exact⟨x,hx⟩) (fun v _ _=>⟨v,rfl⟩) m w.heap.size kv.length _ _ _ rfl tu ?_ ?_)
   |fail)
  ·intro dO Mt;clear tu;go_wp2;go_ret;have hp:=Ql.perm aeX (string_keyed underlying9) underlying9 Mt;have hk:(kv.map (·.1)).Perm (strKeys D):=Collected.perm (left:=fun _=>false) ⟨HN,fun x=>by rw[jV (IV x),anC];simp⟩ aeX (string_keyed underlying9) underlying9 (fun _=>rfl);have I6:ss.Perm (F.map (·.1)):=(hp.trans hk.symm).trans (by rw[←agZ];exact HP.map _);have he:QB F ss=(F.map cost).sum:=arJ EM I6;exact⟨by rw[HU.out,←he];rfl,HB⟩
  ·intro x c kl yd yp w2 cnt2 dX IL hv hat aki hlt Ef Mx Zz;obtain⟨x',ex,rfl,Gq⟩:=Maps.keyOf_str underlying9 dX;obtain rfl:x=x':=encStr_inj ex;have J4:(DataW.held c:DataW Value)=yd:=by injection hv with hv;injection hv
   subst J4;obtain⟨s,hs,rfl⟩:∃ s,Ag.get F x=some s∧c=.agg #[.string (bs s)]:=by
    have h1:=IV x .nil;rw[hat .nil,HG x] at h1;cases hg:Ag.get F x with
    |none=>rw[hg] at h1;cases h1
    |some s=>
     rw[hg] at h1;refine⟨s,rfl,?_⟩;injection h1
   have HS:=Hi hs;have Qk:=Hi (Ql.step IL hat);have af4:=Hi (aki.alloc (.cells #[.string (bs s)] 109));have aeQ:=Hi hlt;have Ak:=Hi (HB.grown Ef HB.size (fun j hj=>by cases hj;exact Ae _));have Au:=Hi (Ak.alloc Ak.size (.cells #[.string (bs s)] 109));have CG:s.length+12+x.length≤used F:=(by have:=aop (get_some hs);unfold cost at this;simp only at this;omega);have MB:Hid (QB F (ss++[x])=QB F ss+(8+x.length+s.length)):=Hi (asL F ss x s hs);have EE:=Hi HC.out;have hxb:x.length≤1000000000:=(by have:=HC.out;omega);have RV:s.length≤1000000000:=(by have:=HC.out;omega);have zW:encStr x=.string (bs x):=rfl
   have XZ:Hid (∀ k∈ss++[x],∃ s,Ag.get F k=some s):=Hi (fun k hk=>by
    rcases Eh.1 hk with hk|hk
    ·exact Fb k hk
    ·rw[FJ] at hk;subst hk;exact⟨s,hs⟩)
   rw[zW] at Zz;clear tu dX ex hv hat aki hlt Ef Mx hs IL;simp only[zW];clear zW;go_wp2;go_roundw
   case rel=>exact⟨_,cnt2,ss++[x],af4,Qk,by have:=aeQ.out;have:=SF.out;rw[AA,Le];omega,XZ.out,by rw[MB.out];go_num,Au⟩
   case measure=>rw[af4.left_eq,Ui.left_eq];exact aeQ.out
end
section
open Av
def A8.TT(D:A8)(a n:Int):Option BD×Int:=
 if n < 2∨a < 0∨(D.n:Int) < a∨(D.n:Int) -a < n then(none,2)
 else if D.down then(none,40)
 else match Jq (A8.text D.now a.toNat n.toNat) n.toNat with
  |none=>(none,50)
  |some (g,u,l)=>(some ⟨a.toNat,n.toNat,g,u,l,0⟩,0)
def VM(w:World)(b:Nat)(D:A8)(a n:Int)(e:Ending)(w':World):Prop:=
 match D.TT a n with
 |(none,k)=>e=.returned (.tuple #[.pointer none,.int .i64 k])∧Bw w w'
 |(some L,k)=>∃ x gv,e=.returned (.tuple #[.pointer (some ⟨x,0,none⟩),.int .i64 k])∧Cm w' x b gv L∧Bw w w'∧∀ q,BS x gv q→w.heap.size≤q
theorem Yu{w w':World}{b:Nat}{D:A8}{a n k:Int}{e:Ending}(h:D.TT a n=(none,k))(he:e=.returned (.tuple #[.pointer none,.int .i64 k]))(hb:Bw w w'):VM w b D a n e w':=by
 unfold VM;rw[h];exact⟨he,hb⟩
theorem am5{w w':World}{b:Nat}{D:A8}{a n k:Int}{L:BD}{e:Ending}{x:Nat}{gv:Value}(h:D.TT a n=(some L,k))(he:e=.returned (.tuple #[.pointer (some ⟨x,0,none⟩),.int .i64 k]))(hw:Cm w' x b gv L)(hb:Bw w w')(hn:∀ q,BS x gv q→w.heap.size≤q):VM w b D a n e w':=by
 unfold VM;rw[h];exact⟨x,gv,he,hw,hb,hn⟩
theorem adf:(prog.info? 61).map (fun i=>(i.zero,i.size,i.bytes))=some (some (.slice none 0 0),1,24):=by kernel_rfl
theorem aCs{w:World}{b:Nat}{D:A8}{fp:Nat→Prop}(h:BB w b D fp)(a n:Int)(ha: -9223372036854775808≤a∧a≤9223372036854775807)(hn: -9223372036854775808≤n∧n≤9223372036854775807)
  (NL:n < 2∨a < 0∨(D.n:Int) < a∨(D.n:Int) -a < n):
  Calls prog 79 #[.pointer (some ⟨b,0,none⟩),.int .i64 a,.int .i64 n] w fun e w'=>VM w b D a n e w':=by
 have hO:Hid (D.TT a n=(none,2)):=Hi (by unfold A8.TT;rw[Ad NL]);have hN:=h.fine.n2;have H:=Hi h;clear h;generalize Tj:(D.n:Int)=N at*;have HN:=Hi Tj;have hN2:0≤N∧N≤16384:=by omega
 clear Tj hN;by_cases h1:n < 2
 ·go_in
  go_wp2;go_ret2;exact Yu hO.out rfl (Ai _ _)
 by_cases h2:a < 0
 ·go_in
  go_wp2;go_ret2;exact Yu hO.out rfl (Ai _ _)
 by_cases h3:N < a
 ·go_in
  go_wp2_with fail;refine(Yy H).mono ?_;rw[HN.out];rintro e w1⟨rfl,rfl⟩;go_wp2;go_ret2;exact Yu hO.out rfl (Ai _ _)
 ·have h4:N -a < n:=by omega
  go_in
  go_wp2_with fail;refine(Yy H).mono ?_;rw[HN.out];rintro e w1⟨rfl,rfl⟩;go_wp2_with fail;refine(Yy H).mono ?_;rw[HN.out];rintro e w1⟨rfl,rfl⟩;go_wp2;go_ret2;exact Yu hO.out rfl (Ai _ _)
theorem aCt{w:World}{b:Nat}{D:A8}{fp:Nat→Prop}(h:BB w b D fp)(a n:Int)(ha: -9223372036854775808≤a∧a≤9223372036854775807)(hn: -9223372036854775808≤n∧n≤9223372036854775807)
  (hok:¬ (n < 2∨a < 0∨(D.n:Int) < a∨(D.n:Int) -a < n))(hd:D.down=true):
  Calls prog 79 #[.pointer (some ⟨b,0,none⟩),.int .i64 a,.int .i64 n] w fun e w'=>VM w b D a n e w':=by
 have hO:Hid (D.TT a n=(none,40)):=Hi (by unfold A8.TT;rw[Ab hok,Ad hd]);have hN:=h.fine.n2;have H:=Hi h;obtain⟨m,lv,hI,_⟩:=h;have HI:=Hi hI;have HD:=Hi hd;clear hI hd;generalize Tj:(D.n:Int)=N at*;have HN:=Hi Tj;have hN2:0≤N∧N≤16384:=by omega
 clear Tj hN;have h1:2≤n:=by omega
 have h2:0≤a:=by omega
 have h3:a≤N:=by omega
 have h4:n≤N -a:=by omega
 clear hok
 go_in
 go_wp2_with fail;refine(Yy H).mono ?_;rw[HN.out];rintro e w1⟨rfl,rfl⟩;go_wp2_with fail;refine(Yy H).mono ?_;rw[HN.out];rintro e w1⟨rfl,rfl⟩;go_wp2_with fail;refine(azL HI a n HD).mono ?_;rintro e w1⟨rfl,rfl⟩;go_wp2;go_ret2;exact Yu hO.out rfl (Ai _ _)
theorem aCu{w:World}{b:Nat}{D:A8}{fp:Nat→Prop}(h:BB w b D fp)(a n:Nat)(h2:2≤n)(han:a+n≤D.n)(hd:D.down=false):
  Calls prog 79 #[.pointer (some ⟨b,0,none⟩),.int .i64 (a:Int),.int .i64 (n:Int)] w fun e w'=>VM w b D a n e w':=by
 have hO:D.TT a n=match Jq (A8.text D.now a n) n with|none=>(none,50)|some (g,u,l)=>(some ⟨a,n,g,u,l,0⟩,0):=by
  unfold A8.TT;rw[Ab (by omega),Ab (by simp[hd])];simp
 have hN:=h.fine.n2;have hlen:(A8.text D.now a n).length=64*n:=A8.Ym (fun i h1 h2=>h.fine.now i (by omega));have H:=Hi h;obtain⟨m,lv,hI,_⟩:=h;have OQ:=ve hI a n hd (by simp[A8.inside];omega);have Ik:=Hi OQ;clear hI hd OQ;generalize Tj:D.n=N at*;have HN:=Hi Tj;generalize A8.text D.now a n=s at*;clear Tj;have aDW:∀ W,(Instr.slice 9 (.string (bs s)) none (some (.int .i64 64)) none).run prog W=.ok (.string (bs (s.take 64))) W:=fun W=>O7 prog W 9 underlying9 s 64 (by omega)
 have aDX:∀ W,(Instr.slice 9 (.string (bs s)) (some (.int .i64 64)) none none).run prog W=.ok (.string (bs (s.drop 64))) W:=fun W=>ME prog W 9 underlying9 s 64 (by omega)
 have aj7:(s.take 64).length=64:=by rw[AZ];omega
 have apf:=Hi aj7;have HO:=Hi hO;have Fy:=Hi hlen;clear aj7 hO hlen
 go_in
 go_wp2_with fail;refine(Yy H).mono ?_;rw[HN.out];rintro e w1⟨rfl,rfl⟩;go_wp2_with fail;refine(Yy H).mono ?_;rw[HN.out];rintro e w1⟨rfl,rfl⟩;go_wp2_with fail;refine Ik.mono ?_;rintro e w1⟨rfl,hb⟩;have HB:=Hi hb;clear hb;go_wp2
 go_quiet (fail)
 go_wp2_with fail;refine(adY [0] _ (by simp)).mono ?_;rintro e w2⟨rfl,Ac⟩;have Ec:w1.heap.size < w2.heap.size:=Hw (by show w1.heap.size < (w1.alloc _).heap.size;rw[Ay];omega) Ac.size;have XC:Bw w w2:=(HB.trans ((((Ai w1.heap.size w1).alloc (Ae _) _).trans ((FB _ _).mono (by rw[Ay];omega))).mono HB.size)).trans (Ac.mono (by have:=HB.size;show w.heap.size≤(w1.alloc _).heap.size;rw[Ay];omega));have LX:Cm w2 w1.heap.size b (.slice none 0 0) ⟨a,n,0,0,[],0⟩:=⟨(Ac.block w1.heap.size (by show w1.heap.size < (w1.alloc _).heap.size;rw[Ay];omega)).trans (AQ w1 _),Kw.none _,by show 0 < 18446744073709551616;decide,by show 0+1≤n;omega,by show a+n≤16384;omega⟩;have HX:=Hi (show w.heap.size≤w1.heap.size from HB.size);have Ak:=Hi XC;have RD:=Hi LX;clear Ac XC LX Ec;have QH:Jq s n=if s.take 64=pad [0] then some (0,0,[]) else
  if s.take 64=Av.mark (A9.val (((s.take 64).take 12).drop 4)) (A9.val (((s.take 64).take 16).drop 12))∧A9.val (((s.take 64).take 16).drop 12)≤n -1 then
   (Ja (A9.val (((s.take 64).take 16).drop 12)) ((s.drop 64).take (64*A9.val (((s.take 64).take 16).drop 12)))).map fun l=>(A9.val (((s.take 64).take 12).drop 4),A9.val (((s.take 64).take 16).drop 12),l)
  else none:=rfl
 have KV:(s.drop 64).length=64*(n -1):=by rw[Ct,Fy.out];omega
 have Vt:=Hi KV;generalize s.take 64=f at*;generalize s.drop 64=r at*;clear KV;by_cases hz:f=pad [0]
 ·rw[Ad hz] at QH;have JE:(f == pad [0])=true:=by simp[hz]
  have Qu:=Hi QH;clear QH hz;go_wp2;go_ret2;refine am5 (L:=⟨a,n,0,0,[],0⟩) (k:=0) (by rw[HO.out,Qu.out]) rfl RD Ak (fun q hq=>?_);rcases hq with rfl|hq
  ·exact HX.out
  ·simp[Value.ownBlock] at hq
 ·rw[Ab hz] at QH;have JE:(f == pad [0])=false:=by simp[hz]
  have IK:=apf.out;have aE0:∀ W,(Instr.slice 9 (.string (bs f)) (some (.int .i64 4)) (some (.int .i64 12)) none).run prog W=.ok (.string (bs ((f.take 12).drop 4))) W:=fun W=>gD prog W 9 underlying9 f 4 12 (by omega) (by omega)
  have aE1:∀ W,(Instr.slice 9 (.string (bs f)) (some (.int .i64 12)) (some (.int .i64 16)) none).run prog W=.ok (.string (bs ((f.take 16).drop 12))) W:=fun W=>gD prog W 9 underlying9 f 12 16 (by omega) (by omega)
  have l1:((f.take 12).drop 4).length=8:=by rw[Ct,AZ];omega
  have l2:((f.take 16).drop 12).length=4:=by rw[Ct,AZ];omega
  have g1:=fun(W:World)=>XA ((f.take 12).drop 4) W (by omega) (by omega)
  have g2:=fun(W:World)=>XA ((f.take 16).drop 12) W (by omega) (by omega)
  have v1:=A9.JS ((f.take 12).drop 4);have v2:=A9.JS ((f.take 16).drop 12);rw[l1] at v1;rw[l2] at v2;generalize A9.val ((f.take 12).drop 4)=gen at*;generalize A9.val ((f.take 16).drop 12)=used at*;have v1':gen < 18446744073709551616:=v1;have v2':used < 4294967296:=v2;have IG:=Hi g1;have Dg:=Hi g2;have oU:=Hi v1';have hwn:IntKind.u64.wrap ((n:Int) -1)=(n:Int) -1:=IntWalk.u64_in _ (by omega);clear hz IK l1 l2 g1 g2 v1 v2 v1';by_cases NY:f=Av.mark gen used
  ·have Wj:(f == Av.mark gen used)=true:=(by rw[NY];simp);by_cases TJ:used≤n -1
   ·rw[Ad ⟨NY,TJ⟩] at QH;have hui:(used:Int)≤(n:Int) -1:=(by omega);have Qu:=Hi QH;have Qt:=Hi NY;obtain⟨d0,d1,d2,d3,d4,d5,d6,df⟩:=RD.cells;clear QH NY;go_wp2_with fail;refine(IG _).mono ?_;rintro e w3⟨rfl,rfl⟩;go_wp2_with fail;refine(Dg _).mono ?_;rintro e w3⟨rfl,rfl⟩;go_wp2_with fail;refine(lU gen used _ oU v2').mono ?_;rintro e w3⟨rfl,Ap⟩;have VH:=Hi (RD.below Ap);have Au:=bH Ak Ap;clear Ap d0 d1 d2 d3 d4 d5 d6 df;obtain⟨d0,d1,d2,d3,d4,d5,d6,df⟩:=VH.cells;have df0:=df 0;have qd:=df 1;have hwu:(64:Int)*(used:Int)≤640000000:=(by omega);have LU:=Vt.out;have UL:∀ W,(Instr.slice 9 (.string (bs r)) none (some (.int .i64 (64*(used:Int)))) none).run prog W=.ok (.string (bs (r.take (64*used)))) W:=fun W=>by
     have:=O7 prog W 9 underlying9 r (64*used) (by omega);rw[Int.natCast_mul] at this;exact this
    have IP:Cm ((w3.setCell ⟨w1.heap.size,0,none⟩ (.int .u64 (gen:Int))).setCell ⟨w1.heap.size,1,none⟩ (.int .i64 (used:Int))) w1.heap.size b (.slice none 0 0) ⟨a,n,gen,used,[],0⟩:=by
     have e1:=Cu w3 w1.heap.size 0 _ _ (.int .u64 (gen:Int)) VH.struct;have e2:=Cu _ w1.heap.size 1 _ _ (.int .i64 (used:Int)) e1;exact⟨e2,Kw.none _,oU,by show used+1≤n;omega,VH.n⟩
    have SX:=Hi IP;have AX:=Hi ((Au.setCell (p:=⟨w1.heap.size,0,none⟩) HX (.int .u64 (gen:Int))).setCell (p:=⟨w1.heap.size,1,none⟩) HX (.int .i64 (used:Int)));have O0:(r.take (64*used)).length=64*used:=(by rw[AZ];omega);have Ou:=Hi O0;clear df IP O0;go_wp2
    go_loopw [12] (fun rv wr=>∃ (k:Nat) (S:List UInt8) (l:List (List (List UInt8))) (gv:Value),rv=.string (bs S)∧S.length % 64=0∧S.length≤64*k∧S.length≤10000000∧Cm wr w1.heap.size b gv ⟨a,n,gen,used,l,0⟩∧Bw w wr∧(∀ q,BS w1.heap.size gv q→w.heap.size≤q)∧Ja used (r.take (64*used))=(Ja k S).map (l++ ·)∧l.length+k=used) (fun rv _=>match rv with| .string s=>s.size|_=>0)
    case atStart=>
     refine⟨used,r.take (64*used),[],.slice none 0 0,rfl,by rw[Ou.out];omega,by rw[Ou.out];omega,by rw[Ou.out];omega,SX,AX,fun q hq=>?_,by simp,by simp⟩;rcases hq with rfl|hq
     ·exact HX.out
     ·simp[Value.ownBlock] at hq
    case round=>
     obtain⟨k,S,l,gv,rfl,auK,hSk,hSb,hwi,hb,OL,Mw,IL⟩:=hrel;have HLK:=Hi IL;clear IL;have HWI:=Hi hwi;have Rs:=Hi hb;have y5:=Hi OL;have EZ:=Hi Mw;clear hwi hb OL Mw RD VH SX Ak Au AX d0 d1 d2 d3 d4 d5 d6 df0 qd;by_cases hS:S=[]
     ·subst hS;go_wp2;go_ret2;refine am5 (L:=⟨a,n,gen,used,l,0⟩) (k:=0) ?_ rfl HWI Rs y5.out;rw[HO.out,Qu.out,EZ.out,amL];simp
     ·have hne:S.isEmpty=false:=by
       cases S with
       |nil=>exact absurd rfl hS
       |cons=>rfl
      have KI:=Hi hS;clear hS;go_wp2_with fail;refine(ayy S _ hSb auK).mono ?_;intro e w5 hp;unfold bW at hp;have ed:0 < S.length:=List.length_pos_iff.2 KI.out;obtain⟨k',rfl⟩:∃ k',k=k'+1:=⟨k -1,by omega⟩;cases FE:L8 S with
      |none=>
       rw[FE] at hp;obtain⟨rfl,BF⟩:=hp;have CZ:=bH Rs BF;have D9:Hid (Ja used (r.take (64*used))=none):=Hi (azy KI EZ FE);clear BF FE;go_wp2;go_ret2;exact Yu (by rw[HO.out,Qu.out,D9.out];rfl) rfl CZ.out
      |some pr=>
       obtain⟨t,m⟩:=pr;rw[FE] at hp;obtain⟨lv,rfl,Af,BF,_⟩:=hp;obtain⟨hm1,LJ,UU⟩:=ayv FE;have CZ:=bH Rs BF;have KL:=Hi (HWI.below BF);obtain⟨qa,ca,rfl,_⟩:=vS Af;have HRK:=Hi (Jy.CX Af);have Bh:=Hi (azz KI EZ FE);have hux:=Rs.size;obtain⟨cs,GH,GY,K8,Mr⟩:=KL.groups;obtain⟨qg,cg,rfl⟩:=Bo GH;have bg:=Hi GH;have Qk:=Hi GY;have WV:=Hi K8;have xm:=Hi Mr;obtain⟨i0,Bl,AY,Ba,Be⟩:=DC adf;obtain⟨d0,d1,d2,d3,d4,d5,d6,df⟩:=KL.cells;have T9:=df 5;have El:l.length≤16384:=(by have:=HLK.out;omega);have k5:=fun(ob:Obj)=>Cw ((((Ai w5.heap.size w5).alloc (Ae _) ob).cell (p:=⟨w1.heap.size,5,none⟩) (KL.lt _ (.inl rfl))).trans d5) ((((Ai w5.heap.size w5).alloc (Ae _) ob).frozen (p:=⟨w1.heap.size,5,none⟩) (KL.lt _ (.inl rfl))).trans T9)
       have avg:∀ W,(Instr.slice 9 (.string (bs S)) (some (.int .i64 (m:Int))) none none).run prog W=.ok (.string (bs (S.drop m))) W:=fun W=>ME prog W 9 underlying9 S m UU
       have CG:=KL.ne;clear GH GY K8 Mr Af BF FE d0 d1 d2 d3 d4 d6 df
       go_wp2_with (
        at_builtin
        refine wpList_append_own_at _ rfl _ _ _ rfl 0 61 i0 _ 1 24 underlying155 Bl AY Ba Be rfl (by omega) (.slice qg l.length cg) l.length cs rfl (bg.alloc _) ⟨w5.heap.size,0,none⟩ 1 1 [.slice qa t.length ca] rfl rfl (World.news_of_block (cs:=#[.slice qa t.length ca]) (t:=61) (fr:=(0,0)) (AQ w5 _)) (fun u hu=>by rw[FJ] at hu;subst hu;exact HRK.one) (by unfold maxLen;omega) (by omega) (AV _) ?_;intro v' w6 hown AJ _ hat;have yg:=Hi (KL.pushed HRK Qk WV xm ((Ai w5.heap.size w5).alloc (Ae _) _) AJ hown hat);obtain⟨qv,cv,rfl⟩:=Bo hown;have c6:=(AJ.cell_far ⟨w1.heap.size,5,none⟩ (by have:=KL.lt _ (.inl rfl);show w1.heap.size < (w5.alloc _).heap.size;rw[Ay];omega) (Ne.symm CG)).trans (k5 _).1;have f6:=(AJ.frozen_far ⟨w1.heap.size,5,none⟩ (by have:=KL.lt _ (.inl rfl);show w1.heap.size < (w5.alloc _).heap.size;rw[Ay];omega) (Ne.symm CG)).trans (k5 _).2;clear hown AJ hat k5 d5 T9)
       refine⟨⟨k',S.drop m,l++[t],_,rfl,by rw[Ct];omega,by rw[Ct];omega,by rw[Ct];omega,yg.1,Cy CZ yg.2.1 y5 CZ.size,fun q hq=>?_,Bh,by have:=HLK.out;rw[AA,Le];omega⟩,?_⟩
       ·rcases yg.2.2 q hq with h1|h1
        ·exact y5 q h1
        ·exact Aw CZ.size h1
       ·show(S.drop m).length < S.length
        rw[Ct];omega
   ·rw[Ab (fun h=>TJ h.2)] at QH;have hui:(n:Int) -1 < (used:Int):=(by omega);have Qu:=Hi QH;clear QH NY;go_wp2_with fail;refine(IG _).mono ?_;rintro e w3⟨rfl,rfl⟩;go_wp2_with fail;refine(Dg _).mono ?_;rintro e w3⟨rfl,rfl⟩;go_wp2_with fail;refine(lU gen used _ oU v2').mono ?_;rintro e w3⟨rfl,Ap⟩;have Au:=bH Ak Ap;clear Ap;go_wp2;go_ret2;exact Yu (by rw[HO.out,Qu.out]) rfl Au.out
  ·rw[Ab (fun h=>NY h.1)] at QH;have Wj:(f == Av.mark gen used)=false:=(by simp[NY]);have Qu:=Hi QH;clear QH NY;go_wp2_with fail;refine(IG _).mono ?_;rintro e w3⟨rfl,rfl⟩;go_wp2_with fail;refine(Dg _).mono ?_;rintro e w3⟨rfl,rfl⟩;go_wp2_with fail;refine(lU gen used _ oU v2').mono ?_;rintro e w3⟨rfl,Ap⟩;have Au:=bH Ak Ap;clear Ap;go_wp2;go_ret2;exact Yu (by rw[HO.out,Qu.out]) rfl Au.out
theorem aCr{w:World}{b:Nat}{D:A8}{fp:Nat→Prop}(h:BB w b D fp)(a n:Int)(ha: -9223372036854775808≤a∧a≤9223372036854775807)(hn: -9223372036854775808≤n∧n≤9223372036854775807):
  Calls prog 79 #[.pointer (some ⟨b,0,none⟩),.int .i64 a,.int .i64 n] w fun e w'=>VM w b D a n e w':=by
 by_cases NL:n < 2∨a < 0∨(D.n:Int) < a∨(D.n:Int) -a < n
 ·exact aCs h a n ha hn NL
 ·cases hd:D.down with
  |true=>exact aCt h a n ha hn NL hd
  |false=>
   obtain⟨a,rfl⟩:∃ k:Nat,a=(k:Int):=⟨a.toNat,by omega⟩;obtain⟨n,rfl⟩:∃ k:Nat,n=(k:Int):=⟨n.toNat,by omega⟩;exact aCu h a n (by omega) (by omega) hd
end
section
open Av
theorem jo(w:World)(p:Option Addr)(n c:Nat):(binOp .eql 61 (.slice p n c) (.slice none 0 0)).run prog w=.ok (.bool p.isNone) w:=by
 have h:∀ d,(Op.equalIn (d+1) 61 (.slice p n c) (.slice none 0 0)).run prog w=.ok p.isNone w:=fun d=>by
  cases p<;>simp[Op.equalIn,Hd underlying61]
 simp only[binOp];simp[show Op.equal 61 (.slice p n c) (.slice none 0 0)=Op.equalIn (9999+1) 61 (.slice p n c) (.slice none 0 0) from rfl,h 9999]
theorem zR(w:World):(w.alloc (.cells #[] 9)).ownsRow 0 9 1 (.slice (some ⟨w.heap.size,0,none⟩) 0 0) 0 []:=
 ⟨rfl,.inr ⟨w.heap.size,0,#[],rfl,AV _,AQ w _,Ae _,AV _,rfl,rfl⟩⟩
theorem TV:(prog.info? 9).map (fun i=>(i.zero,i.size,i.bytes))=some (some (.string ByteArray.empty),1,16):=by kernel_rfl
theorem mR:strCells []=[]:=by unfold strCells;rfl
def aoQ(w:World)(l:List (List UInt8))(e:Ending)(w':World):Prop:=
 ∃ v',e=.returned v'∧w'.ownsRow 0 9 1 v' l.length (strCells l)∧Bw w w'∧∀ g,v'.ownBlock=some g→w.heap.size≤g
theorem anU(w:World)(a:Option Addr)(cap:Nat)(l:List (List UInt8))(h:Du w a l)(hlen:l.length≤1000000000):
  Calls prog 149 #[.slice a l.length cap] w fun e w'=>aoQ w l e w':=by
 have hq:=fun w=>jo w a l.length cap
 cases a with
 |none=>
  have e:l=[]:=by
   cases l with
   |nil=>rfl
   |cons x l=>obtain⟨p,hp,_⟩:=h 0 (by simp);cases hp
  subst e;have hq0:=fun w=>jo w none 0 cap
  clear h hq
  go_in
  go_wp2;go_ret;refine⟨_,rfl,?_,Ai _ _,fun g e=>by simp[Value.ownBlock] at e⟩;rw[mR];exact DZ _ _ _ _
 |some p=>
  have hc:∀ j u,(strCells l)[j]?=some u→w.cell? (p.add j)=some u:=fun j u hj=>by
   have Kb:j < l.length:=by
    have:=(U1.1 hj).1;rwa[strCells_length] at this
   obtain⟨p',Nh,Gb⟩:=h j Kb;cases Nh;rw[YA l j Kb] at hj;rw[Gb,←hj]
  have HC:=Hi hc;have El:=strCells_length l;have NB:=Hi El;obtain⟨i0,Bl,AY,Ba,Be⟩:=DC TV;have BQ:=Ay w (.cells #[] 9);clear h hc El
  go_in
  go_wp2_with (at_builtin;refine wpList_append_own_at _ rfl _ _ _ rfl 0 9 i0 _ 1 16 underlying61 Bl AY Ba Be rfl (by omega) _ 0 [] rfl (zR w) p l.length cap (strCells l) rfl (by rw[NB.out];omega) (fun j u hj=>(((Ai w.heap.size w).alloc (Ae _) _).cell (Cr (HC j u hj))).trans (HC j u hj)) (adv l) (by unfold maxLen;omega) (by omega) (AV _) ?_;intro v' w1 hown AJ _ hat);go_ret;refine⟨v',rfl,by rw[Ha,Ei] at hown;exact hown,((Ai w.heap.size w).alloc (Ae _) _).grown AJ (by omega) (fun k e=>by have e':some w.heap.size=some k:=e;have:=GQ e';omega),fun k hk=>?_⟩;rcases hat with hat|hat
  ·rw[hat] at hk;have e':some w.heap.size=some k:=hk;have:=GQ e';omega
  ·rw[hat] at hk;have:=GQ hk;omega
theorem Kw.pushed{w w1 w2:World}{gv lv v':Value}{L:List (List (List UInt8))}{l:List (List UInt8)}{cs:List Value}{n:Nat}(hn:n=L.length)(h:w.ownsRow 0 61 1 gv n cs)(hl:Jy w lv l)
  (BN:cs.length=L.length)(GH:∀ u∈cs,u.oneCell'=true)(UL:∀ i (h:i < L.length) (h':i < cs.length),Jy w cs[i] L[i])
  (hb:Bw w w1)(AJ:w1.grownBy w2 gv.ownBlock)(hown:w2.ownsRow 0 61 1 v' (n+1) (cs++[lv])):
  Kw w2 v' (L++[l]):=by
 subst hn;have u1:A7 (fun k=>gv.ownBlock=some k) w w2:=(A7.of_below hb).trans (A7.of_grownBy (F:=fun k=>gv.ownBlock=some k) AJ (fun k e=>e)) (fun k hk=>.inl hk);have NR:∀ k,Bb w k 9→¬ gv.ownBlock=some k:=fun k hk e=>Bb.ne hk (Cn h e) (by decide) rfl
 refine⟨cs++[lv],by rw[AA];exact hown,by simp[BN],fun u hu=>?_,fun i hi rZ=>?_⟩
 ·rcases Eh.1 hu with hu|hu
  ·exact GH u hu
  ·rw[FJ] at hu;subst hu;exact hl.one
 ·by_cases hlt:i < L.length
  ·rw[Sw (by omega),Sw hlt];exact(UL i hlt (by omega)).upd u1 NR
  ·have JG:=hi;rw[AA,Le] at JG;have e:i=L.length:=(by omega);rw[Vo (by omega),Vo (by omega)];simp only[List.getElem_singleton];exact hl.upd u1 NR
def ae7(w:World)(L:List (List (List UInt8)))(e:Ending)(w':World):Prop:=
 ∃ v',e=.returned v'∧Kw w' v' L∧Bw w w'∧∀ g,v'.ownBlock=some g→w.heap.size≤g
theorem arI(w:World)(gv:Value)(L:List (List (List UInt8)))(h:Kw w gv L)(hlen:L.length≤1000000)(hall:∀ l∈L,l.length≤1000000000):
  Calls prog 165 #[gv] w fun e w'=>ae7 w L e w':=by
 obtain⟨cs,h1,h2,h3,h4⟩:=h;obtain⟨qg,cg,rfl⟩:=Bo h1;have Gb:∀ k,(hk:k < L.length)→∃ g,qg=some ⟨g,0,none⟩∧∀ v,cs[k]?=some v→w.cell? ⟨g,k,none⟩=some v:=fun k hk=>by
  rcases h1.2 with⟨e1,e2⟩|⟨g,cap,cur,e1,_⟩
  ·omega
  ·injection e1 with e1 e2 e3
   subst e1;refine⟨g,rfl,fun v hv=>?_⟩;have:=h1.cells (g:=g) rfl k v hv;rwa[add_plain] at this
 have apb:=Hi Gb;have H1:=Hi h1;have H2:=Hi h2;have H3:=Hi h3;have H4:=Hi h4;have Fb:=Hi hall;clear Gb h1 h2 h3 h4 hall
 go_in
 go_wp2
 go_loopw [2,7] (fun ov i wr=>∃ (k:Nat),k≤L.length∧i=.int .i64 k∧Kw wr ov (L.take k)∧Bw w wr∧∀ g,ov.ownBlock=some g→w.heap.size≤g) (fun _ i _=>L.length -(intOf i).toNat)
 case atStart=>exact⟨0,AV _,rfl,Kw.none _,Ai _ _,fun g e=>by simp[Value.ownBlock] at e⟩
 case round=>
  obtain⟨k,hk,rfl,hg,hb,hn⟩:=hrel;have HB:=Hi hb;have HN:=Hi hn;by_cases hlt:k < L.length
  ·obtain⟨g,rfl,hc⟩:=apb k hlt;have QJ:k < cs.length:=(by rw[H2.out];exact hlt);have Af:=H4 k hlt QJ;have hc:=hc cs[k] (CJ QJ);have NP:wr.cell? ⟨g,k,none⟩=some cs[k]:=(hb.cell (Cr hc)).trans hc;have TE:Jy wr cs[k] L[k]:=Af.upd (ub hb) (fun _ _ f=>f);obtain⟨ar,cr,er,H8⟩:=TE.texts;rw[er] at NP;have Z9:=Hi H8;obtain⟨cs',g1,g2,g3,g4⟩:=hg;have RX:(L.take k).length=k:=(by rw[AZ];omega);rw[RX] at g1;have G1:=Hi g1;have G2:=Hi g2;have G3:=Hi g3;have G4:=Hi g4;obtain⟨qo,co,rfl⟩:=Bo g1;have IL:L[k].length≤1000000000:=Fb _ (CQ hlt);have Cv:=Hi RX;have Uk:Hid (L.take (k+1)=L.take k++[L[k]]):=Hi (Cx hlt);generalize L[k]=l at*;obtain⟨i0,Bl,AY,Ba,Be⟩:=DC adf;clear hb hn hc Af TE H8 g1 g2 g3 g4 RX er;go_wp2_with fail;refine(anU wr ar cr l Z9 IL).mono ?_;rintro e w1⟨lv,rfl,KY,Aj,FU⟩;have HB1:=bH HB Aj;have Ff:=Hi (Jy.CX KY);obtain⟨ql,cl,rfl⟩:=Bo KY;have u1:=ub Aj;have G1':=Hi (Bv G1 u1 (fun _ _ f=>f));have G4':=Hi (fun i (h:i < (L.take k).length) (h':i < cs'.length)=>(G4 i h h').upd u1 (fun _ _ f=>f));clear KY Aj FU u1
   go_wp2_with (
    at_builtin
    refine wpList_append_own_at _ rfl _ _ _ rfl 0 61 i0 _ 1 24 underlying155 Bl AY Ba Be rfl (by omega) (.slice qo k co) k cs' rfl (G1'.alloc _) ⟨w1.heap.size,0,none⟩ 1 1 [.slice ql l.length cl] rfl rfl (World.news_of_block (cs:=#[.slice ql l.length cl]) (t:=61) (fr:=(0,0)) (AQ w1 _)) (fun u hu=>by rw[FJ] at hu;subst hu;exact Ff.one) (by unfold maxLen;omega) (by omega) (AV _) ?_;intro v' w2 hown AJ _ hat;have Dg:=Hi (Kw.pushed Cv.symm G1' Ff G2 G3 G4' ((Ai w1.heap.size w1).alloc (Ae _) _) AJ hown);have Ak:=Hi ((HB1.alloc HB1.size _).grown AJ (Aw HB1.size (by rw[Ay];omega)) HN)
    have NC:=Hi (show ∀ g,v'.ownBlock=some g→w.heap.size≤g from fun g hg=>by
     rcases hat with hat|hat
     ·rw[hat] at hg;exact HN g hg
     ·rw[hat] at hg;have:=GQ hg;rw[Ay] at this;have:=HB1.size;omega)
    clear hown AJ hat)
   go_roundw
   case rel=>exact⟨k+1,by omega,by go_num,by rw[Uk.out];exact Dg.out,Ak,NC⟩
   case measure=>simp[intOf];omega
  ·obtain rfl:k=L.length:=(by omega);have HG:=Hi hg;clear hg hb hn;go_wp2;go_ret;exact⟨_,rfl,by have:=HG.out;rwa[Gu (Ae _)] at this,HB,HN⟩
section
variable {w:World}{x b:Nat}{gv:Value}{L:BD}
theorem aow(h:Cm w x b gv L):Calls prog 80 #[.pointer (some ⟨x,0,none⟩)] w fun e w'=>e=.returned (.int .u64 (L.gen:Int))∧w=w':=by
 obtain⟨c0,c1,c2,c3,c4,c5,c6,cf⟩:=h.cells;clear h
 go_in
 go_wp2;go_ret;exact⟨rfl,rfl⟩
theorem gU(h:Cm w x b gv L):Calls prog 144 #[.pointer (some ⟨x,0,none⟩)] w fun e w'=>e=.returned (.int .i64 L.fault)∧w=w':=by
 obtain⟨c0,c1,c2,c3,c4,c5,c6,cf⟩:=h.cells;clear h
 go_in
 go_wp2;go_ret;exact⟨rfl,rfl⟩
theorem aCv(h:Cm w x b gv L):Calls prog 61 #[.pointer (some ⟨x,0,none⟩)] w fun e w'=>e=.returned (.int .i64 ((L.n -1 -L.used:Nat):Int))∧Bw w w':=by
 obtain⟨c0,c1,c2,c3,c4,c5,c6,cf⟩:=h.cells;have g1:=h.used;have g2:=h.n;have hv:((L.n -1 -L.used:Nat):Int)=(L.n:Int) -1 -(L.used:Int):=by omega
 have HV:=Hi hv;have e1:IntKind.i64.wrap ((L.n:Int) -1)=(L.n:Int) -1:=ET _ (by omega);have e2:IntKind.i64.wrap ((L.n:Int) -1 -(L.used:Int))=(L.n:Int) -1 -(L.used:Int):=ET _ (by omega);clear h hv
 go_in
 go_wp2
 go_quiet (fail)
 go_wp2;go_ret;rw[HV.out];exact⟨rfl,FB _ _⟩
theorem aCp(h:Cm w x b gv L)(hlen:L.groups.length≤1000000)(hall:∀ l∈L.groups,l.length≤1000000000):Calls prog 81 #[.pointer (some ⟨x,0,none⟩)] w fun e w'=>ae7 w L.groups e w':=by
 obtain⟨c0,c1,c2,c3,c4,c5,c6,cf⟩:=h.cells;have HG:=Hi h.groups;clear h
 go_in
 go_wp2_with fail;refine(arI w gv L.groups HG hlen hall).mono ?_;rintro e w1⟨v',rfl,g1,g2,g3⟩;have G:=Hi (Cw g1 (Cw g2 g3));clear g1 g2 g3;go_wp2;go_ret;exact⟨v',rfl,G.1,G.2.1,G.2.2⟩
end
theorem aak(l:List (List UInt8)):(JD l).1.length≤rowLen l+68:=by
 unfold JD;cases h:I4 l with
 |none=>simp
 |some s=>
  obtain⟨a,ha,rfl⟩:=qO h;have h1:=vB ha;have h2:=Sg (A9.le 4 a.length++a);rw[AA,A9.C9] at h2
  show(pad _).length≤_
  omega
theorem aCq(l:List (List UInt8))(a:Option Addr)(cap:Nat)(w:World)(hl:Du w a l)(hlen:l.length≤maxLen)(D7:rowLen l≤10000000):
  Calls prog 60 #[.slice a l.length cap] w fun e w'=>e=.returned (.tuple #[.int .i64 (((JD l).1.length / 64:Nat):Int),.int .i64 (JD l).2])∧Bw w w':=by
 have HL:=Hi hl;have Fy:=Hi hlen;clear hl hlen
 go_in
 go_wp2_with fail;obtain⟨r1,r2,hr⟩:∃ r1 r2,JD l=(r1,r2):=⟨_,_,rfl⟩;have aEb:r1.length≤10000068:=by have:=aak l;rw[hr] at this;have h2:r1.length≤rowLen l+68:=this;omega
 have HR:=Hi hr;clear hr;refine(dD l a cap w HL Fy D7).mono ?_;rw[HR.out];rintro e w1⟨rfl,hb⟩;have HB:=Hi hb;clear hb;have hv:((r1.length / 64:Nat):Int)=(r1.length:Int) / 64:=by omega
 have HV:=Hi hv;clear hv;go_wp2;go_ret2;rw[HR.out];refine⟨?_,HB⟩
 show _=Ending.returned (.tuple #[.int .i64 ((r1.length / 64:Nat):Int),.int .i64 r2])
 rw[HV.out];rfl
end
section
open Go.Sort Go.Shelf
def ah6:Go.Shelf.Ren:=⟨fun|7=>169|10=>231|n=>n,fun|23=>113|26=>9|3=>109|28=>256|0=>0|27=>255|33=>231|4=>4|n=>n,fun|n=>n⟩
theorem ah5:Go.Proofs.SlLaysZ.n7 prog ah6:={
 mixed:=by kernel_rfl
 f7:=⟨Tryz.f169.name,by decide,func169.trans (congrArg some (by kernel_rfl))⟩
 f10:=⟨Tryz.f231.name,by decide,func231.trans (congrArg some (by kernel_rfl))⟩
 t0:=underlying0
 a0:=Tryz.isAgg0
 z0:=Tryz.sizeOf0
 v0:=Tryz.zeroValue0
 t4:=underlying4
 a4:=Tryz.isAgg4
 z4:=Tryz.sizeOf4
 v4:=Tryz.zeroValue4
 t23:=underlying113
 a23:=Tryz.isAgg113
 z23:=Tryz.sizeOf113
 v23:=Tryz.zeroValue113
 t26:=underlying9
 a26:=Tryz.isAgg9
 z26:=Tryz.sizeOf9
 v26:=Tryz.zeroValue9
 t27:=underlying255
 a27:=Tryz.isAgg255
 z27:=Tryz.sizeOf255
 v27:=Tryz.zeroValue255
 t28:=underlying256
 a28:=Tryz.isAgg256
 z28:=Tryz.sizeOf256
 v28:=Tryz.zeroValue256
 t33:=underlying231
 a33:=Tryz.isAgg231
 z33:=Tryz.sizeOf231
 v33:=Tryz.zeroValue231 }
def ahi:Go.Shelf.Ren:=⟨fun|6=>168|8=>230|9=>70|11=>267|13=>155|12=>154|23=>226|24=>227|14=>217|15=>218|16=>219|17=>220|18=>221|19=>222|20=>223|21=>224|22=>225|25=>261|26=>262|27=>263|28=>264|29=>265|30=>266|31=>278|n=>n,fun|26=>9|28=>256|24=>61|0=>0|3=>3|37=>214|48=>281|50=>149|4=>4|40=>298|39=>297|45=>302|5=>5|9=>9|51=>331|55=>334|57=>340|58=>341|33=>231|n=>n,fun|n=>n⟩
theorem aa4:Go.Proofs.SlLaysZ.n6 prog ahi:={
 mixed:=by kernel_rfl
 f6:=⟨Tryz.f168.name,by decide,func168.trans (congrArg some (by kernel_rfl))⟩
 f8:=⟨Tryz.f230.name,by decide,func230.trans (congrArg some (by kernel_rfl))⟩
 f11:=⟨Tryz.f267.name,by decide,func267.trans (congrArg some (by kernel_rfl))⟩
 t0:=underlying0
 a0:=Tryz.isAgg0
 z0:=Tryz.sizeOf0
 v0:=Tryz.zeroValue0
 t24:=underlying61
 a24:=Tryz.isAgg61
 z24:=Tryz.sizeOf61
 v24:=Tryz.zeroValue61
 t26:=underlying9
 a26:=Tryz.isAgg9
 z26:=Tryz.sizeOf9
 v26:=Tryz.zeroValue9
 t28:=underlying256
 a28:=Tryz.isAgg256
 z28:=Tryz.sizeOf256
 v28:=Tryz.zeroValue256
 i26:=by kernel_rfl }
def atx:Go.Shelf.Ren:=⟨fun|6=>70|8=>155|9=>154|19=>226|20=>227|21=>217|22=>218|23=>219|24=>220|25=>221|26=>222|27=>223|28=>224|29=>225|36=>261|31=>262|32=>263|37=>264|38=>265|39=>266|41=>278|n=>n,fun|27=>61|29=>9|3=>3|32=>214|26=>61|0=>0|44=>281|46=>149|4=>4|36=>298|35=>297|41=>302|5=>5|9=>9|53=>331|57=>334|63=>340|64=>341|n=>n,fun|n=>n⟩
theorem Xy:Go.Proofs.SlLaysM.n6 prog atx:={
 mixed:=by kernel_rfl
 f6:=⟨Tryz.f70.name,by decide,func70.trans (congrArg some (by kernel_rfl))⟩
 f8:=func155.trans (congrArg some (by kernel_rfl))
 f9:=⟨Tryz.f154.name,by decide,func154.trans (congrArg some (by kernel_rfl))⟩
 f19:=func226.trans (congrArg some (by kernel_rfl))
 f20:=func227.trans (congrArg some (by kernel_rfl))
 f21:=⟨Tryz.f217.name,by decide,func217.trans (congrArg some (by kernel_rfl))⟩
 f22:=⟨Tryz.f218.name,by decide,func218.trans (congrArg some (by kernel_rfl))⟩
 f23:=⟨Tryz.f219.name,by decide,func219.trans (congrArg some (by kernel_rfl))⟩
 f24:=⟨Tryz.f220.name,by decide,func220.trans (congrArg some (by kernel_rfl))⟩
 f25:=⟨Tryz.f221.name,by decide,func221.trans (congrArg some (by kernel_rfl))⟩
 f26:=⟨Tryz.f222.name,by decide,func222.trans (congrArg some (by kernel_rfl))⟩
 f27:=⟨Tryz.f223.name,by decide,func223.trans (congrArg some (by kernel_rfl))⟩
 f28:=⟨Tryz.f224.name,by decide,func224.trans (congrArg some (by kernel_rfl))⟩
 f29:=⟨Tryz.f225.name,by decide,func225.trans (congrArg some (by kernel_rfl))⟩
 f31:=func262.trans (congrArg some (by kernel_rfl))
 f32:=func263.trans (congrArg some (by kernel_rfl))
 f36:=⟨Tryz.f261.name,by decide,func261.trans (congrArg some (by kernel_rfl))⟩
 f37:=⟨Tryz.f264.name,by decide,func264.trans (congrArg some (by kernel_rfl))⟩
 f38:=⟨Tryz.f265.name,by decide,func265.trans (congrArg some (by kernel_rfl))⟩
 f39:=⟨Tryz.f266.name,by decide,func266.trans (congrArg some (by kernel_rfl))⟩
 f41:=⟨Tryz.f278.name,by decide,func278.trans (congrArg some (by kernel_rfl))⟩
 t0:=underlying0
 a0:=Tryz.isAgg0
 z0:=Tryz.sizeOf0
 v0:=Tryz.zeroValue0
 t3:=underlying3
 a3:=Tryz.isAgg3
 z3:=Tryz.sizeOf3
 v3:=Tryz.zeroValue3
 t4:=underlying4
 a4:=Tryz.isAgg4
 z4:=Tryz.sizeOf4
 v4:=Tryz.zeroValue4
 t5:=underlying5
 a5:=Tryz.isAgg5
 z5:=Tryz.sizeOf5
 v5:=Tryz.zeroValue5
 t9:=underlying9
 a9:=Tryz.isAgg9
 z9:=Tryz.sizeOf9
 v9:=Tryz.zeroValue9
 t26:=underlying61
 a26:=Tryz.isAgg61
 z26:=Tryz.sizeOf61
 v26:=Tryz.zeroValue61
 t27:=underlying61
 a27:=Tryz.isAgg61
 z27:=Tryz.sizeOf61
 v27:=Tryz.zeroValue61
 t29:=underlying9
 a29:=Tryz.isAgg9
 z29:=Tryz.sizeOf9
 v29:=Tryz.zeroValue9
 t32:=underlying214
 a32:=Tryz.isAgg214
 z32:=Tryz.sizeOf214
 v32:=Tryz.zeroValue214
 t35:=underlying297
 a35:=Tryz.isAgg297
 z35:=Tryz.sizeOf297
 v35:=Tryz.zeroValue297
 t36:=underlying298
 a36:=Tryz.isAgg298
 z36:=Tryz.sizeOf298
 v36:=Tryz.zeroValue298
 t41:=underlying302
 a41:=Tryz.isAgg302
 z41:=Tryz.sizeOf302
 v41:=Tryz.zeroValue302
 t44:=underlying281
 a44:=Tryz.isAgg281
 z44:=Tryz.sizeOf281
 v44:=Tryz.zeroValue281
 t46:=underlying149
 a46:=Tryz.isAgg149
 z46:=Tryz.sizeOf149
 v46:=Tryz.zeroValue149
 t53:=underlying331
 a53:=Tryz.isAgg331
 z53:=Tryz.sizeOf331
 v53:=Tryz.zeroValue331
 t57:=underlying334
 a57:=Tryz.isAgg334
 z57:=Tryz.sizeOf334
 v57:=Tryz.zeroValue334
 t63:=underlying340
 a63:=Tryz.isAgg340
 z63:=Tryz.sizeOf340
 v63:=Tryz.zeroValue340
 t64:=underlying341
 a64:=Tryz.isAgg341
 z64:=Tryz.sizeOf341
 v64:=Tryz.zeroValue341 }
end
section
open Go.Sort Go.Shelf
open Ag
attribute [local go_sem] O8
theorem aa5(m:Nat):AnyZ.SortsIn prog ahi Fence.wide m:=
 ⟨fun blk off cap ss W hH dN BQ=>Dr.2 (AnyM.slices_Sort_string Xy blk off cap ss W hH dN BQ),
  fun p cap W=>Dr.2 (AnyM.slices_Sort_string_none Xy p cap W)⟩
theorem atc(mb:Option Nat)(W:World):Calls prog 169 #[.map mb] W fun e w'=>e=.returned (.func (.func 231) #[] #[.pointer (some ⟨W.heap.size,0,none⟩)])∧w'=W.alloc (.cells #[.map mb] 113):=
 Dr.1 (AnyZ.keys_in ah5 Fence.wide 5 trivial rfl mb W)
theorem aym{F:M}(h:Up F){ss:List T}(hp:ss.Perm (F.map (·.1))):ss.mergeSort (fun x y=>decide (x≤y))=F.map (·.1):=by
 have e:ss.mergeSort leB=(F.map (·.1)).mergeSort leB:=mergeSort_of_perm hp;have e2:(F.map (·.1)).mergeSort leB=F.map (·.1):=by
  refine List.mergeSort_of_pairwise ?_;refine List.pairwise_map.2 (h.imp fun {a b} hab=>?_)
  show decide (a.1≤b.1)=true
  simpa using List.not_lt.1 (R9 hab)
 exact e.trans e2
theorem aty{w:World}{m:Nat}{F:M}(h:CO w m F)(hlen:F.length≤1000000):
  Calls prog 168 #[.func (.func 231) #[] #[.pointer (some ⟨w.heap.size,0,none⟩)]] (w.alloc (.cells #[.map (some m)] 113)) fun e w'=>
   ∃ v,e=.returned v∧w'.ownsRow (w.heap.size+1) 9 1 v F.length ((F.map (·.1)).map encStr)∧Bw w w':=by
 obtain⟨hu,kv,ZQ,UW⟩:=h;obtain⟨D,hown,BQ,ed⟩:=UW.keyed;have Dw:kv.length=F.length:=by rw[ZQ.length_eq];unfold PE;rw[BP]
 have ZH:(kv.map (·.1)).Perm (F.map (·.1)):=by rw[←agZ];exact ZQ.map _
 have CP:=hown.lt;have LV:SeqGives Fence.wide 2 prog 231 #[.pointer (some ⟨w.heap.size,0,none⟩)] encStr (fun ss=>ss.Perm (strKeys D)) (Maps.size D) (w.alloc (.cells #[.map (some m)] 113)):=
  AnyZ.keys_gives (ρ:=ah6) { ah5 with } Fence.wide _ trivial rfl (by omega) w.heap.size m kv.length D _ (by simp) (by simp) (by
   obtain⟨es,clock,hb,Ft,hs,hD⟩:=hown;exact⟨es,clock,(Below.heap_alloc _ _ m CP).trans hb,Ft,hs,hD⟩)
 have cS:=AnyZ.sorted_in aa4 Fence.wide 5 trivial trivial trivial trivial rfl (by omega) (aa5 _) (enters_of func70 (by kernel_rfl) rfl) 231 #[.pointer (some ⟨w.heap.size,0,none⟩)] trivial (enters_of func231 (by kernel_rfl) rfl) _ _ (by unfold maxLen;omega) (by omega) _ LV;refine(Dr.1 cS).mono ?_;rintro e w'⟨v,ss,rfl,hS,Af,_,hb⟩;have MB:ss.Perm (F.map (·.1)):=(hS.trans ed.symm).trans ZH;have e1:ss.length=F.length:=by have:=MB.length_eq;simpa using this
 rw[e1,aym hu MB] at Af;exact⟨v,rfl,by rw[Ay] at Af;exact Af,((Ai _ w).alloc (Ae _) _).trans (hb.mono (by rw[Ay];omega))⟩
theorem aAg(W:World)(s:List UInt8):(Instr.field 109 (.agg #[.string (bs s)]) 0).run prog W=.ok (.string (bs s)) W:=by
 simp[Instr.field,Hd underlying109,go_sem,asAgg,Result.andThen]
def pz(W:World)(k:Nat):Prop:=∃ o,W.heap[k]?=some o∧o.isCells=false
def May(Q:World→Nat→Prop)(n₀:Nat)(W:World)(k:Nat):Prop:=Q W k∨(n₀≤k∧pz W k)
structure Pz(Q:World→Nat→Prop)(n₀:Nat)(W W':World):Prop where
 upd:A7 (May Q n₀ W) W W'
 stay:∀ k,Q W' k→May Q n₀ W k∨W.heap.size≤k
theorem May.back{Q:World→Nat→Prop}{n₀:Nat}{A B:World}(h:Pz Q n₀ A B){k:Nat}(hk:May Q n₀ B k):May Q n₀ A k∨A.heap.size≤k:=by
 rcases hk with hk|⟨h1,o,h2,h3⟩
 ·exact h.stay k hk
 ·by_cases hlt:k < A.heap.size
  ·by_cases hm:May Q n₀ A k
   ·exact .inl hm
   ·exact .inl (.inr ⟨h1,o,(h.upd.block k hlt hm).symm.trans h2,h3⟩)
  ·exact .inr (by omega)
theorem Pz.trans{Q:World→Nat→Prop}{n₀:Nat}{A B C:World}(h:Pz Q n₀ A B)(k:Pz Q n₀ B C):Pz Q n₀ A C:=
 ⟨h.upd.trans k.upd (fun _ hi=>May.back h hi),fun i hi=>by
  rcases k.stay i hi with hi|hi
  ·exact May.back h hi
  ·exact .inr (Aw h.upd.size hi)⟩
theorem Pz.putObj{Q:World→Nat→Prop}{n₀:Nat}{W:World}{l:Nat}{o o':Obj}(hl:n₀≤l)(ho:W.heap[l]?=some o)(hc:o.isCells=false)(hQ:∀ k,Q (W.putObj l o') k→May Q n₀ W k∨W.heap.size≤k):Pz Q n₀ W (W.putObj l o'):=
 ⟨A7.of_grownBy (grownBy_putObj' W l o') (fun k e=>by cases e;exact .inr ⟨hl,o,ho,hc⟩),hQ⟩
theorem Pz.ayA{Q:World→Nat→Prop}{n₀:Nat}{W W':World}(h:A7 (May Q n₀ W) W W')(hQ:∀ k,k < W.heap.size→W'.heap[k]?=W.heap[k]?→Q W' k→Q W k):Pz Q n₀ W W':=
 ⟨h,fun k hk=>by
  by_cases hlt:k < W.heap.size
  ·by_cases hm:May Q n₀ W k
   ·exact .inl hm
   ·exact .inl (.inl (hQ k hlt (h.block k hlt hm) hk))
  ·exact .inr (by omega)⟩
abbrev gX:={ p:T×T // Fu p.1 p.2=true }
def qm(x:gX):Array Value:=#[.string (bs x.1.1),.string (bs x.1.2)]
theorem zV:∀ (F:M),Ag.Good F→∃ L:List gX,L.map (·.1)=F
 |[],_=>⟨[],rfl⟩
 |p :: F,h=>by
  obtain⟨L,hL⟩:=zV F (fun q hq=>h q (F9 _ hq));exact⟨⟨p,h p Gf⟩ :: L,by rw[Ca,hL]⟩
theorem ahj(mb:Option Nat)(w:World):
  Calls prog 84 #[.map mb] w fun e w'=>e=.returned (.func (.func 167) #[] #[.pointer (some ⟨w.heap.size,0,none⟩)])∧w'=w.alloc (.cells #[.map mb] 113):=by
 go_in
 go_wp2;go_ret;exact⟨rfl,rfl⟩
theorem ahk(n:Nat)(hn:1≤n)(Q:World→Nat→Prop)(n₀ Bx m:Nat)(F:M)(L:List gX)(hL:L.map (·.1)=F)(w:World)(hc:w.cell? ⟨Bx,0,none⟩=some (.map (some m)))(hM:CO w m F)(hlen:F.length≤1000000)(ak7:w.heap.size≤n₀)(hQ1:∀ W k,Q W k→k≠m∧k≠Bx)
  (hQ2:∀ W W' g,Bw w W→Bw W W'→W.heap.size≤g→Bb W' g 9→¬ Q W' g):
  SeqStopsK Fence.wide n prog 167 #[.pointer (some ⟨Bx,0,none⟩)] qm (Pz Q n₀) (fun ys=>ys=L) (fun _=>True) L.length w:=fun l J Jx W hW hJ _ hY h0=>by
 have Iq:=Cr hc;have eF:=hM.lt;have NP:=(hW.cell (p:=⟨Bx,0,none⟩) Iq).trans hc;have hM':=hM.below hW;have BQ:=hW.size;have El:L.length=F.length:=by rw[←hL,BP]
 have Aj:Bw W (W.alloc (.cells #[.map (some m)] 113)):=(Ai _ _).alloc (Ae _) _;have HS:=Hi (aty hM' hlen);have HM:=Hi hM';have HL:=Hi hL;have NB:=Hi El;have Fy:=Hi hlen;have HC:=Hi NP;have oD:=Hi hQ1;have yh:=Hi (fun W' g=>hQ2 W W' g hW);clear hc hM hM' hW hlen hQ1 hQ2 El hL;refine callsIn_of_wp func167 rfl trivial ?_ rfl;simp only[ntmps167,Jt,BG,Ht,Nat.reduceAdd,Nat.reduceSub,La,Lb,Lf,Lc,Ei,Gt];have hfK:Fence.wide.fn 169:=trivial;have hfS:Fence.wide.fn 168:=trivial
 gi_wp2_with (first
  |(gi_at_call 169;refine(Dr.2 (atc _ _)).mono ?_;rintro e w' ⟨rfl,rfl⟩)
  |(gi_at_call 168;refine(Dr.2 HS).mono ?_;rintro e W1 ⟨v,rfl,Af,LD⟩;obtain⟨q,cap,rfl⟩:=Bo Af))
 have hJ1:J [] W1:=hJ _ _ _ none h0 ⟨LD.os,LD.tape,LD.output,LD.size,fun k hk _=>LD.block k hk⟩ (fun r e=>by cases e);have Ck:=Hi Af;have Dc:=Hi LD;clear Af LD h0
 gi_loopw [9] (fun i wr=>∃ k:Nat,k≤F.length∧i=.int .i64 k∧J (L.take k) wr∧Pz Q n₀ W1 wr)
  (fun i _=>F.length -(intOf i).toNat)
 case atStart=>exact⟨0,AV _,rfl,by rw[Gg];exact hJ1,⟨A7.refl _ _,fun k hk=>.inl (.inl hk)⟩⟩
 case round=>
  obtain⟨k,hk,rfl,Na,FE⟩:=hrel;by_cases hlt:k < F.length
  ·have hkL:k < L.length:=(by rw[NB.out];exact hlt);obtain⟨g,rfl⟩:∃ g,q=some ⟨g,0,none⟩:=by
    rcases Ck.2 with⟨e1,e2⟩|⟨g,cap,_,e1,_⟩
    ·omega
    ·exact⟨g,by injection e1⟩
   have UQ:=Cn Ck (g:=g) rfl;have hgW:W.heap.size+1≤g:=by
    rcases Ck.2 with⟨e1,_⟩|⟨g',cap',_,e1,hb,_⟩
    ·injection e1 with e1;cases e1
    ·injection e1 with e1;cases e1;exact hb
   have hnq:¬ Q W1 g:=yh W1 g Dc (by omega) UQ;have Jm:¬ May Q n₀ W1 g:=by
    rintro(h|⟨_,o,h1,h2⟩)
    ·exact hnq h
    ·obtain⟨cs,fr,h3⟩:=UQ;rw[h1] at h3;cases h3;cases h2
   have ajM:∀ i,i < F.length→wr.cell? ⟨g,i,none⟩=W1.cell? ⟨g,i,none⟩:=fun i hi=>World.cell?_of_block (FE.upd.block g UQ.lt Jm)
   have Q4:=Dc.size;have hxF:F[k]=L[k].1:=by
    have e:(L.map (·.1))[k]?=F[k]? :=(by rw[HL.out]);rw[Jr,CJ hkL,CJ hlt] at e;simpa using e.symm
   have dX:wr.cell? ⟨g,k,none⟩=some (.string (bs L[k].1.1)):=by
    rw[ajM k hlt];have:=Ck.cells (g:=g) rfl k (encStr F[k].1) (by rw[Jr,Jr,CJ hlt];rfl);rw[add_plain,hxF] at this;exact this
   have Zv:wr.cell? ⟨Bx,0,none⟩=some (.map (some m)):=by
    refine(World.cell?_of_block (FE.upd.block Bx (by omega) ?_)).trans ((Dc.cell (p:=⟨Bx,0,none⟩) (by show Bx < W.heap.size;omega)).trans HC);rintro(h|⟨h1,_⟩)
    ·exact(oD _ _ h).2 rfl
    ·omega
   have hmr:CO wr m F:=by
    refine(HM.below Dc).upd FE.upd ?_;rintro(h|⟨h1,_⟩)
    ·exact(oD _ _ h).1 rfl
    ·omega
   have V9:(L[k].1.1,L[k].1.2)∈F:=by
    rw[←hxF];exact CQ hlt
   have hgx:=get_mem hmr.1 V9;have lK:=L[k].2;have hxb:L[k].1.1.length≤32∧L[k].1.2.length≤65535:=(by unfold Fu at lK;simp at lK;exact⟨lK.2.1,lK.2.2⟩);have IL:=hmr.lookup L[k].1.1 (by unfold maxLen;omega);rw[hgx,Option.getD_some] at IL;have Iu:=IB prog 61 9 underlying61 1 (by kernel_rfl) ⟨g,0,none⟩ F.length cap k hlt;rw[add_plain,Nat.mul_one] at Iu;have Cv:=Hi (show L.take (k+1)=L.take k++[L[k]] by rw[List.take_add_one,CJ hkL];rfl);obtain⟨fn,tmps,assign,body,hy,hR⟩:=hY _ L[k] wr Na (by rw[AZ];omega);unfold qm at hy;have Di:=Hi FE;clear UQ hgW hnq Jm ajM hxF hmr V9 hgx lK hxb FE Na Q4;generalize L[k]=x at*;clear hkL;obtain⟨⟨xn,xd⟩,hxx⟩:=x;simp only at dX IL hy;have XU:=fun W=>aAg W xd
   have hFL:=Fy.out
   gi_wp2
   refine hR.mono ?_;rintro e W3 (⟨rfl,hJ3,XZ⟩|⟨rfl,aaB⟩)
   ·gi_wp2
    go_roundw
    case rel=>exact⟨k+1,by omega,by simp,by rw[Cv.out];exact hJ3,Di.trans XZ⟩
    case measure=>simp[intOf];omega
   ·gi_wp2
    refine EU (results_none rfl _ _ _) rfl ?_;exact⟨⟨_,rfl⟩,.inr ⟨_,trivial,aaB⟩⟩
  ·obtain rfl:k=F.length:=by omega
   gi_wp2
   go_end0
   exact⟨⟨_,rfl⟩,.inl ⟨_,rfl,by rw[←NB.out,Da] at Na;exact Na⟩⟩
end
section
open Go.Sort Go.Shelf
open Ag
attribute [local go_sem] O8
theorem aB9{fn:Func}{q:Tmp}(h:fn.results=#[.cell q 61])(tmps:Array Value)(w:World)(g:Nat)(p:Option Addr)(n c:Nat)(hq:tmps.getD q undef=.pointer (some ⟨g,0,none⟩))(hc:w.cell? ⟨g,0,none⟩=some (.slice p n c)):
  (results fn tmps).run prog w=.ok (.slice p n c) w:=by
 have hq':tmps[q]?.getD undef=.pointer (some ⟨g,0,none⟩):=by simpa using hq
 simp only[results,h];simp[hq',asAddr];go_simp
def yM(B m:Nat)(W:World)(k:Nat):Prop:=k=B∨(k≠m∧k≠B+1∧∃ v,W.cell? ⟨B,0,none⟩=some v∧v.ownBlock=some k)
theorem alY{B m:Nat}(hm:m < B)(W:World)(k:Nat)(h:yM B m W k):k≠m∧k≠B+1:=by
 rcases h with rfl|⟨h1,h2,_⟩
 ·omega
 ·exact⟨h1,h2⟩
theorem Bb.TR{W:World}{k:Nat}{t:TypeId}(h:Bb W k t):¬ pz W k:=by
 obtain⟨cs,fr,h⟩:=h;rintro⟨o,h1,h2⟩;rw[h] at h1;cases h1;cases h2
theorem aok{A B:World}{row:Option Nat}{n:Nat}(hg:A.grownBy B row)(hr:∀ r,row=some r→n≤r∧∃ o:Obj,A.heap[r]?=some o∧o.isCells=false):A7 (fun k=>n≤k∧pz A k) A B:=
 A7.of_grownBy hg (fun k e=>hr k e)
theorem Xn{W:World}{B:Nat}{t:TypeId}{v:Value}(h:Boxed W B t v):Bb W B t:=⟨_,_,h⟩
theorem cO{F:Nat→Prop}{W W':World}{B:Nat}{t:TypeId}{v:Value}(h:Boxed W B t v)(hu:A7 F W W')(hF:¬ F B):Boxed W' B t v:=(hu.block B h.lt hF).trans h
theorem ate{w:World}{y b m x:Nat}{gv:Value}{F:St}(h:Db w y b m x gv F)(hg:Ag.Good F.m)(hlen:F.m.length≤1000000):
  Calls prog 28 #[.pointer (some ⟨y,0,none⟩)] w fun e w'=>∃ v,e=.returned v∧w'.ownsRow 0 9 1 v F.m.length (strCells (F.m.map (·.1)))∧Bw w w'∧∀ k,v.ownBlock=some k→w.heap.size≤k:=by
 have hy:y < w.heap.size:=Ao h.struct;have eF:=h.map.lt;obtain⟨_,_,_,_,c4,_⟩:=h.cells;have HM:=Hi h.map;have HG:=Hi hg;have Fy:=Hi hlen;clear h hg hlen;refine(Dr (n:=6)).1 ?_;refine callsIn_of_wp_marks func28 rfl trivial ?_ rfl;simp only[ntmps28,Jt,BG,Ht,Nat.reduceAdd,Nat.reduceSub,La,Lb,Lf,Lc,Ei,Gt];have hfK:Fence.wide.fn 84:=trivial
 gi_wp2_with (gi_at_call 84;refine(Dr.2 (ahj _ _)).mono ?_;rintro e w1 ⟨rfl,rfl⟩)
 have PI:Boxed ((w.alloc (.cells #[.slice none 0 0] 61)).alloc (.cells #[.map (some m)] 113)) w.heap.size 61 (.slice none 0 0):=(Boxed.new w 61 (.slice none 0 0)).alloc _;have jS:Boxed ((w.alloc (.cells #[.slice none 0 0] 61)).alloc (.cells #[.map (some m)] 113)) (w.heap.size+1) 113 (.map (some m)):=by
  have:=Boxed.new (w.alloc (.cells #[.slice none 0 0] 61)) 113 (.map (some m));rwa[Ay] at this
 have Bg:Bw w ((w.alloc (.cells #[.slice none 0 0] 61)).alloc (.cells #[.map (some m)] 113)):=((Ai _ _).alloc (Ae _) _).alloc (by simp) _;have TF:((w.alloc (.cells #[.slice none 0 0] 61)).alloc (.cells #[.map (some m)] 113)).heap.size=w.heap.size+2:=by rw[Ay,Ay]
 have XG:=HM.below Bg;obtain⟨L,hL⟩:=zV F.m HG.out;have qX:L.length=F.m.length:=by rw[←hL,BP]
 generalize (w.alloc (.cells #[.slice none 0 0] 61)).alloc (.cells #[.map (some m)] 113)=W0 at*;have LV:=ahk 5 (by omega) (yM w.heap.size m) (w.heap.size+2) (w.heap.size+1) m F.m L hL W0 jS.cell XG Fy (by omega) (fun W k hk=>alY eF W k hk)
  (fun W W' g hW jQ hg CP hq=>by
   have h1:=hW.size;rcases hq with rfl|⟨_,_,v,hv,hvb⟩
   ·omega
   ·rw[jQ.cell (p:=⟨w.heap.size,0,none⟩) (by show w.heap.size < _;omega),hW.cell (p:=⟨w.heap.size,0,none⟩) (by show w.heap.size < _;omega),PI.cell] at hv;cases hv;simp[Value.ownBlock] at hvb)
 obtain⟨i0,Bl,AY,Ba,Be⟩:=DC TV;have yo:=Hi LV;clear LV;refine wpIn_rangeFunc_ownH (n:=6) rfl (by omega) (gf:=167) (lb:=#[.pointer (some ⟨w.heap.size+1,0,none⟩)]) rfl trivial (enters_of func167 (by kernel_rfl) rfl) yo (fun h k=>h.trans k)
  (fun W l o o' hl ho hc _=>Pz.putObj (by omega) ho hc (fun k hk=>?abG)) (Ai _ _) (fun _=>rfl)
  (fun pre W=>(Boxed W (w.heap.size+1) 113 (.map (some m))∧∃ v,Boxed W w.heap.size 61 v∧W.ownsRow w.heap.size 9 1 v pre.length (strCells (pre.map (·.1.1))))∧Bw w W)
  (fun _ _ _=>False)
  (fun s A B row hs hg hr=>?hown)
  (fun _ _ _ _ _ hs _ _=>hs)
  ⟨⟨jS,_,PI,by rw[Kr,mR];exact DZ _ _ _ _⟩,Bg⟩
  (fun x a' _=>a'={ tmps:=#[.pointer (some ⟨y,0,none⟩),undef,.pointer (some ⟨w.heap.size,0,none⟩),.string (bs x.1.1),.pointer (some ⟨y,0,none⟩),.bool false,.pointer (some ⟨y,0,none⟩),.pointer (some ⟨y,0,none⟩),.pointer (some ⟨y,4,none⟩),.map (some m),.func (.func 167) #[] #[.pointer (some ⟨w.heap.size+1,0,none⟩)],.string (bs x.1.1),.string (bs x.1.2),undef,undef,undef,undef,undef],defers:=[] })
  (fun x a' _ X Y row hs hg hr=>hs)
  ?assign ?body ?done ?stop
 case abG=>
  have hlt:l < W.heap.size:=Ao ho;rcases hk with rfl|⟨h1,h2,v,h3,h4⟩
  ·exact .inl (.inl (.inl rfl))
  ·refine .inl (.inl (.inr ⟨h1,h2,v,?_,h4⟩));rw[←h3];exact((A7.of_grownBy (F:=fun k=>k=l) (grownBy_putObj' W l o') (fun k e=>by cases e;rfl)).cell (p:=⟨w.heap.size,0,none⟩) (by show w.heap.size < _;omega) (by show ¬ w.heap.size=l;omega)).symm
 case hown=>
  have hu:=aok hg hr;obtain⟨⟨g1,v,g2,g3⟩,g4⟩:=hs;exact⟨⟨cO g1 hu (fun h=>(Xn g1).TR h.2),v,cO g2 hu (fun h=>(Xn g2).TR h.2),Bv g3 hu (fun g hg h=>(Cn g3 hg).TR h.2)⟩,Cy g4 hu (fun i hi=>by omega) g4.size⟩
 case assign=>
  rintro l pre x W K hI hK;unfold qm
  gi_wp2
  exact hK _ _ ((KeepsOthers.refl _).from _) ⟨A7.refl _ _,fun k hk=>.inl (.inl hk)⟩ hI rfl
 case body=>
  rintro l pre x a' W hl⟨r,hr⟩ ⟨⟨g1,v,g2,g3⟩,g4⟩ rfl hlt;have hv:=g2.cell;have hf:=g2.frozen;have aDI:=g2.lt;have aEn:(pre.map (·.1.1)).length=pre.length:=BP _;have FV:pre.length≤1000000:=by have:=Fy.out;omega
  have aEG:=g4.size;have IG:=Hi g1;have Dg:=Hi g2;have FR:=Hi g3;have GR:=Hi g4;have auu:1≤6 -1 -1:=by omega
  clear g1 g2 g3 g4
  gi_wp2_with (gi_at_builtin;refine wpListIn_append_own_at _ rfl _ _ 61 rfl w.heap.size 9 i0 _ 1 16 underlying61 Bl AY Ba Be rfl (by decide) _ _ _ rfl (FR.alloc _) ⟨W.heap.size,0,none⟩ 1 1 [.string (bs x.1.1)] rfl rfl (cell_one_new _ _ _) (by simp[Value.oneCell']) (by unfold maxLen;omega) (by omega) (by simp;omega) ?_;intro v' w1 Cb AJ _ hat;obtain⟨g',cap',rfl⟩:=ownsRow_succ Cb;obtain⟨Q8,J4,DK,I6,Ac⟩:=Dg.appended (by decide) FR GR.size (Ae _) Cb AJ;have GH:=Q8.cell;have XT:=Q8.frozen)
  have Et:A7 (May (yM w.heap.size m) (w.heap.size+2) W) W (w1.setCell ⟨w.heap.size,0,none⟩ (.slice (some ⟨g',0,none⟩) (pre.length+1) cap')):=by
   refine(((A7.refl _ W).alloc _).trans (G:=fun k=>v.ownBlock=some k) (A7.of_grownBy AJ (fun k e=>e)) (fun k hk=>.inl (.inl (.inr ⟨?_,?_,v,Dg.cell,hk⟩)))).setCell (p:=⟨w.heap.size,0,none⟩) (.inl (.inl (.inl rfl))) _
   ·intro e;subst e;rcases FR.2 with⟨e1,_⟩|⟨g,cap,cur,e1,Mq,_⟩
    ·subst e1;simp[Value.ownBlock] at hk
    ·subst e1;simp[Value.ownBlock] at hk;omega
   ·intro e;subst e;exact Bb.ne (Cn FR hk) (Xn IG) (by decide) rfl
  have Ec:Boxed (w1.setCell ⟨w.heap.size,0,none⟩ (.slice (some ⟨g',0,none⟩) (pre.length+1) cap')) (w.heap.size+1) 113 (.map (some m)):=by
   refine cO IG Et ?_;rintro(h|⟨_,h⟩)
   ·exact(alY eF _ _ h).2 rfl
   ·exact(Xn IG).TR h
  refine⟨I6.from _,⟨Et,fun k hk=>?_⟩,⟨Ec,_,J4,?_⟩,GR.trans Ac⟩
  ·rcases hk with rfl|⟨h1,h2,u,h3,h4⟩
   ·exact .inl (.inl (.inl rfl))
   ·rw[J4.cell] at h3;cases h3;rcases hat with hat|hat
    ·rw[hat] at h4;exact .inl (.inl (.inr ⟨h1,h2,v,Dg.cell,h4⟩))
    ·rw[hat] at h4;cases h4;exact .inr (by rw[Ay];omega)
  ·rw[AA,CK]
   show World.ownsRow _ _ _ _ _ (pre.length+1) (strCells (pre.map (·.1.1)++[x.1.1]))
   rw[Sn];exact DK
 case done=>
  rintro DD ys W hDD rfl⟨⟨g1,v,g2,g3⟩,g4⟩ hK;have hv:=g2.cell;have hf:=g2.frozen;have Dg:=Hi g2;have FR:=Hi g3;have GR:=Hi g4;obtain⟨q,cap,rfl⟩:=Bo g3;clear g1 g2 g3 g4
  gi_wp2
  have Dv:(W.setCell ⟨w.heap.size,0,none⟩ (.slice q F.m.length cap)).heap[DD]?=some (.deferred (some [])):=(KeepsOthers.setCell _ _ _).same DD _ hK rfl;refine⟨by simp,.inl ⟨_,_,rfl,run_takeDeferred Dv,?_⟩⟩;have hu:A7 (fun k=>k=w.heap.size∨k=DD) W ((W.setCell ⟨w.heap.size,0,none⟩ (.slice q F.m.length cap)).putObj DD (.deferred none)):=
   ((A7.refl (fun k=>k=w.heap.size∨k=DD) W).setCell (p:=⟨w.heap.size,0,none⟩) (.inl (.inl rfl)) _).trans (G:=fun k=>k=DD) (A7.of_grownBy (grownBy_putObj' _ DD (.deferred none)) (fun k e=>by cases e;rfl)) (fun k e=>.inl (.inr e))
  have Et:A7 (fun k=>k=DD) (W.setCell ⟨w.heap.size,0,none⟩ (.slice q F.m.length cap)) ((W.setCell ⟨w.heap.size,0,none⟩ (.slice q F.m.length cap)).putObj DD (.deferred none)):=A7.of_grownBy (grownBy_putObj' _ DD (.deferred none)) (fun k e=>by cases e;rfl);have LF:Boxed (W.setCell ⟨w.heap.size,0,none⟩ (.slice q F.m.length cap)) w.heap.size 61 (.slice q F.m.length cap):=Dg.set _;have Ap:Boxed ((W.setCell ⟨w.heap.size,0,none⟩ (.slice q F.m.length cap)).putObj DD (.deferred none)) w.heap.size 61 (.slice q F.m.length cap):=cO LF Et (by show ¬ w.heap.size=DD;omega);refine⟨_,aB9 rfl _ _ w.heap.size q _ cap rfl Ap.cell,_,rfl,?_,Cy GR hu (fun i hi=>by rcases hi with rfl|rfl<;>omega) GR.size,fun k hk=>?_⟩
  ·have e1:ys.map (·.1.1)=F.m.map (·.1):=by rw[←hL,Kq];rfl
   have this:=Bv FR hu (fun g hg h=>by
    have OB:=Cn FR hg;rcases h with rfl|rfl
    ·exact Bb.ne OB (Xn Dg) (by decide) rfl
    ·exact OB.TR ⟨_,hK,rfl⟩)
   have aoa:World.ownsRow _ 0 _ _ _ _ _:=⟨this.1,by
    rcases this.2 with h|⟨g,c,cur,h1,_,h3⟩
    ·exact .inl h
    ·exact .inr ⟨g,c,cur,h1,AV _,h3⟩⟩
   rw[e1,qX] at aoa;exact aoa
  ·rcases FR.2 with⟨e1,_⟩|⟨g,c,cur,e1,Mq,_⟩
   ·rw[←qX,e1] at hk;simp[Value.ownBlock] at hk
   ·rw[←qX,e1] at hk;simp[Value.ownBlock] at hk;omega
 case stop=>
  rintro DD c pre W _ _ h _;exact h.elim
end
section
open Go.Sort Go.Shelf
open Ag
attribute [local go_sem] O8
def wM(B m Bx:Nat)(W:World)(k:Nat):Prop:=k=B∨(k≠m∧k≠Bx∧Bb W k 5)
theorem Ej.kind{w:World}{b:Nat}{l:List UInt8}{fp:Nat→Prop}(h:Ej w b l fp){k:Nat}(hk:fp k):k=b∨Bb w k 5:=by
 obtain⟨p,v,_,_,h3,_,_,rfl⟩:=h;rcases hk with hk|hk
 ·exact .inl hk
 ·exact .inr (Cn h3 hk)
theorem Ej.blk{w:World}{b:Nat}{l:List UInt8}{fp:Nat→Prop}(h:Ej w b l fp):Bb w b 210:=by
 obtain⟨p,v,h1,_⟩:=h;exact⟨_,_,h1⟩
theorem ax4{F:Nat→Prop}{W W':World}(n:Nat)(hu:A7 F W W')(hF:∀ k,F k→¬ pz W k):KeepsFrom n W W':=
 ⟨hu.size,fun k o _ ho hc=>(hu.block k (Ao ho) (fun h=>hF k h ⟨o,ho,hc⟩)).trans ho⟩
theorem agM(x:gX):x.1.1.length≤32∧x.1.2.length≤65535:=by
 have h:=x.2;unfold Fu at h;simp at h;exact⟨h.2.1,h.2.2⟩
theorem asA(pre:List gX):((pre.map (·.1)).flatMap Ta).length≤65575*pre.length:=by
 rw[qB]
 induction pre with
 |nil=>simp
 |cons x pre ih=>
  have:=agM x;have hc:cost x.1=8+x.1.1.length+x.1.2.length:=rfl;rw[Ca,Ca,DR,BG];omega
theorem asH{w:World}{m:Nat}{F:M}(h:CO w m F)(hg:Ag.Good F)(hc:used F≤1000000):
  Calls prog 135 #[.map (some m)] w fun e w'=>e=.returned (.string (bs (Ag.bytes F)))∧Bw w w':=by
 have eF:=h.lt;have I9:=Rf F;have avS:F.length≤1000000:=by omega
 have UT:=h.below ((Ai w.heap.size w).alloc (Ae _) (.cells #[.pointer none,.slice none 0 0] 210));have kN:=fun ty=>UT.len ty
 have HM:=Hi UT;have HG:=Hi hg;have HC:=Hi hc;have Ps:=Hi I9;have AR:=Hi ((Ai w.heap.size w).alloc (Ae _) (.cells #[.pointer none,.slice none 0 0] 210));have DV:=Hi (Ej.made w);clear h hg hc I9 UT;refine(Dr (n:=6)).1 ?_;refine callsIn_of_wp_marks func135 rfl trivial ?_ rfl;simp only[ntmps135,Jt,BG,Ht,Nat.reduceAdd,Nat.reduceSub,La,Lb,Lf,Lc,Ei,Gt]
 gi_wp2
 refine⟨trivial,(Dr.2 (qE F.length _ (by omega))).mono ?_⟩;rintro e w1⟨rfl,hb⟩;have Qj:=Hi (DV.upd (ub hb) (fun _ _ f=>f));have HB1:=bH AR hb;have bF:=Hi (HM.below hb);clear hb
 gi_wp2
 refine⟨trivial,(Dr.2 (Xq Qj (A9.le 4 F.length) (by simp[A9.C9]))).mono ?_⟩;rintro e w2⟨rfl,fp2,XM,Et,Mx⟩;have rV:∀ k,fp2 k→w.heap.size≤k:=fun k hk=>by
  rcases Mx k hk with h|h
  ·rcases h with rfl|h
   ·exact Ae _
   ·simp[Value.ownBlock] at h
  ·exact Aw HB1.size h
 have aau:∀ k,(k=w.heap.size∨(Value.slice none 0 0).ownBlock=some k)→k=w.heap.size:=fun k hk=>by
  rcases hk with h|h
  ·exact h
  ·simp[Value.ownBlock] at h
 have Ak:=Hi (Cy HB1 Et (fun k hk=>by rw[aau k hk];exact Ae _) HB1.size);have bG:=Hi (bF.upd Et (fun hk=>by have:=aau m hk;omega));have Pf:=Hi XM;have iI:=Hi rV;clear Qj HB1 bF XM Et Mx rV aau DV AR HM kN
 gi_wp2
 refine⟨trivial,(Dr.2 (ahj _ _)).mono ?_⟩;rintro e w3⟨rfl,rfl⟩;have jS:Boxed (w2.alloc (.cells #[.map (some m)] 113)) w2.heap.size 113 (.map (some m)):=Boxed.new w2 _ _;have LF:Bw w2 (w2.alloc (.cells #[.map (some m)] 113)):=(Ai _ _).alloc (Ae _) _;have XG:=bG.below LF;have aiH:=Pf.upd (ub LF) (fun _ _ f=>f);have Bg:=Ak.trans (LF.mono Ak.size);have Wv:(w2.alloc (.cells #[.map (some m)] 113)).heap.size=w2.heap.size+1:=by rw[Ay]
 have hbB:w.heap.size < w2.heap.size:=Pf.lt _ Pf.own;obtain⟨L,hL⟩:=zV F HG.out;have qX:L.length=F.length:=by rw[←hL,BP]
 generalize w2.alloc (.cells #[.map (some m)] 113)=W0 at*;generalize w2.heap.size=Bx at*
 have LV:=ahk 5 (by omega) (wM w.heap.size m Bx) (Bx+1) Bx m F L hL W0 jS.cell XG avS (by omega) (fun W k hk=>by
   rcases hk with rfl|⟨h1,h2,_⟩
   ·omega
   ·exact⟨h1,h2⟩)
  (fun W W' g hW jQ hg CP hq=>by
   have h1:=hW.size;rcases hq with rfl|⟨_,_,h3⟩
   ·omega
   ·exact Bb.ne CP h3 (by decide) rfl)
 have yo:=Hi LV;have o9:=Hi XG;have ap5:=Hi aiH;have AR:=Hi Bg;clear LV XG aiH Bg LF bG Pf Ak
 gi_wp2
 refine wpIn_rangeFunc_ownH (n:=6) rfl (by omega) (gf:=167) (lb:=#[.pointer (some ⟨Bx,0,none⟩)]) rfl trivial (enters_of func167 (by kernel_rfl) rfl) yo (fun h k=>h.trans k)
  (fun W l o o' hl ho hc _=>Pz.putObj (by omega) ho hc (fun k hk=>?abG)) (Ai _ _) (fun _=>rfl)
  (fun pre W=>(CO W m F∧Boxed W Bx 113 (.map (some m))∧∃ fp,Ej W w.heap.size (A9.le 4 F.length++(pre.map (·.1)).flatMap Ta) fp∧∀ k,fp k→w.heap.size≤k)∧Bw w W)
  (fun _ _ _=>False)
  (fun s A B row hs hg hr=>?hown)
  (fun _ _ _ _ _ hs _ _=>hs)
  ⟨⟨o9,jS,fp2,by rw[Kr,List.flatMap_nil,Ea];exact ap5.out,iI⟩,AR⟩
  (fun x a' _=>a'={ tmps:=#[.map (some m),undef,.string { data:=#[] },.pointer (some ⟨w.heap.size,0,none⟩),.string (bs x.1.1),.string (bs x.1.2),.map (some m),.int .i64 (F.length:Int),.string (bs (A9.le 4 F.length)),.tuple #[.int .i64 4,.nilIface],.map (some m),.func (.func 167) #[] #[.pointer (some ⟨Bx,0,none⟩)],.string (bs x.1.1),.string (bs x.1.2),undef,undef,undef,undef,undef,undef,undef,undef,undef,undef,undef,undef,undef],defers:=[] })
  (fun x a' _ X Y row hs hg hr=>hs)
  ?assign ?body ?done ?stop
 case abG=>
  have hlt:l < W.heap.size:=Ao ho;by_cases e:k=l
  ·exact .inl (.inr ⟨by omega,o,by rw[e];exact ho,hc⟩)
  ·refine .inl (.inl ?_);have hu:=A7.of_grownBy (F:=fun k=>k=l) (grownBy_putObj' W l o') (fun k e=>by cases e;rfl);rcases hk with hk|⟨h1,h2,h3⟩
   ·exact .inl hk
   ·refine .inr ⟨h1,h2,?_⟩;obtain⟨cs,fr,h4⟩:=h3;by_cases I6:k < W.heap.size
    ·exact⟨cs,fr,(hu.block k I6 e).symm.trans h4⟩
    ·exact absurd (Ao h4) (by rw[show(W.putObj l o').heap.size=W.heap.size by simp[World.putObj]];exact I6)
 case hown=>
  have hu:=aok hg hr;obtain⟨⟨g1,g2,fp,g3,g4⟩,g5⟩:=hs;refine⟨⟨g1.upd hu (fun h=>by have:=g1.lt;omega),cO g2 hu (fun h=>(Xn g2).TR h.2),fp,g3.upd hu (fun k hk h=>?_),g4⟩,Cy g5 hu (fun i hi=>by omega) g5.size⟩;rcases g3.kind hk with rfl|hk
  ·exact g3.blk.TR h.2
  ·exact hk.TR h.2
 case assign=>
  rintro l pre x W K hI hK;unfold qm
  gi_wp2
  exact hK _ _ ((KeepsOthers.refl _).from _) ⟨A7.refl _ _,fun k hk=>.inl (.inl hk)⟩ hI rfl
 case body=>
  rintro l pre x a' W hl⟨r,hr⟩ ⟨⟨g1,g2,fp,g3,g4⟩,g5⟩ rfl hlt;have IG:=Hi g1;have Dg:=Hi g2;have FR:=Hi g3;have GR:=Hi g4;have GU:=Hi g5;have auu:1≤6 -1 -1:=by omega
  obtain⟨Em,Ec⟩:=agM x;have FV:=asA pre;have aEv:pre.length≤1000000:=by omega
  clear g1 g2 g3 g4 g5 hr
  gi_wp2
  refine⟨trivial,(CallsIn.inRound l (Dr.2 (qE x.1.1.length _ (by omega)))).mono ?_⟩;rintro e w4⟨rfl,AB⟩
  gi_wp2
  refine⟨trivial,(CallsIn.inRound l (Dr.2 (qE x.1.2.length _ (by omega)))).mono ?_⟩;rintro e w5⟨rfl,BF⟩;have wW:=bH AB BF;clear AB BF;have ap6:=Hi (FR.upd (ub wW) (fun _ _ f=>f))
  gi_wp2
  refine⟨trivial,(CallsIn.inRound l (Dr.2 (Xq ap6 (A9.le 4 x.1.1.length++(x.1.1++(A9.le 4 x.1.2.length++x.1.2))) (by simp only[AA,A9.C9];omega)))).mono ?_⟩;rintro e w6⟨rfl,fp6,aiI,Kj,hs6⟩;have KJ:=Hi ((A7.of_below (F:=fp) wW).trans Kj (fun k hk=>.inl hk));have ap7:=Hi aiI;have Xb:=Hi hs6;clear aiI Kj hs6
  gi_wp2
  have dY:∀ k,fp k→k=w.heap.size∨Bb W k 5:=fun k hk=>FR.kind hk
  have avz:∀ k,fp k→wM w.heap.size m Bx W k:=fun k hk=>by
   rcases dY k hk with h|h
   ·exact .inl h
   ·refine .inr ⟨fun e=>?_,fun e=>?_,h⟩
    ·subst e;exact IG.Dl h
    ·subst e;exact Bb.ne h (Xn Dg) (by decide) rfl
  have hu:A7 (May (wM w.heap.size m Bx) (Bx+1) W) W w6:=KJ.mono (fun k hk=>.inl (avz k hk));refine⟨ax4 _ KJ (fun k hk h=>?_),Pz.ayA hu (fun k hk he hq=>?_),⟨IG.upd KJ (fun hk=>?_),cO Dg KJ (fun hk=>?_),fp6,?_,fun k hk=>?_⟩,Cy GU KJ (fun k hk=>GR k hk) GU.size⟩
  ·rcases dY k hk with rfl|h2
   ·exact FR.blk.TR h
   ·exact h2.TR h
  ·rcases hq with rfl|⟨h1,h2,cs,fr,h3⟩
   ·exact .inl rfl
   ·exact .inr ⟨h1,h2,cs,fr,he.symm.trans h3⟩
  ·have:=GR m hk;omega
  ·rcases dY _ hk with h2|h2
   ·omega
   ·exact Bb.ne h2 (Xn Dg) (by decide) rfl
  ·rw[CK,MJ,Ca,Kr,Qg,List.flatMap_nil,Ea,←Dz];exact ap7.out
  ·rcases Xb k hk with h|h
   ·exact GR k h
   ·exact Aw GU.size (Aw wW.size h)
 case done=>
  rintro DD ys W hDD rfl⟨⟨g1,g2,fp,g3,g4⟩,g5⟩ hK;have FR:=Hi g3;have GR:=Hi g4;have GU:=Hi g5;clear g1 g2 g3 g4 g5
  gi_wp2
  refine⟨trivial,(Dr.2 (Xp FR)).mono ?_⟩;rintro e w6⟨rfl,Kj⟩
  gi_wp2
  have Dv:w6.heap[DD]?=some (.deferred (some [])):=(Kj.block DD (Ao hK) (fun h=>by
   rcases FR.kind h with e|e
   ·omega
   ·exact e.TR ⟨_,hK,rfl⟩)).trans hK
  refine⟨by simp,.inl ⟨_,_,rfl,run_takeDeferred Dv,?_⟩⟩;have hu:A7 (fun k=>k=DD) w6 (w6.putObj DD (.deferred none)):=A7.of_grownBy (grownBy_putObj' w6 DD (.deferred none)) (fun k e=>by cases e;rfl);have CS:=Cy GU Kj (fun k hk=>GR k hk) GU.size;exact⟨_,(by simp[results,results135,go_sem];rfl),rfl,Cy CS hu (fun k hk=>by subst hk;omega) CS.size⟩
 case stop=>
  rintro DD c pre W _ _ h _;exact h.elim
