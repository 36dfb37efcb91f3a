/- FilRep2 -/
import Derived.Test.YtmbbhdebddbhoaaGreatQ8
import Derived.Maps.RangeWalk
import Derived.Sort.KeysCollected
set_option maxHeartbeats 1000000
set_option maxRecDepth 100000
set_option linter.all false
namespace Go.Proofs.YtmbbhdebddbhoaaGreat
open Tryz
section
open Go.RowKit Go.Maps
open Fil
theorem QG{kv:List (List UInt8×Value)}(hn:(kv.map (·.1)).Nodup){k:List UInt8}{v:Value}:Cr kv k=some v↔(k,v)∈kv:=by
 refine⟨WA,fun hm=>?_⟩
 induction kv with
 |nil=>simp at hm
 |cons p kv ih=>
  simp only[Bg,Hu] at hn;unfold Cr;rcases AZ.1 hm with e|hm
  ·subst e;simp
  ·have:¬ p.1=k:=fun e=>hn.1 (by rw[e];exact ES (f:=(·.1)) hm)
   rw[List.find?_cons_of_neg (by simpa using this)];exact ih hn.2 hm
theorem Si{kv Sj:List (List UInt8×Value)}(hn:(kv.map (·.1)).Nodup)(h:kv.Perm Sj)(k:List UInt8):Cr kv k=Cr Sj k:=by
 have hn':(Sj.map (·.1)).Nodup:=(h.map (·.1)).nodup_iff.1 hn;cases h1:Cr kv k with
 |none=>
  cases h2:Cr Sj k with
  |none=>rfl
  |some v=>
   have:=(QG hn).2 (h.mem_iff.2 ((QG hn').1 h2));rw[h1] at this;cases this
 |some v=>exact((QG hn').2 (h.mem_iff.1 ((QG hn).1 h1))).symm
theorem iG{kv Sj:List (List UInt8×Value)}(h:kv.Perm Sj)(k:List UInt8):(FP k kv).Perm (FP k Sj):=h.filter _
def KD(F:M):List (List UInt8×Value):=F.map fun p=>(p.1,.agg #[.string (bs p.2)])
theorem iH(F:M)(k:List UInt8):Cr (KD F) k=(Fil.get F k).map fun s=>.agg #[.string (bs s)]:=by
 induction F with
 |nil=>rfl
 |cons p F ih=>
  unfold Cr Fil.get KD;rw[Bg];by_cases h:p.1=k
  ·subst h;simp
  ·rw[List.find?_cons_of_neg (by simpa using h),List.find?_cons_of_neg (by simpa using h)];exact ih
theorem vU(F:M)(k:List UInt8):FP k (KD F)=KD (del k F):=by
 unfold FP KD del;rw[List.filter_map];rfl
def BJ(w:World)(m:Nat)(F:M):Prop:=Up F∧∃ kv:List (List UInt8×Value),kv.Perm (KD F)∧StrMap prog 9 w m kv
theorem ahb:(prog.info? 177).map (fun i=>(i.zero,i.size))=some (some (.agg #[.string ByteArray.empty]),1):=by kernel_rfl
theorem vV(w:World):(zeroValue 177).run prog w=.ok (.agg #[.string ByteArray.empty]) w:=(zero_of_info ahb).1 w
section
variable {w w':World}{m:Nat}{F:M}
theorem BJ.lt(h:BJ w m F):m < w.heap.size:=h.2.choose_spec.2.lt
theorem BJ.kept(h:BJ w m F)(e:w'.heap[m]?=w.heap[m]?):BJ w' m F:=by
 obtain⟨h1,kv,h2,h3⟩:=h;exact⟨h1,kv,h2,h3.kept e⟩
theorem BJ.upd{P:Nat→Prop}(h:BJ w m F)(hu:A7 P w w')(hP:¬ P m):BJ w' m F:=h.kept (hu.block m h.lt hP)
theorem BJ.below(h:BJ w m F)(hb:Bw w w'):BJ w' m F:=h.kept (hb.block m h.lt)
theorem BJ.made(w:World):BJ (w.alloc (.map #[] 0)) w.heap.size []:=⟨Up.nil,[],List.Perm.nil,StrMap.made w⟩
theorem BJ.is(h:BJ w m F):∃ es clock,w.heap[m]?=some (.map es clock):=by
 obtain⟨_,kv,_,_,D,⟨es,clock,hm,_⟩,_⟩:=h;exact⟨es,clock,hm⟩
theorem BJ.BV(h:BJ w m F){t:TypeId}:¬ Ap w m t:=by
 obtain⟨es,clock,hm⟩:=h.is;rintro⟨cs,fr,hb⟩;rw[hm] at hb;injection hb with hb
 cases hb
theorem BJ.nodup{kv:List (List UInt8×Value)}(h2:kv.Perm (KD F))(h1:Up F):(kv.map (·.1)).Nodup:=by
 rw[(h2.map (·.1)).nodup_iff];unfold KD;rw[List.map_map];exact h1.nodup
theorem BJ.lookup(h:BJ w m F)(k:List UInt8)(hk:k.length≤maxLen):
  (Instr.lookup 110 (.map (some m)) (.string (bs k)) false).run prog w=.ok (.agg #[.string (bs ((Fil.get F k).getD []))]) w:=by
 obtain⟨h1,kv,h2,h3⟩:=h;rw[h3.lookup underlying9 underlying110 (vV w) k hk,Si (BJ.nodup h2 h1) h2,iH];cases Fil.get F k<;>rfl
theorem BJ.RZ(h:BJ w m F)(k:List UInt8)(hk:k.length≤maxLen):
  (Instr.lookup 110 (.map (some m)) (.string (bs k)) true).run prog w=.ok (.tuple #[.agg #[.string (bs ((Fil.get F k).getD []))],.bool (Fil.get F k).isSome]) w:=by
 obtain⟨h1,kv,h2,h3⟩:=h;rw[h3.RZ underlying9 underlying110 (vV w) k hk,Si (BJ.nodup h2 h1) h2,iH];cases Fil.get F k<;>rfl
theorem BJ.update(h:BJ w m F)(k v:List UInt8)(hk:k.length≤maxLen)(au4:F.length < maxLen):
  ∃ w',(Instr.mapUpdate 110 (.map (some m)) (.string (bs k)) (.agg #[.string (bs v)])).run prog w=.ok () w'∧BJ w' m (put k v F)∧w.grownBy w' (some m):=by
 obtain⟨h1,kv,h2,h3⟩:=h;obtain⟨w',hrun,h4,h5⟩:=h3.update underlying9 underlying110 k hk (.agg #[.string (bs v)]) (by rw[h2.length_eq];unfold KD;rw[BQ];exact au4);refine⟨w',hrun,⟨h1.put k v,_,?_,h4⟩,h5⟩;unfold Ll;refine(List.Perm.cons _ ((iG h2 k).trans (by rw[vU]))).trans ?_;exact((Sc h1 k v).symm.map fun p=>(p.1,Value.agg #[.string (bs p.2)]))
theorem BJ.delete(h:BJ w m F)(k:List UInt8)(hk:k.length≤maxLen)(ty:TypeId):
  ∃ w',(Builtin.delete_ #[110,9] ty #[.map (some m),.string (bs k)]).run prog w=.ok (.tuple #[]) w'∧BJ w' m (del k F)∧w.grownBy w' (some m):=by
 obtain⟨h1,kv,h2,h3⟩:=h;obtain⟨w',hrun,h4,h5⟩:=h3.delete underlying9 underlying110 k hk ty;exact⟨w',hrun,⟨h1.del k,_,(iG h2 k).trans (by rw[vU]),h4⟩,h5⟩
theorem BJ.len(h:BJ w m F)(ty:TypeId):(Builtin.len_ #[110] ty #[.map (some m)]).run prog w=.ok (.int .i64 (F.length:Int)) w:=by
 obtain⟨h1,kv,h2,_,D,hown,_,hsz,_⟩:=h;rw[hown.len underlying110 ty,hsz,h2.length_eq];unfold KD;rw[BQ]
end
def ahc(F:St)(b m x:Nat):Array Value:=#[.pointer (some ⟨b,0,none⟩),.int .i64 (F.log:Int),.int .i64 (F.size:Int),.int .i64 (F.Ak:Int),.map (some m),.pointer (some ⟨x,0,none⟩),.int .i64 F.fault]
structure Ci(w:World)(y b m x:Nat)(gv:Value)(F:St):Prop where
 struct:w.heap[y]?=some (.cells (ahc F b m x) 113)
 map:BJ w m F.m
 Cy:Bq w x b gv F.w
 fits:F.log≤16384∧F.size≤16384∧1≤F.size∧F.Ak≤1
def Pq(y m x:Nat)(gv:Value)(k:Nat):Prop:=k=y∨k=m∨Ba x gv k
section
variable {w w':World}{y b m x:Nat}{gv:Value}{F:St}
theorem Ci.cells(h:Ci w y b m x gv F):
  w.cell? ⟨y,0,none⟩=some (.pointer (some ⟨b,0,none⟩))∧w.cell? ⟨y,1,none⟩=some (.int .i64 (F.log:Int))∧w.cell? ⟨y,2,none⟩=some (.int .i64 (F.size:Int))∧w.cell? ⟨y,3,none⟩=some (.int .i64 (F.Ak:Int))∧
  w.cell? ⟨y,4,none⟩=some (.map (some m))∧w.cell? ⟨y,5,none⟩=some (.pointer (some ⟨x,0,none⟩))∧w.cell? ⟨y,6,none⟩=some (.int .i64 F.fault)∧∀ j,w.frozen? ⟨y,j,none⟩=false:=by
 refine⟨?_,?_,?_,?_,?_,?_,?_,fun j=>Cb w y j _ _ h.struct⟩<;>rw[AY w y _ _ _ _ h.struct]<;>rfl
theorem Ci.lt(h:Ci w y b m x gv F):∀ k,Pq y m x gv k→k < w.heap.size:=by
 rintro k (rfl|rfl|hk)
 ·exact Ae h.struct
 ·exact h.map.lt
 ·exact h.Cy.lt k hk
theorem Ci.blk(h:Ci w y b m x gv F):Ap w y 113:=⟨_,_,h.struct⟩
theorem Bq.kind(h:Bq w x b gv F.w){k:Nat}(hk:Ba x gv k):Ap w k 207∨Ap w k 27:=by
 rcases hk with rfl|hk
 ·exact .inl ⟨_,_,h.struct⟩
 ·obtain⟨cs,h1,_⟩:=h.groups;exact .inr (Bi h1 hk)
theorem Ci.QH(h:Ci w y b m x gv F):y≠m∧¬ Ba x gv y∧¬ Ba x gv m:=
 ⟨fun e=>h.map.BV (e▸h.blk),fun hk=>by
  rcases h.Cy.kind hk with e|e
  ·exact Ap.ne h.blk e (by decide) rfl
  ·exact Ap.ne h.blk e (by decide) rfl,fun hk=>by
  rcases h.Cy.kind hk with e|e<;>exact h.map.BV e⟩
theorem Ci.upd{P:Nat→Prop}(h:Ci w y b m x gv F)(hu:A7 P w w')(hP:∀ k,Ap w k 9→¬ P k)(hG:∀ k,Pq y m x gv k→¬ P k):Ci w' y b m x gv F:=
 ⟨(hu.block y (Ae h.struct) (hG y (.inl rfl))).trans h.struct,h.map.upd hu (hG m (.inr (.inl rfl))),h.Cy.upd hu hP (fun k hk=>hG k (.inr (.inr hk))),h.fits⟩
theorem Ci.below(h:Ci w y b m x gv F)(hb:Bw w w'):Ci w' y b m x gv F:=h.upd (ub hb) (fun _ _ f=>f) (fun _ _ f=>f)
end
theorem AU.BV{w:World}{b:Nat}{D:Dsk}{fp:Nat→Prop}(h:AU w b D fp)(k:Nat)(hk:fp k){t:TypeId}(h1:t≠117)(h2:t≠195):¬ Ap w k t:=by
 obtain⟨m,lv,hI,rfl⟩:=h;rcases hk with rfl|rfl|hk
 ·exact fun hb=>Ap.ne hb ⟨_,_,hI.struct⟩ h1 rfl
 ·obtain⟨kv,⟨_,D',⟨es,clock,hm,_⟩,_⟩,_⟩:=hI.base;rintro⟨cs,fr,hb⟩;rw[hm] at hb;injection hb with hb
  cases hb
 ·exact fun hb=>Ap.ne hb (Bi hI.loose hk) h2 rfl
end
section
open Go.RowKit Go.Maps Go.Sort
open Fil
theorem Zz(name data:T)(gone:Bool)(w:World)(hn:name.length≤maxLen)(hd:data.length≤maxLen):
  Calls prog 93 #[.agg #[.string (bs name),.string (bs data),.bool gone]] w fun e w'=>e=.returned (.bool (Af.may ⟨name,data,gone⟩))∧Bw w w':=by
 have hb:=(Ad w.heap.size w).alloc (Ab _) (.cells #[.string (bs name),.string (bs data),.bool gone] 65);have HB:=Hi hb;clear hb;unfold maxLen at hn hd;by_cases h1:name=[]
 ·have hv:Hid (Af.may ⟨name,data,gone⟩=false):=Hi (by unfold Af.may E9;simp[h1]);rw[hv.out];have hne:bs name=ByteArray.empty:=by rw[h1];rfl
  subst h1;go_enter func93,ntmps93;go_wp2_with fail;go_ret;exact⟨rfl,HB⟩
 ·have he:name.isEmpty=false:=by simpa using h1
  by_cases h2:name.length≤32
  ·have WK:(name.length:Int)≤32:=(by omega);by_cases h3:data.length≤65535
   ·have h3i:(data.length:Int)≤65535:=(by omega);cases gone with
    |false=>
     have hv:Hid (Af.may ⟨name,data,false⟩=true):=Hi (by unfold Af.may E9;simp[h1,h2,h3]);clear h1;rw[hv.out];go_enter func93,ntmps93;go_wp2_with fail;go_ret;exact⟨rfl,HB⟩
    |true=>
     by_cases h4:data=[]
     ·have hv:Hid (Af.may ⟨name,data,true⟩=true):=Hi (by unfold Af.may E9;simp[h1,h2,h4]);have hf:data.isEmpty=true:=(by simpa using h4);clear h1 h4;rw[hv.out];go_enter func93,ntmps93;go_wp2_with fail;go_ret;exact⟨rfl,HB⟩
     ·have hv:Hid (Af.may ⟨name,data,true⟩=false):=Hi (by unfold Af.may E9;simp[h1,h2,h3,h4]);have hf:data.isEmpty=false:=(by simpa using h4);clear h1 h4;rw[hv.out];go_enter func93,ntmps93;go_wp2_with fail;go_ret;exact⟨rfl,HB⟩
   ·have hv:Hid (Af.may ⟨name,data,gone⟩=false):=Hi (by unfold Af.may E9;simp[h1,h2,h3]);clear h1;have h3i:¬ (data.length:Int)≤65535:=(by omega);rw[hv.out];go_enter func93,ntmps93;go_wp2_with fail;go_ret;exact⟨rfl,HB⟩
  ·have hv:Hid (Af.may ⟨name,data,gone⟩=false):=Hi (by unfold Af.may E9;simp[h1,h2]);clear h1;have WK:¬ (name.length:Int)≤32:=(by omega);rw[hv.out];go_enter func93,ntmps93;go_wp2_with fail;go_ret;exact⟨rfl,HB⟩
theorem ZA(n:Nat)(w:World)(hn:n < 4294967296):
  Calls prog 173 #[.int .i64 (n:Int)] w fun e w'=>e=.returned (.string (bs (Crc.le 4 n)))∧Bw w w':=by
 go_enter func173,ntmps173;go_wp2_with fail;refine(RL n 4 _ hn (by decide) (by decide)).mono ?_;rintro e w1⟨rfl,hb⟩;go_wp2_with fail;go_ret;exact⟨rfl,hb⟩
theorem ZB(s:List UInt8)(w:World)(hs:s.length≤100000000):
  Calls prog 121 #[.string (bs s)] w fun e w'=>e=.returned (.string (bs (Wal.pad s)))∧Bw w w':=by
 obtain⟨N,hN⟩:∃ N:Nat,N=(s.length+63) / 64*64:=⟨_,rfl⟩;have hq:((s.length:Int)+64 -1) / 64*64=(N:Int):=by omega
 obtain⟨m,hm⟩:∃ m:Nat,m=N -s.length:=⟨_,rfl⟩;have hm2:(N:Int) -(s.length:Int)=(m:Int):=by omega
 have gZ:Hid (Wal.pad s=s++List.replicate m 0):=Hi (by unfold Wal.pad;rw[←hN,←hm]);have hmb:m≤100:=by omega
 have hnb:N≤100000100:=by omega
 obtain⟨C,hmk,ast⟩:=uJ w m (by omega);have aBH:=RH prog (w.alloc (.cells C 5)) 232 5 9 underlying232 underlying5 underlying9 w.heap.size 0 m m (List.replicate m 0) List.length_replicate (fun i h=>by rw[Fs];exact ast.cell i h);clear ast hN hm;go_enter func121,ntmps121;go_wp2_with fail;go_ret;rw[gZ.out];exact⟨rfl,(Ad _ _).alloc (Ab _) _⟩
theorem vW{s:List UInt8}(h:cut s=none)(w:World)(hs:s.length≤1000000000):
  Calls prog 125 #[.string (bs s)] w fun e w'=>e=.returned (.tuple #[.string ByteArray.empty,.string ByteArray.empty,.bool false])∧w=w':=by
 by_cases h0:s.length < 4
 ·clear h;go_enter func125,ntmps125;go_wp2_with fail;go_ret3;exact⟨rfl,rfl⟩
 ·have hc4:∀ W,(Instr.slice 9 (.string (bs s)) none (some (.int .i64 4)) none).run prog W=.ok (.string (bs (s.take 4))) W:=fun W=>Ji prog W 9 underlying9 s 4 (by omega)
  have hl4:(s.take 4).length=4:=by rw[Aw];omega
  have hv:=Crc.Gg (s.take 4);rw[hl4] at hv;have Jj:=Hi (fun(W:World)=>QB (s.take 4) W (by omega) (by omega));unfold cut at h;rw[Aa h0] at h;generalize Crc.val (s.take 4)=v at*;have hvs:¬ v≤s.length -4:=fun e=>by rw[Ac e] at h;cases h
  have azX:v < 4294967296:=hv;have hw1:IntKind.u64.wrap ((s.length:Int) -4)=(s.length:Int) -4:=IntWalk.u64_in _ (by omega);have ib:(s.length:Int) -4 < (v:Int):=by omega
  clear h hl4 hv hvs;go_enter func125,ntmps125;go_wp2_with fail;refine(Jj _).mono ?_;rintro e w1⟨rfl,rfl⟩;go_wp2_with fail;go_ret3;exact⟨rfl,rfl⟩
theorem ZC{s p q:List UInt8}(h:cut s=some (p,q))(w:World)(hs:s.length≤1000000000):
  Calls prog 125 #[.string (bs s)] w fun e w'=>e=.returned (.tuple #[.string (bs p),.string (bs q),.bool true])∧Bw w w':=by
 have h0:¬ s.length < 4:=by have:=Pp h;omega
 have hc4:∀ W,(Instr.slice 9 (.string (bs s)) none (some (.int .i64 4)) none).run prog W=.ok (.string (bs (s.take 4))) W:=fun W=>Ji prog W 9 underlying9 s 4 (by omega)
 have hl4:(s.take 4).length=4:=by rw[Aw];omega
 have hv:=Crc.Gg (s.take 4);rw[hl4] at hv;have Jj:=Hi (fun(W:World)=>QB (s.take 4) W (by omega) (by omega));unfold cut at h;rw[Aa h0] at h;generalize Crc.val (s.take 4)=v at*;have hvs:v≤s.length -4:=by
  by_cases e:v≤s.length -4
  ·exact e
  ·rw[Aa e] at h;cases h
 rw[Ac hvs] at h;simp only[Bt,Jc] at h;obtain⟨rfl,rfl⟩:=h;have azX:v < 4294967296:=hv;have hw1:IntKind.u64.wrap ((s.length:Int) -4)=(s.length:Int) -4:=IntWalk.u64_in _ (by omega);have hw2:IntKind.u64.wrap (4+(v:Int))=4+(v:Int):=IntWalk.u64_in _ (by omega);have ib:(v:Int)≤(s.length:Int) -4:=by omega
 have uV:∀ W,(Instr.slice 9 (.string (bs s)) (some (.int .i64 4)) (some (.int .u64 (4+(v:Int)))) none).run prog W=.ok (.string (bs ((s.take (4+v)).drop 4))) W:=fun W=>by
  have:=uU prog W 9 underlying9 s 4 (4+v) (by omega) (by omega);rw[Int.natCast_add] at this;exact this
 have hcf:∀ W,(Instr.slice 9 (.string (bs s)) (some (.int .u64 (4+(v:Int)))) none none).run prog W=.ok (.string (bs (s.drop (4+v)))) W:=fun W=>by
  have g2:(4:Int)+(v:Int)≤(s.length:Int):=by omega
  have g3:((4:Int)+(v:Int)).toNat=4+v:=by omega
  have g4:(0:Int)≤4+(v:Int):=by omega
  simp[Instr.slice,ER underlying9,Instr.sliceBounds,run_sliceBound,go_sem,g2,g3,g4]
 clear hl4 hv hvs;go_enter func125,ntmps125;go_wp2_with fail;refine(Jj _).mono ?_;rintro e w1⟨rfl,rfl⟩;go_wp2_with fail;go_region;go_wp2_with fail;go_ret3;exact⟨rfl,(Ad _ _).drew⟩
theorem vX(Ak num:Nat)(w:World)(ha:Ak≤1)(hn:num < 18446744073709551616):
  Calls prog 123 #[.int .i64 (Ak:Int),.int .u64 (num:Int)] w fun e w'=>e=.returned (.string (bs (Fil.mark Ak num)))∧Bw w w':=by
 have HN:=Hi hn;have aAz:({ data:=#[70,73,76,49] }:ByteArray)=bs [70,73,76,49]:=rfl;clear hn;go_enter func123,ntmps123;go_wp2_with fail;refine(RL num 8 _ (by have:=HN.out;exact this) (by decide) (by decide)).mono ?_;rintro e w1⟨rfl,hb1⟩;have HB1:=Hi hb1;clear hb1;have hby:=fJ prog w1 232 5 9 5 underlying232 underlying5 underlying9 (Ak:Int) (UInt8.ofNat Ak) (by rw[Qo,Nat.mod_eq_of_lt (by omega)]);go_wp2_with fail;refine(Uf (70 :: 73 :: 76 :: 49 :: UInt8.ofNat Ak :: Crc.le 8 num) _ (by simp[Crc.Be])).mono ?_;rintro e w3⟨rfl,hb3⟩;have HB3:=Hi ((HB1.alloc HB1.size _).trans (hb3.mono (by have:=HB1.size;rw[Ai];omega)));clear hb3 hby;go_wp2_with fail;refine(ZB (Crc.Du (70 :: 73 :: 76 :: 49 :: UInt8.ofNat Ak :: Crc.le 8 num)) _ (by rw[Crc.Mc];simp[Crc.Be])).mono ?_;rintro e w4⟨rfl,hb4⟩;have Ay:=Hi (HB3.trans (hb4.mono HB3.size));clear hb4;go_wp2_with fail;go_ret;exact⟨rfl,Ay⟩
theorem vY(v:Value)(log size Ak:Nat)(w:World)(h1:log≤16384)(h2:size≤16384)(h3:Ak≤1):
  Calls prog 124 #[.agg #[v,.int .i64 (log:Int),.int .i64 (size:Int),.int .i64 (Ak:Int)],.int .i64 (Ak:Int)] w fun e w'=>e=.returned (.int .i64 ((BL log size Ak:Nat):Int))∧Bw w w':=by
 have hb:=(Ad w.heap.size w).alloc (Ab _) (.cells #[v,.int .i64 (log:Int),.int .i64 (size:Int),.int .i64 (Ak:Int)] 109);have HB:=Hi hb;clear hb;have hp:(Ak:Int)*(size:Int)≤16384∧0≤(Ak:Int)*(size:Int):=by
  rcases Nat.lt_or_ge Ak 1 with e|e
  ·obtain rfl:Ak=0:=(by omega);omega
  ·obtain rfl:Ak=1:=(by omega);omega
 obtain⟨hp1,hp2⟩:=hp;have he:Hid (((BL log size Ak:Nat):Int)=1+(log:Int)+(Ak:Int)*(size:Int)):=Hi (by unfold BL;rw[Int.natCast_add,Int.natCast_add,Int.natCast_mul];rfl);have hm:IntKind.i64.wrap ((Ak:Int)*(size:Int))=(Ak:Int)*(size:Int):=CZ _ (by omega);have hm2:IntKind.i64.wrap (1+(log:Int)+(Ak:Int)*(size:Int))=1+(log:Int)+(Ak:Int)*(size:Int):=CZ _ (by omega);rw[he.out];go_enter func124,ntmps124;go_wp2_with fail;go_ret;exact⟨rfl,HB⟩
section
variable {w:World}{y b m x:Nat}{gv:Value}{F:St}
theorem ahe(h:Ci w y b m x gv F)(k:T)(hk:k.length≤maxLen):
  Calls prog 143 #[.pointer (some ⟨y,0,none⟩),.string (bs k)] w fun e w'=>e=.returned (.tuple #[.string (bs ((Fil.get F.m k).getD [])),.bool (Fil.get F.m k).isSome])∧Bw w w':=by
 have hl:=h.map.RZ k hk;obtain⟨_,_,_,_,c4,_⟩:=h.cells;clear h hk;generalize Fil.get F.m k=r at*;generalize r.isSome=u at*;go_enter func143,ntmps143;go_wp2_with fail;go_ret2;exact⟨rfl,(Ad _ _).alloc (Ab _) _⟩
theorem vZ(h:Ci w y b m x gv F):
  Calls prog 96 #[.pointer (some ⟨y,0,none⟩)] w fun e w'=>e=.returned (.int .i64 (F.room:Int))∧w=w':=by
 obtain⟨_,_,c2,_⟩:=h.cells;obtain⟨_,h2,h3,_⟩:=h.fits;have he:Hid ((F.room:Int)=(F.size:Int)*64 -4):=Hi (by unfold St.room;omega);rw[he.out];clear h;generalize F.size=n at*;go_enter func96,ntmps96;go_wp2_with fail;go_ret;exact⟨rfl,rfl⟩
end
theorem ahf{F:M}(hu:Up F){ss:List T}(hp:ss.Perm (F.map (·.1))):(ss.map fun k=>8+k.length+((Fil.get F k).getD []).length).sum=(F.map cost).sum:=by
 rw[(hp.map _).sum_nat,List.map_map]
 congr 1
 apply Nb;intro p hp
 show 8+p.1.length+((Fil.get F p.1).getD []).length=cost p
 rw[get_mem hu (v:=p.2) hp];rfl
theorem wh(kv:List (List UInt8×Value))(x:List UInt8):x∈kv.map (·.1)↔(Cr kv x).isSome=true:=by
 unfold Cr;rw[Option.isSome_map,List.find?_isSome,AV];constructor
 ·rintro⟨p,hp,rfl⟩;exact⟨p,hp,by simp⟩
 ·rintro⟨p,hp,h⟩;exact⟨p,hp,by simpa using h⟩
theorem StrMap.keyed{w:World}{m:Nat}{kv:List (List UInt8×Value)}(h:StrMap prog 9 w m kv):∃ D:DataW Value,w.ownsMap prog 9 Me m kv.length D∧Maps.size D=kv.length∧(kv.map (·.1)).Perm (strKeys D):=by
 obtain⟨hn,D,hown,_,hsz,hat⟩:=h;refine⟨D,hown,hsz,Collected.perm (left:=fun _=>false) ⟨hn,fun x=>?_⟩ hown (string_keyed underlying9) underlying9 (fun _=>rfl)⟩;rw[Wl (hat x),wh];simp
theorem wu(F:M):(KD F).map (·.1)=F.map (·.1):=by unfold KD;rw[List.map_map];rfl
def Lt(F:M)(ss:List T):Nat:=(ss.map fun k=>8+k.length+((Fil.get F k).getD []).length).sum
theorem ahg(F:M)(ss:List T)(k s:T)(h:Fil.get F k=some s):Lt F (ss++[k])=Lt F ss+(8+k.length+s.length):=by
 unfold Lt;rw[C8,Ht];simp[h]
theorem ahh(F:M)(ss:List T)(h:∀ k∈ss,∃ s,Fil.get F k=some s):Lt F ss≤ss.length*used F:=by
 induction ss with
 |nil=>simp[Lt]
 |cons k ss ih=>
  obtain⟨s,hs⟩:=h k Cc;have h1:=ih (fun x hx=>h x (Dh _ hx));have h2:=vC (get_some hs);have e:Lt F (k :: ss)=(8+k.length+s.length)+Lt F ss:=by unfold Lt;rw[Bg,Cx,hs];rfl
  unfold cost at h2;rw[e,AX,Nat.succ_mul];simp only at h2;omega
theorem ahi{w:World}{m:Nat}{F:M}(h:BJ w m F)(hc:used F≤1000000000):
  Calls prog 95 #[.map (some m)] w fun e w'=>e=.returned (.int .i64 (used F:Int))∧Bw w w':=by
 have hlt:=h.lt;obtain⟨hu,kv,axE,hn,D,hown,ht,hsz,hat⟩:=h;have hlen:=Ml F;have hkl:kv.length=F.length:=by rw[axE.length_eq];unfold KD;rw[BQ]
 have HG:=Hi (fun(x:T)=>(Si hn axE x).trans (iH F x));have HU:=Hi (show used F=4+(F.map cost).sum from rfl);have Dy:=Hi hu;have HAT:=Hi hat;have HP:=Hi axE;have HN:=Hi hn;have HC:=Hi hc;have Mm:=Hi hlen;have Db:=Hi hsz;have FQ:=Hi hkl;have O6:=Hi hlt;have aA7:=Hi hown;clear hu axE hn ht hat hc hlen hsz hkl hlt;go_enter func95,ntmps95
 go_wp2_with (first
  |(at_range;refine wpList_range_own _ rfl _ 110 rfl 9 177 (string_keyed underlying9) underlying110 _ m _ _ rfl hown ?_;intro w0 aC8 hg0 hs0)
  |fail)
 go_frame
 clear hown
 go_loopw [3] (fun n wr=>∃ (left:Lit→Bool) (cnt:Nat) (ss:List T),wr.ranges prog 9 Me m w.heap.size kv.length D left cnt∧Collected D left ss∧ss.length+cnt≤kv.length∧(∀ k∈ss,∃ s,Fil.get F k=some s)∧n=.int .i64 ((4+Lt F ss:Nat):Int)∧Bw w wr)
  (fun _ wr=>wr.rangeLeft m w.heap.size)
 case atStart=>exact⟨_,_,[],aC8,Collected.start D,by rw[←Db.out];simp,by simp,rfl,(Ad _ _).grown hg0 (Ab _) (fun j hj=>by cases hj)⟩
 case round=>
  obtain⟨left,cnt,ss,hrg,hC,ayW,asD,rfl,hb⟩:=hrel;have hcl:=ahh F ss asD;have hcb:Lt F ss≤125000000*1000000000:=Ah hcl (Nat.mul_le_mul (by have:=Mm.out;have:=HC.out;have:=FQ.out;omega) HC);have Nk:=Hi hC;have Eh:=Hi asD;have HB:=Hi hb;have O7:=Hi hrg;have Nl:=Hi ayW;clear hcl hC asD hb ayW
  go_wp2_with (first
   |(at_next;refine wpList_next_ranges _ rfl _ rfl 9 (string_keyed underlying9) Me encStr id (fun key kl hk=>by obtain⟨x,hx,_⟩:=Maps.keyOf_str underlying9 hk;exact⟨x,hx⟩) (fun v _ _=>⟨v,rfl⟩) m w.heap.size kv.length _ _ _ rfl hrg ?_ ?_)
   |fail)
  ·intro hc0 hl0;clear hrg;go_wp2_with fail;go_ret;have hp:=Nk.perm aA7 (string_keyed underlying9) underlying9 hl0;have hk:(kv.map (·.1)).Perm (strKeys D):=Collected.perm (left:=fun _=>false) ⟨HN,fun x=>by rw[Wl (HAT x),wh];simp⟩ aA7 (string_keyed underlying9) underlying9 (fun _=>rfl);have hk2:ss.Perm (F.map (·.1)):=(hp.trans hk.symm).trans (by rw[←wu];exact HP.map _);have he:Lt F ss=(F.map cost).sum:=ahf Dy hk2;exact⟨by rw[HU.out,←he];rfl,HB⟩
  ·intro x c kl yd yp w2 cnt2 axY hlk hv hat aB9 hlt hg2 hs2 hen;obtain⟨x',ex,rfl,hxl⟩:=Maps.keyOf_str underlying9 axY;obtain rfl:x=x':=encStr_inj ex;have hv2:(DataW.held c:DataW Value)=yd:=by injection hv with hv;injection hv
   subst hv2;obtain⟨s,hs,rfl⟩:∃ s,Fil.get F x=some s∧c=.agg #[.string (bs s)]:=by
    have h1:=HAT x .nil;rw[hat .nil,HG x] at h1;cases hg:Fil.get F x with
    |none=>rw[hg] at h1;cases h1
    |some s=>
     rw[hg] at h1;refine⟨s,rfl,?_⟩;injection h1
   have HS:=Hi hs;have JI:=Hi (Nk.step hlk hat);have wy:=Hi (aB9.alloc (.cells #[.string (bs s)] 177));have wz:=Hi hlt;have HB2:=Hi (HB.grown hg2 HB.size (fun j hj=>by cases hj;exact Ab _));have HB3:=Hi (HB2.alloc HB2.size (.cells #[.string (bs s)] 177));have hsl:s.length+12+x.length≤used F:=(by have:=vC (get_some hs);unfold cost at this;simp only at this;omega);have hss:Hid (Lt F (ss++[x])=Lt F ss+(8+x.length+s.length)):=Hi (ahg F ss x s hs);have D6:=Hi HC.out;have hxb:x.length≤1000000000:=(by have:=HC.out;omega);have hsb:s.length≤1000000000:=(by have:=HC.out;omega);have iI:encStr x=.string (bs x):=rfl
   have hk3:Hid (∀ k∈ss++[x],∃ s,Fil.get F k=some s):=Hi (fun k hk=>by
    rcases Ee.1 hk with hk|hk
    ·exact Eh k hk
    ·rw[DT] at hk;subst hk;exact⟨s,hs⟩)
   rw[iI] at hen;clear hrg axY ex hv hat aB9 hlt hg2 hs2 hs hlk;simp only[iI];clear iI;go_wp2_with fail;go_roundw
   case rel=>exact⟨_,cnt2,ss++[x],wy,JI,by have:=wz.out;have:=Nl.out;rw[Aj,Ii];omega,hk3.out,by rw[hss.out];go_num,HB3⟩
   case measure=>rw[wy.left_eq,O7.left_eq];exact wz.out
end
end Go.Proofs.YtmbbhdebddbhoaaGreat
