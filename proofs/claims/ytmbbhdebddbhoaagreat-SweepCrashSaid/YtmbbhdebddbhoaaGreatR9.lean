/- FilRep2 -/
import Derived.Test.YtmbbhdebddbhoaaGreatR8
import Derived.Maps.RangeWalk
import Derived.Sort.KeysCollected
set_option maxHeartbeats 1000000
set_option maxRecDepth 100000
set_option linter.all false
namespace Go.Proofs.YtmbbhdebddbhoaaGreat
open Tryz
section
open Go.RowKit Go.Maps
open Fil
theorem XK{kv:List (List UInt8×Value)}(hn:(kv.map (·.1)).Nodup){k:List UInt8}{v:Value}:Dh kv k=some v↔(k,v)∈kv:=by
 refine⟨lh,fun hm=>?_⟩
 induction kv with
 |nil=>simp at hm
 |cons p kv ih=>
  simp only[BL,JF] at hn;unfold Dh;rcases Bt.1 hm with e|hm
  ·subst e;simp
  ·have:¬ p.1=k:=fun e=>hn.1 (by rw[e];exact Gm (f:=(·.1)) hm)
   rw[List.find?_cons_of_neg (by simpa using this)];exact ih hn.2 hm
theorem ZL{kv Zq:List (List UInt8×Value)}(hn:(kv.map (·.1)).Nodup)(h:kv.Perm Zq)(k:List UInt8):Dh kv k=Dh Zq k:=by
 have hn':(Zq.map (·.1)).Nodup:=(h.map (·.1)).nodup_iff.1 hn;cases h1:Dh kv k with
 |none=>
  cases h2:Dh Zq k with
  |none=>rfl
  |some v=>
   have:=(XK hn).2 (h.mem_iff.2 ((XK hn').1 h2));rw[h1] at this;cases this
 |some v=>exact((XK hn').2 (h.mem_iff.1 ((XK hn).1 h1))).symm
theorem acV{kv Zq:List (List UInt8×Value)}(h:kv.Perm Zq)(k:List UInt8):(Ir k kv).Perm (Ir k Zq):=h.filter _
def OG(F:M):List (List UInt8×Value):=F.map fun p=>(p.1,.agg #[.string (bs p.2)])
theorem acW(F:M)(k:List UInt8):Dh (OG F) k=(Fil.get F k).map fun s=>.agg #[.string (bs s)]:=by
 induction F with
 |nil=>rfl
 |cons p F ih=>
  unfold Dh Fil.get OG;rw[BL];by_cases h:p.1=k
  ·subst h;simp
  ·rw[List.find?_cons_of_neg (by simpa using h),List.find?_cons_of_neg (by simpa using h)];exact ih
theorem amH(F:M)(k:List UInt8):Ir k (OG F)=OG (del k F):=by
 unfold Ir OG del;rw[List.filter_map];rfl
def Co(w:World)(m:Nat)(F:M):Prop:=Up F∧∃ kv:List (List UInt8×Value),kv.Perm (OG F)∧StrMap prog 9 w m kv
theorem azw:(prog.info? 177).map (fun i=>(i.zero,i.size))=some (some (.agg #[.string ByteArray.empty]),1):=by kernel_rfl
theorem anf(w:World):(zeroValue 177).run prog w=.ok (.agg #[.string ByteArray.empty]) w:=(zero_of_info azw).1 w
section
variable {w w':World}{m:Nat}{F:M}
theorem Co.lt(h:Co w m F):m < w.heap.size:=h.2.choose_spec.2.lt
theorem Co.kept(h:Co w m F)(e:w'.heap[m]?=w.heap[m]?):Co w' m F:=by
 obtain⟨h1,kv,h2,h3⟩:=h;exact⟨h1,kv,h2,h3.kept e⟩
theorem Co.upd{P:Nat→Prop}(h:Co w m F)(hu:A7 P w w')(hP:¬ P m):Co w' m F:=h.kept (hu.block m h.lt hP)
theorem Co.below(h:Co w m F)(hb:Bw w w'):Co w' m F:=h.kept (hb.block m h.lt)
theorem Co.made(w:World):Co (w.alloc (.map #[] 0)) w.heap.size []:=⟨Up.nil,[],List.Perm.nil,StrMap.made w⟩
theorem Co.is(h:Co w m F):∃ es clock,w.heap[m]?=some (.map es clock):=by
 obtain⟨_,kv,_,_,D,⟨es,clock,hm,_⟩,_⟩:=h;exact⟨es,clock,hm⟩
theorem Co.Cv(h:Co w m F){t:TypeId}:¬ AA w m t:=by
 obtain⟨es,clock,hm⟩:=h.is;rintro⟨cs,fr,hb⟩;rw[hm] at hb;injection hb with hb
 cases hb
theorem Co.nodup{kv:List (List UInt8×Value)}(h2:kv.Perm (OG F))(h1:Up F):(kv.map (·.1)).Nodup:=by
 rw[(h2.map (·.1)).nodup_iff];unfold OG;rw[List.map_map];exact h1.nodup
theorem Co.lookup(h:Co w m F)(k:List UInt8)(hk:k.length≤maxLen):
  (Instr.lookup 110 (.map (some m)) (.string (bs k)) false).run prog w=.ok (.agg #[.string (bs ((Fil.get F k).getD []))]) w:=by
 obtain⟨h1,kv,h2,h3⟩:=h;rw[h3.lookup underlying9 underlying110 (anf w) k hk,ZL (Co.nodup h2 h1) h2,acW];cases Fil.get F k<;>rfl
theorem Co.Zu(h:Co w m F)(k:List UInt8)(hk:k.length≤maxLen):
  (Instr.lookup 110 (.map (some m)) (.string (bs k)) true).run prog w=.ok (.tuple #[.agg #[.string (bs ((Fil.get F k).getD []))],.bool (Fil.get F k).isSome]) w:=by
 obtain⟨h1,kv,h2,h3⟩:=h;rw[h3.Zu underlying9 underlying110 (anf w) k hk,ZL (Co.nodup h2 h1) h2,acW];cases Fil.get F k<;>rfl
theorem Co.update(h:Co w m F)(k v:List UInt8)(hk:k.length≤maxLen)(Im:F.length < maxLen):
  ∃ w',(Instr.mapUpdate 110 (.map (some m)) (.string (bs k)) (.agg #[.string (bs v)])).run prog w=.ok () w'∧Co w' m (put k v F)∧w.grownBy w' (some m):=by
 obtain⟨h1,kv,h2,h3⟩:=h;obtain⟨w',hrun,h4,h5⟩:=h3.update underlying9 underlying110 k hk (.agg #[.string (bs v)]) (by rw[h2.length_eq];unfold OG;rw[Cf];exact Im);refine⟨w',hrun,⟨h1.put k v,_,?_,h4⟩,h5⟩;unfold Qv;refine(List.Perm.cons _ ((acV h2 k).trans (by rw[amH]))).trans ?_;exact((ZF h1 k v).symm.map fun p=>(p.1,Value.agg #[.string (bs p.2)]))
theorem Co.delete(h:Co w m F)(k:List UInt8)(hk:k.length≤maxLen)(ty:TypeId):
  ∃ w',(Builtin.delete_ #[110,9] ty #[.map (some m),.string (bs k)]).run prog w=.ok (.tuple #[]) w'∧Co w' m (del k F)∧w.grownBy w' (some m):=by
 obtain⟨h1,kv,h2,h3⟩:=h;obtain⟨w',hrun,h4,h5⟩:=h3.delete underlying9 underlying110 k hk ty;exact⟨w',hrun,⟨h1.del k,_,(acV h2 k).trans (by rw[amH]),h4⟩,h5⟩
theorem Co.len(h:Co w m F)(ty:TypeId):(Builtin.len_ #[110] ty #[.map (some m)]).run prog w=.ok (.int .i64 (F.length:Int)) w:=by
 obtain⟨h1,kv,h2,_,D,hown,_,hsz,_⟩:=h;rw[hown.len underlying110 ty,hsz,h2.length_eq];unfold OG;rw[Cf]
end
def arX(F:St)(b m x:Nat):Array Value:=#[.pointer (some ⟨b,0,none⟩),.int .i64 (F.log:Int),.int .i64 (F.size:Int),.int .i64 (F.Av:Int),.map (some m),.pointer (some ⟨x,0,none⟩),.int .i64 F.fault]
structure CK(w:World)(y b m x:Nat)(gv:Value)(F:St):Prop where
 struct:w.heap[y]?=some (.cells (arX F b m x) 113)
 map:Co w m F.m
 Dl:BZ w x b gv F.w
 fits:F.log≤16384∧F.size≤16384∧1≤F.size∧F.Av≤1
def RX(y m x:Nat)(gv:Value)(k:Nat):Prop:=k=y∨k=m∨BD x gv k
section
variable {w w':World}{y b m x:Nat}{gv:Value}{F:St}
theorem CK.cells(h:CK w y b m x gv F):
  w.cell? ⟨y,0,none⟩=some (.pointer (some ⟨b,0,none⟩))∧w.cell? ⟨y,1,none⟩=some (.int .i64 (F.log:Int))∧w.cell? ⟨y,2,none⟩=some (.int .i64 (F.size:Int))∧w.cell? ⟨y,3,none⟩=some (.int .i64 (F.Av:Int))∧
  w.cell? ⟨y,4,none⟩=some (.map (some m))∧w.cell? ⟨y,5,none⟩=some (.pointer (some ⟨x,0,none⟩))∧w.cell? ⟨y,6,none⟩=some (.int .i64 F.fault)∧∀ j,w.frozen? ⟨y,j,none⟩=false:=by
 refine⟨?_,?_,?_,?_,?_,?_,?_,fun j=>CJ w y j _ _ h.struct⟩<;>rw[BA w y _ _ _ _ h.struct]<;>rfl
theorem CK.lt(h:CK w y b m x gv F):∀ k,RX y m x gv k→k < w.heap.size:=by
 rintro k (rfl|rfl|hk)
 ·exact Ai h.struct
 ·exact h.map.lt
 ·exact h.Dl.lt k hk
theorem CK.blk(h:CK w y b m x gv F):AA w y 113:=⟨_,_,h.struct⟩
theorem BZ.kind(h:BZ w x b gv F.w){k:Nat}(hk:BD x gv k):AA w k 207∨AA w k 27:=by
 rcases hk with rfl|hk
 ·exact .inl ⟨_,_,h.struct⟩
 ·obtain⟨cs,h1,_⟩:=h.groups;exact .inr (BQ h1 hk)
theorem CK.XC(h:CK w y b m x gv F):y≠m∧¬ BD x gv y∧¬ BD x gv m:=
 ⟨fun e=>h.map.Cv (e▸h.blk),fun hk=>by
  rcases h.Dl.kind hk with e|e
  ·exact AA.ne h.blk e (by decide) rfl
  ·exact AA.ne h.blk e (by decide) rfl,fun hk=>by
  rcases h.Dl.kind hk with e|e<;>exact h.map.Cv e⟩
theorem CK.upd{P:Nat→Prop}(h:CK w y b m x gv F)(hu:A7 P w w')(hP:∀ k,AA w k 9→¬ P k)(hG:∀ k,RX y m x gv k→¬ P k):CK w' y b m x gv F:=
 ⟨(hu.block y (Ai h.struct) (hG y (.inl rfl))).trans h.struct,h.map.upd hu (hG m (.inr (.inl rfl))),h.Dl.upd hu hP (fun k hk=>hG k (.inr (.inr hk))),h.fits⟩
theorem CK.below(h:CK w y b m x gv F)(hb:Bw w w'):CK w' y b m x gv F:=h.upd (ub hb) (fun _ _ f=>f) (fun _ _ f=>f)
end
theorem Bl.Cv{w:World}{b:Nat}{D:Dsk}{fp:Nat→Prop}(h:Bl w b D fp)(k:Nat)(hk:fp k){t:TypeId}(h1:t≠117)(h2:t≠195):¬ AA w k t:=by
 obtain⟨m,lv,hI,rfl⟩:=h;rcases hk with rfl|rfl|hk
 ·exact fun hb=>AA.ne hb ⟨_,_,hI.struct⟩ h1 rfl
 ·obtain⟨kv,⟨_,D',⟨es,clock,hm,_⟩,_⟩,_⟩:=hI.base;rintro⟨cs,fr,hb⟩;rw[hm] at hb;injection hb with hb
  cases hb
 ·exact fun hb=>AA.ne hb (BQ hI.loose hk) h2 rfl
end
section
open Go.RowKit Go.Maps Go.Sort
open Fil
theorem oQ(name data:T)(gone:Bool)(w:World)(hn:name.length≤maxLen)(hd:data.length≤maxLen):
  Calls prog 93 #[.agg #[.string (bs name),.string (bs data),.bool gone]] w fun e w'=>e=.returned (.bool (Aj.may ⟨name,data,gone⟩))∧Bw w w':=by
 have hb:=(Af w.heap.size w).alloc (Ac _) (.cells #[.string (bs name),.string (bs data),.bool gone] 65);have HB:=Hi hb;clear hb;unfold maxLen at hn hd;by_cases h1:name=[]
 ·have hv:Hid (Aj.may ⟨name,data,gone⟩=false):=Hi (by unfold Aj.may Fw;simp[h1]);rw[hv.out];have hne:bs name=ByteArray.empty:=by rw[h1];rfl
  subst h1;go_enter func93,ntmps93;go_wp2_with fail;go_ret;exact⟨rfl,HB⟩
 ·have he:name.isEmpty=false:=by simpa using h1
  by_cases h2:name.length≤32
  ·have iK:(name.length:Int)≤32:=(by omega);by_cases h3:data.length≤65535
   ·have h3i:(data.length:Int)≤65535:=(by omega);cases gone with
    |false=>
     have hv:Hid (Aj.may ⟨name,data,false⟩=true):=Hi (by unfold Aj.may Fw;simp[h1,h2,h3]);clear h1;rw[hv.out];go_enter func93,ntmps93;go_wp2_with fail;go_ret;exact⟨rfl,HB⟩
    |true=>
     by_cases h4:data=[]
     ·have hv:Hid (Aj.may ⟨name,data,true⟩=true):=Hi (by unfold Aj.may Fw;simp[h1,h2,h4]);have hf:data.isEmpty=true:=(by simpa using h4);clear h1 h4;rw[hv.out];go_enter func93,ntmps93;go_wp2_with fail;go_ret;exact⟨rfl,HB⟩
     ·have hv:Hid (Aj.may ⟨name,data,true⟩=false):=Hi (by unfold Aj.may Fw;simp[h1,h2,h3,h4]);have hf:data.isEmpty=false:=(by simpa using h4);clear h1 h4;rw[hv.out];go_enter func93,ntmps93;go_wp2_with fail;go_ret;exact⟨rfl,HB⟩
   ·have hv:Hid (Aj.may ⟨name,data,gone⟩=false):=Hi (by unfold Aj.may Fw;simp[h1,h2,h3]);clear h1;have h3i:¬ (data.length:Int)≤65535:=(by omega);rw[hv.out];go_enter func93,ntmps93;go_wp2_with fail;go_ret;exact⟨rfl,HB⟩
  ·have hv:Hid (Aj.may ⟨name,data,gone⟩=false):=Hi (by unfold Aj.may Fw;simp[h1,h2]);clear h1;have iK:¬ (name.length:Int)≤32:=(by omega);rw[hv.out];go_enter func93,ntmps93;go_wp2_with fail;go_ret;exact⟨rfl,HB⟩
theorem oU(n:Nat)(w:World)(hn:n < 4294967296):
  Calls prog 173 #[.int .i64 (n:Int)] w fun e w'=>e=.returned (.string (bs (Crc.le 4 n)))∧Bw w w':=by
 go_enter func173,ntmps173;go_wp2_with fail;refine(ZE n 4 _ hn (by decide) (by decide)).mono ?_;rintro e w1⟨rfl,hb⟩;go_wp2_with fail;go_ret;exact⟨rfl,hb⟩
theorem oZ(s:List UInt8)(w:World)(hs:s.length≤100000000):
  Calls prog 121 #[.string (bs s)] w fun e w'=>e=.returned (.string (bs (Wal.pad s)))∧Bw w w':=by
 obtain⟨N,hN⟩:∃ N:Nat,N=(s.length+63) / 64*64:=⟨_,rfl⟩;have hq:((s.length:Int)+64 -1) / 64*64=(N:Int):=by omega
 obtain⟨m,hm⟩:∃ m:Nat,m=N -s.length:=⟨_,rfl⟩;have Mr:(N:Int) -(s.length:Int)=(m:Int):=by omega
 have aaU:Hid (Wal.pad s=s++List.replicate m 0):=Hi (by unfold Wal.pad;rw[←hN,←hm]);have SA:m≤100:=by omega
 have KT:N≤100000100:=by omega
 obtain⟨C,Il,Ah⟩:=anq w m (by omega);have atI:=ZK prog (w.alloc (.cells C 5)) 232 5 9 underlying232 underlying5 underlying9 w.heap.size 0 m m (List.replicate m 0) List.length_replicate (fun i h=>by rw[GJ];exact Ah.cell i h);clear Ah hN hm;go_enter func121,ntmps121;go_wp2_with fail;go_ret;rw[aaU.out];exact⟨rfl,(Af _ _).alloc (Ac _) _⟩
theorem agn{s:List UInt8}(h:cut s=none)(w:World)(hs:s.length≤1000000000):
  Calls prog 125 #[.string (bs s)] w fun e w'=>e=.returned (.tuple #[.string ByteArray.empty,.string ByteArray.empty,.bool false])∧w=w':=by
 by_cases h0:s.length < 4
 ·clear h;go_enter func125,ntmps125;go_wp2_with fail;go_ret3;exact⟨rfl,rfl⟩
 ·have LA:∀ W,(Instr.slice 9 (.string (bs s)) none (some (.int .i64 4)) none).run prog W=.ok (.string (bs (s.take 4))) W:=fun W=>Ny prog W 9 underlying9 s 4 (by omega)
  have Kh:(s.take 4).length=4:=by rw[AL];omega
  have hv:=Crc.Ji (s.take 4);rw[Kh] at hv;have MS:=Hi (fun(W:World)=>WO (s.take 4) W (by omega) (by omega));unfold cut at h;rw[Aa h0] at h;generalize Crc.val (s.take 4)=v at*;have Xt:¬ v≤s.length -4:=fun e=>by rw[Ab e] at h;cases h
  have abr:v < 4294967296:=hv;have FY:IntKind.u64.wrap ((s.length:Int) -4)=(s.length:Int) -4:=IntWalk.u64_in _ (by omega);have hvi:(s.length:Int) -4 < (v:Int):=by omega
  clear h Kh hv Xt;go_enter func125,ntmps125;go_wp2_with fail;refine(MS _).mono ?_;rintro e w1⟨rfl,rfl⟩;go_wp2_with fail;go_ret3;exact⟨rfl,rfl⟩
theorem oK{s p q:List UInt8}(h:cut s=some (p,q))(w:World)(hs:s.length≤1000000000):
  Calls prog 125 #[.string (bs s)] w fun e w'=>e=.returned (.tuple #[.string (bs p),.string (bs q),.bool true])∧Bw w w':=by
 have h0:¬ s.length < 4:=by have:=V4 h;omega
 have LA:∀ W,(Instr.slice 9 (.string (bs s)) none (some (.int .i64 4)) none).run prog W=.ok (.string (bs (s.take 4))) W:=fun W=>Ny prog W 9 underlying9 s 4 (by omega)
 have Kh:(s.take 4).length=4:=by rw[AL];omega
 have hv:=Crc.Ji (s.take 4);rw[Kh] at hv;have MS:=Hi (fun(W:World)=>WO (s.take 4) W (by omega) (by omega));unfold cut at h;rw[Aa h0] at h;generalize Crc.val (s.take 4)=v at*;have Xt:v≤s.length -4:=by
  by_cases e:v≤s.length -4
  ·exact e
  ·rw[Aa e] at h;cases h
 rw[Ab Xt] at h;simp only[BX,M5] at h;obtain⟨rfl,rfl⟩:=h;have abr:v < 4294967296:=hv;have FY:IntKind.u64.wrap ((s.length:Int) -4)=(s.length:Int) -4:=IntWalk.u64_in _ (by omega);have Ns:IntKind.u64.wrap (4+(v:Int))=4+(v:Int):=IntWalk.u64_in _ (by omega);have hvi:(v:Int)≤(s.length:Int) -4:=by omega
 have hcu:∀ W,(Instr.slice 9 (.string (bs s)) (some (.int .i64 4)) (some (.int .u64 (4+(v:Int)))) none).run prog W=.ok (.string (bs ((s.take (4+v)).drop 4))) W:=fun W=>by
  have:=ams prog W 9 underlying9 s 4 (4+v) (by omega) (by omega);rw[Int.natCast_add] at this;exact this
 have X3:∀ W,(Instr.slice 9 (.string (bs s)) (some (.int .u64 (4+(v:Int)))) none none).run prog W=.ok (.string (bs (s.drop (4+v)))) W:=fun W=>by
  have g2:(4:Int)+(v:Int)≤(s.length:Int):=by omega
  have g3:((4:Int)+(v:Int)).toNat=4+v:=by omega
  have g4:(0:Int)≤4+(v:Int):=by omega
  simp[Instr.slice,Gp underlying9,Instr.sliceBounds,run_sliceBound,go_sem,g2,g3,g4]
 clear Kh hv Xt;go_enter func125,ntmps125;go_wp2_with fail;refine(MS _).mono ?_;rintro e w1⟨rfl,rfl⟩;go_wp2_with fail;go_region;go_wp2_with fail;go_ret3;exact⟨rfl,(Af _ _).drew⟩
theorem agG(Av num:Nat)(w:World)(ha:Av≤1)(hn:num < 18446744073709551616):
  Calls prog 123 #[.int .i64 (Av:Int),.int .u64 (num:Int)] w fun e w'=>e=.returned (.string (bs (Fil.mark Av num)))∧Bw w w':=by
 have HN:=Hi hn;have aiu:({ data:=#[70,73,76,49] }:ByteArray)=bs [70,73,76,49]:=rfl;clear hn;go_enter func123,ntmps123;go_wp2_with fail;refine(ZE num 8 _ (by have:=HN.out;exact this) (by decide) (by decide)).mono ?_;rintro e w1⟨rfl,Ad⟩;have HB1:=Hi Ad;clear Ad;have OP:=acP prog w1 232 5 9 5 underlying232 underlying5 underlying9 (Av:Int) (UInt8.ofNat Av) (by rw[XO,Nat.mod_eq_of_lt (by omega)]);go_wp2_with fail;refine(dX (70 :: 73 :: 76 :: 49 :: UInt8.ofNat Av :: Crc.le 8 num) _ (by simp[Crc.BK])).mono ?_;rintro e w3⟨rfl,Ak⟩;have Am:=Hi ((HB1.alloc HB1.size _).trans (Ak.mono (by have:=HB1.size;rw[Aq];omega)));clear Ak OP;go_wp2_with fail;refine(oZ (Crc.EW (70 :: 73 :: 76 :: 49 :: UInt8.ofNat Av :: Crc.le 8 num)) _ (by rw[Crc.Rk];simp[Crc.BK])).mono ?_;rintro e w4⟨rfl,Ar⟩;have AZ:=Hi (Am.trans (Ar.mono Am.size));clear Ar;go_wp2_with fail;go_ret;exact⟨rfl,AZ⟩
theorem agj(v:Value)(log size Av:Nat)(w:World)(h1:log≤16384)(h2:size≤16384)(h3:Av≤1):
  Calls prog 124 #[.agg #[v,.int .i64 (log:Int),.int .i64 (size:Int),.int .i64 (Av:Int)],.int .i64 (Av:Int)] w fun e w'=>e=.returned (.int .i64 ((Cs log size Av:Nat):Int))∧Bw w w':=by
 have hb:=(Af w.heap.size w).alloc (Ac _) (.cells #[v,.int .i64 (log:Int),.int .i64 (size:Int),.int .i64 (Av:Int)] 109);have HB:=Hi hb;clear hb;have hp:(Av:Int)*(size:Int)≤16384∧0≤(Av:Int)*(size:Int):=by
  rcases Nat.lt_or_ge Av 1 with e|e
  ·obtain rfl:Av=0:=(by omega);omega
  ·obtain rfl:Av=1:=(by omega);omega
 obtain⟨ER,Jb⟩:=hp;have he:Hid (((Cs log size Av:Nat):Int)=1+(log:Int)+(Av:Int)*(size:Int)):=Hi (by unfold Cs;rw[Int.natCast_add,Int.natCast_add,Int.natCast_mul];rfl);have hm:IntKind.i64.wrap ((Av:Int)*(size:Int))=(Av:Int)*(size:Int):=Ei _ (by omega);have Mr:IntKind.i64.wrap (1+(log:Int)+(Av:Int)*(size:Int))=1+(log:Int)+(Av:Int)*(size:Int):=Ei _ (by omega);rw[he.out];go_enter func124,ntmps124;go_wp2_with fail;go_ret;exact⟨rfl,HB⟩
section
variable {w:World}{y b m x:Nat}{gv:Value}{F:St}
theorem arV(h:CK w y b m x gv F)(k:T)(hk:k.length≤maxLen):
  Calls prog 143 #[.pointer (some ⟨y,0,none⟩),.string (bs k)] w fun e w'=>e=.returned (.tuple #[.string (bs ((Fil.get F.m k).getD [])),.bool (Fil.get F.m k).isSome])∧Bw w w':=by
 have hl:=h.map.Zu k hk;obtain⟨_,_,_,_,c4,_⟩:=h.cells;clear h hk;generalize Fil.get F.m k=r at*;generalize r.isSome=u at*;go_enter func143,ntmps143;go_wp2_with fail;go_ret2;exact⟨rfl,(Af _ _).alloc (Ac _) _⟩
theorem agP(h:CK w y b m x gv F):
  Calls prog 96 #[.pointer (some ⟨y,0,none⟩)] w fun e w'=>e=.returned (.int .i64 (F.room:Int))∧w=w':=by
 obtain⟨_,_,c2,_⟩:=h.cells;obtain⟨_,h2,h3,_⟩:=h.fits;have he:Hid ((F.room:Int)=(F.size:Int)*64 -4):=Hi (by unfold St.room;omega);rw[he.out];clear h;generalize F.size=n at*;go_enter func96,ntmps96;go_wp2_with fail;go_ret;exact⟨rfl,rfl⟩
end
theorem aqK{F:M}(hu:Up F){ss:List T}(hp:ss.Perm (F.map (·.1))):(ss.map fun k=>8+k.length+((Fil.get F k).getD []).length).sum=(F.map cost).sum:=by
 rw[(hp.map _).sum_nat,List.map_map]
 congr 1
 apply QB;intro p hp
 show 8+p.1.length+((Fil.get F p.1).getD []).length=cost p
 rw[get_mem hu (v:=p.2) hp];rfl
theorem amL(kv:List (List UInt8×Value))(x:List UInt8):x∈kv.map (·.1)↔(Dh kv x).isSome=true:=by
 unfold Dh;rw[Option.isSome_map,List.find?_isSome,Bz];constructor
 ·rintro⟨p,hp,rfl⟩;exact⟨p,hp,by simp⟩
 ·rintro⟨p,hp,h⟩;exact⟨p,hp,by simpa using h⟩
theorem StrMap.keyed{w:World}{m:Nat}{kv:List (List UInt8×Value)}(h:StrMap prog 9 w m kv):∃ D:DataW Value,w.ownsMap prog 9 QY m kv.length D∧Maps.size D=kv.length∧(kv.map (·.1)).Perm (strKeys D):=by
 obtain⟨hn,D,hown,_,hsz,hat⟩:=h;refine⟨D,hown,hsz,Collected.perm (left:=fun _=>false) ⟨hn,fun x=>?_⟩ hown (string_keyed underlying9) underlying9 (fun _=>rfl)⟩;rw[j3 (hat x),amL];simp
theorem agv(F:M):(OG F).map (·.1)=F.map (·.1):=by unfold OG;rw[List.map_map];rfl
def PU(F:M)(ss:List T):Nat:=(ss.map fun k=>8+k.length+((Fil.get F k).getD []).length).sum
theorem arR(F:M)(ss:List T)(k s:T)(h:Fil.get F k=some s):PU F (ss++[k])=PU F ss+(8+k.length+s.length):=by
 unfold PU;rw[CF,JH];simp[h]
theorem arQ(F:M)(ss:List T)(h:∀ k∈ss,∃ s,Fil.get F k=some s):PU F ss≤ss.length*used F:=by
 induction ss with
 |nil=>simp[PU]
 |cons k ss ih=>
  obtain⟨s,hs⟩:=h k Dg;have h1:=ih (fun x hx=>h x (DT _ hx));have h2:=anI (get_some hs);have e:PU F (k :: ss)=(8+k.length+s.length)+PU F ss:=by unfold PU;rw[BL,Dq,hs];rfl
  unfold cost at h2;rw[e,Br,Nat.succ_mul];simp only at h2;omega
theorem asx{w:World}{m:Nat}{F:M}(h:Co w m F)(hc:used F≤1000000000):
  Calls prog 95 #[.map (some m)] w fun e w'=>e=.returned (.int .i64 (used F:Int))∧Bw w w':=by
 have hlt:=h.lt;obtain⟨hu,kv,Zc,hn,D,hown,ht,hsz,hat⟩:=h;have hlen:=Rn F;have Db:kv.length=F.length:=by rw[Zc.length_eq];unfold OG;rw[Cf]
 have HG:=Hi (fun(x:T)=>(ZL hn Zc x).trans (acW F x));have HU:=Hi (show used F=4+(F.map cost).sum from rfl);have Ey:=Hi hu;have IZ:=Hi hat;have HP:=Hi Zc;have HN:=Hi hn;have HC:=Hi hc;have QI:=Hi hlen;have EZ:=Hi hsz;have Ih:=Hi Db;have QJ:=Hi hlt;have aem:=Hi hown;clear hu Zc hn ht hat hc hlen hsz Db hlt;go_enter func95,ntmps95
 go_wp2_with (first
  |(at_range;refine wpList_range_own _ rfl _ 110 rfl 9 177 (string_keyed underlying9) underlying110 _ m _ _ rfl hown ?_;intro w0 auR YT KX)
  |fail)
 go_frame
 clear hown
 go_loopw [3] (fun n wr=>∃ (left:Lit→Bool) (cnt:Nat) (ss:List T),wr.ranges prog 9 QY m w.heap.size kv.length D left cnt∧Collected D left ss∧ss.length+cnt≤kv.length∧(∀ k∈ss,∃ s,Fil.get F k=some s)∧n=.int .i64 ((4+PU F ss:Nat):Int)∧Bw w wr)
  (fun _ wr=>wr.rangeLeft m w.heap.size)
 case atStart=>exact⟨_,_,[],auR,Collected.start D,by rw[←EZ.out];simp,by simp,rfl,(Af _ _).grown YT (Ac _) (fun j hj=>by cases hj)⟩
 case round=>
  obtain⟨left,cnt,ss,rD,hC,qB,AY,rfl,hb⟩:=hrel;have BH:=arQ F ss AY;have hcb:PU F ss≤125000000*1000000000:=Ap BH (Nat.mul_le_mul (by have:=QI.out;have:=HC.out;have:=Ih.out;omega) HC);have Ry:=Hi hC;have Fy:=Hi AY;have HB:=Hi hb;have TC:=Hi rD;have Rx:=Hi qB;clear BH hC AY hb qB
  go_wp2_with (first
   |(at_next;refine wpList_next_ranges _ rfl _ rfl 9 (string_keyed underlying9) QY encStr id (fun key kl hk=>by obtain⟨x,hx,_⟩:=Maps.keyOf_str underlying9 hk;exact⟨x,hx⟩) (fun v _ _=>⟨v,rfl⟩) m w.heap.size kv.length _ _ _ rfl rD ?_ ?_)
   |fail)
  ·intro bJ LD;clear rD;go_wp2_with fail;go_ret;have hp:=Ry.perm aem (string_keyed underlying9) underlying9 LD;have hk:(kv.map (·.1)).Perm (strKeys D):=Collected.perm (left:=fun _=>false) ⟨HN,fun x=>by rw[j3 (IZ x),amL];simp⟩ aem (string_keyed underlying9) underlying9 (fun _=>rfl);have hk2:ss.Perm (F.map (·.1)):=(hp.trans hk.symm).trans (by rw[←agv];exact HP.map _);have he:PU F ss=(F.map cost).sum:=aqK Ey hk2;exact⟨by rw[HU.out,←he];rfl,HB⟩
  ·intro x c kl yd yp w2 cnt2 bS Ik hv hat ajI hlt DV Kl YP;obtain⟨x',ex,rfl,FN⟩:=Maps.keyOf_str underlying9 bS;obtain rfl:x=x':=encStr_inj ex;have Je:(DataW.held c:DataW Value)=yd:=by injection hv with hv;injection hv
   subst Je;obtain⟨s,hs,rfl⟩:∃ s,Fil.get F x=some s∧c=.agg #[.string (bs s)]:=by
    have h1:=IZ x .nil;rw[hat .nil,HG x] at h1;cases hg:Fil.get F x with
    |none=>rw[hg] at h1;cases h1
    |some s=>
     rw[hg] at h1;refine⟨s,rfl,?_⟩;injection h1
   have HS:=Hi hs;have NG:=Hi (Ry.step Ik hat);have aet:=Hi (ajI.alloc (.cells #[.string (bs s)] 177));have aef:=Hi hlt;have Ag:=Hi (HB.grown DV HB.size (fun j hj=>by cases hj;exact Ac _));have Am:=Hi (Ag.alloc Ag.size (.cells #[.string (bs s)] 177));have Cz:s.length+12+x.length≤used F:=(by have:=anI (get_some hs);unfold cost at this;simp only at this;omega);have LH:Hid (PU F (ss++[x])=PU F ss+(8+x.length+s.length)):=Hi (arR F ss x s hs);have Ev:=Hi HC.out;have hxb:x.length≤1000000000:=(by have:=HC.out;omega);have Od:s.length≤1000000000:=(by have:=HC.out;omega);have zn:encStr x=.string (bs x):=rfl
   have hk3:Hid (∀ k∈ss++[x],∃ s,Fil.get F k=some s):=Hi (fun k hk=>by
    rcases Fp.1 hk with hk|hk
    ·exact Fy k hk
    ·rw[EX] at hk;subst hk;exact⟨s,hs⟩)
   rw[zn] at YP;clear rD bS ex hv hat ajI hlt DV Kl hs Ik;simp only[zn];clear zn;go_wp2_with fail;go_roundw
   case rel=>exact⟨_,cnt2,ss++[x],aet,NG,by have:=aef.out;have:=Rx.out;rw[Au,Kq];omega,hk3.out,by rw[LH.out];go_num,Am⟩
   case measure=>rw[aet.left_eq,TC.left_eq];exact aef.out
end
end Go.Proofs.YtmbbhdebddbhoaaGreat
