/- MapK ChgP ManD MemE TxtW DepW -/
import Derived.Test.YtmbbhdebddbhoaaGreatQ26
set_option maxHeartbeats 4000000
set_option maxRecDepth 100000
set_option linter.all false
namespace Go.Proofs.YtmbbhdebddbhoaaGreat
open Tryz
section
open Go.RowKit Go.Maps Go.Sort Go.Shelf
open Fil Man
def aaY:Go.Shelf.Ren:=⟨fun|7=>149|10=>196|n=>n,fun|23=>145|26=>9|3=>147|28=>228|0=>0|27=>227|33=>107|4=>4|n=>n,fun|n=>n⟩
theorem aaZ:Go.Proofs.SlLaysZ.n7 prog aaY:={
 mixed:=by kernel_rfl
 f7:=⟨Tryz.f149.name,by decide,func149.trans (congrArg some (by kernel_rfl))⟩
 f10:=⟨Tryz.f196.name,by decide,func196.trans (congrArg some (by kernel_rfl))⟩
 t0:=underlying0
 a0:=Tryz.isAgg0
 z0:=Tryz.sizeOf0
 v0:=Tryz.zeroValue0
 t4:=underlying4
 a4:=Tryz.isAgg4
 z4:=Tryz.sizeOf4
 v4:=Tryz.zeroValue4
 t23:=underlying145
 a23:=Tryz.isAgg145
 z23:=Tryz.sizeOf145
 v23:=Tryz.zeroValue145
 t26:=underlying9
 a26:=Tryz.isAgg9
 z26:=Tryz.sizeOf9
 v26:=Tryz.zeroValue9
 t27:=underlying227
 a27:=Tryz.isAgg227
 z27:=Tryz.sizeOf227
 v27:=Tryz.zeroValue227
 t28:=underlying228
 a28:=Tryz.isAgg228
 z28:=Tryz.sizeOf228
 v28:=Tryz.zeroValue228
 t33:=underlying107
 a33:=Tryz.isAgg107
 z33:=Tryz.sizeOf107
 v33:=Tryz.zeroValue107 }
def ab0:Go.Shelf.Ren:=⟨fun|7=>164|10=>209|n=>n,fun|23=>164|26=>9|3=>167|28=>228|0=>0|27=>227|33=>107|4=>4|n=>n,fun|n=>n⟩
theorem ab1:Go.Proofs.SlLaysZ.n7 prog ab0:={
 mixed:=by kernel_rfl
 f7:=⟨Tryz.f164.name,by decide,func164.trans (congrArg some (by kernel_rfl))⟩
 f10:=⟨Tryz.f209.name,by decide,func209.trans (congrArg some (by kernel_rfl))⟩
 t0:=underlying0
 a0:=Tryz.isAgg0
 z0:=Tryz.sizeOf0
 v0:=Tryz.zeroValue0
 t4:=underlying4
 a4:=Tryz.isAgg4
 z4:=Tryz.sizeOf4
 v4:=Tryz.zeroValue4
 t23:=underlying164
 a23:=Tryz.isAgg164
 z23:=Tryz.sizeOf164
 v23:=Tryz.zeroValue164
 t26:=underlying9
 a26:=Tryz.isAgg9
 z26:=Tryz.sizeOf9
 v26:=Tryz.zeroValue9
 t27:=underlying227
 a27:=Tryz.isAgg227
 z27:=Tryz.sizeOf227
 v27:=Tryz.zeroValue227
 t28:=underlying228
 a28:=Tryz.isAgg228
 z28:=Tryz.sizeOf228
 v28:=Tryz.zeroValue228
 t33:=underlying107
 a33:=Tryz.isAgg107
 z33:=Tryz.sizeOf107
 v33:=Tryz.zeroValue107 }
theorem alo(mb:Option Nat)(W:World):Calls prog 149 #[.map mb] W fun e w'=>e=.returned (.func (.func 196) #[] #[.pointer (some ⟨W.heap.size,0,none⟩)])∧w'=W.alloc (.cells #[.map mb] 145):=
 Cu.1 (AnyZ.keys_in aaZ Fence.wide 5 trivial rfl mb W)
theorem alp{w:World}{m:Nat}{kv:List (T×Value)}(aww:StrMap prog 9 w m kv)(hlen:kv.length≤1000000):
  Calls prog 148 #[.func (.func 196) #[] #[.pointer (some ⟨w.heap.size,0,none⟩)]] (w.alloc (.cells #[.map (some m)] 145)) fun e w'=>
   ∃ v,e=.returned v∧w'.ownsRow (w.heap.size+1) 9 1 v kv.length (((kv.map (·.1)).mergeSort (fun x y=>decide (x≤y))).map encStr)∧Bw w w':=by
 obtain⟨D,hown,hsz,hkp⟩:=aww.keyed;have hbl:=hown.lt;have auZ:SeqGives Fence.wide 2 prog 196 #[.pointer (some ⟨w.heap.size,0,none⟩)] encStr (fun ss=>ss.Perm (strKeys D)) (Maps.size D) (w.alloc (.cells #[.map (some m)] 145)):=
  AnyZ.keys_gives (ρ:=aaY) { aaZ with } Fence.wide _ trivial rfl (by omega) w.heap.size m kv.length D _ (by simp) (by simp) (by
   obtain⟨es,clock,hb,Ft,hs,hD⟩:=hown;exact⟨es,clock,(Below.heap_alloc _ _ m hbl).trans hb,Ft,hs,hD⟩)
 have cS:=AnyZ.sorted_in iQ Fence.wide 5 trivial trivial trivial trivial rfl (by omega) (iR _) (enters_of func115 (by kernel_rfl) rfl) 196 #[.pointer (some ⟨w.heap.size,0,none⟩)] trivial (enters_of func196 (by kernel_rfl) rfl) _ _ (by unfold maxLen;omega) (by omega) _ auZ;refine(Cu.1 cS).mono ?_;rintro e w'⟨v,ss,rfl,hS,ast,_,hb⟩;have hss:ss.Perm (kv.map (·.1)):=hS.trans hkp.symm;have e1:ss.length=kv.length:=by have:=hss.length_eq;simpa using this
 have e2:ss.mergeSort leB=(kv.map (·.1)).mergeSort leB:=mergeSort_of_perm hss;have e3:ss.mergeSort (fun x y=>decide (x≤y))=(kv.map (·.1)).mergeSort (fun x y=>decide (x≤y)):=e2;rw[e1,e3] at ast;exact⟨v,rfl,by rw[Ai] at ast;exact ast,((Ad _ w).alloc (Ab _) _).trans (hb.mono (by rw[Ai];omega))⟩
theorem alq(mb:Option Nat)(W:World):Calls prog 164 #[.map mb] W fun e w'=>e=.returned (.func (.func 209) #[] #[.pointer (some ⟨W.heap.size,0,none⟩)])∧w'=W.alloc (.cells #[.map mb] 164):=
 Cu.1 (AnyZ.keys_in ab1 Fence.wide 5 trivial rfl mb W)
theorem alr{w:World}{m:Nat}{kv:List (T×Value)}(aww:StrMap prog 9 w m kv)(hlen:kv.length≤1000000):
  Calls prog 148 #[.func (.func 209) #[] #[.pointer (some ⟨w.heap.size,0,none⟩)]] (w.alloc (.cells #[.map (some m)] 164)) fun e w'=>
   ∃ v,e=.returned v∧w'.ownsRow (w.heap.size+1) 9 1 v kv.length (((kv.map (·.1)).mergeSort (fun x y=>decide (x≤y))).map encStr)∧Bw w w':=by
 obtain⟨D,hown,hsz,hkp⟩:=aww.keyed;have hbl:=hown.lt;have auZ:SeqGives Fence.wide 2 prog 209 #[.pointer (some ⟨w.heap.size,0,none⟩)] encStr (fun ss=>ss.Perm (strKeys D)) (Maps.size D) (w.alloc (.cells #[.map (some m)] 164)):=
  AnyZ.keys_gives (ρ:=ab0) { ab1 with } Fence.wide _ trivial rfl (by omega) w.heap.size m kv.length D _ (by simp) (by simp) (by
   obtain⟨es,clock,hb,Ft,hs,hD⟩:=hown;exact⟨es,clock,(Below.heap_alloc _ _ m hbl).trans hb,Ft,hs,hD⟩)
 have cS:=AnyZ.sorted_in iQ Fence.wide 5 trivial trivial trivial trivial rfl (by omega) (iR _) (enters_of func115 (by kernel_rfl) rfl) 209 #[.pointer (some ⟨w.heap.size,0,none⟩)] trivial (enters_of func209 (by kernel_rfl) rfl) _ _ (by unfold maxLen;omega) (by omega) _ auZ;refine(Cu.1 cS).mono ?_;rintro e w'⟨v,ss,rfl,hS,ast,_,hb⟩;have hss:ss.Perm (kv.map (·.1)):=hS.trans hkp.symm;have e1:ss.length=kv.length:=by have:=hss.length_eq;simpa using this
 have e2:ss.mergeSort leB=(kv.map (·.1)).mergeSort leB:=mergeSort_of_perm hss;have e3:ss.mergeSort (fun x y=>decide (x≤y))=(kv.map (·.1)).mergeSort (fun x y=>decide (x≤y)):=e2;rw[e1,e3] at ast;exact⟨v,rfl,by rw[Ai] at ast;exact ast,((Ad _ w).alloc (Ab _) _).trans (hb.mono (by rw[Ai];omega))⟩
end
namespace Kp
open Go.Lib Go.RowKit Fil Man Wal Prs
def rowOf(L:List (T×M))(name:T):M:=((L.find? fun x=>x.1 == name).map (·.2)).getD []
theorem XH{L:List (T×M)}(hn:(L.map (·.1)).Nodup){x:T×M}(hx:x∈L):rowOf L x.1=x.2:=by
 unfold rowOf
 induction L with
 |nil=>simp at hx
 |cons y L ih=>
  obtain⟨n1,n2⟩:=Hu.1 hn;rcases AZ.1 hx with rfl|hx
  ·simp
  ·have:y.1≠x.1:=fun e=>n1 (show y.1∈L.map (·.1) from by rw[e];exact ES hx)
   rw[List.find?_cons_of_neg (by simpa using this)];exact ih n2 hx
def IA(name:T)(l:M):Af:=if l=[] then⟨name,[],true⟩ else⟨name,(Bc l).getD [],false⟩
def J4(l:M):Bool:=decide (l=[]) || (Bc l).isSome
def BX(L:List (T×M)):List T:=(L.map (·.1)).mergeSort fun x y=>decide (x≤y)
def Ho(L:List (T×M)):List Af:=(BX L).map fun t=>IA t (rowOf L t)
def KY(L:List (T×M)):Bool:=(BX L).all fun t=>J4 (rowOf L t)
theorem XI{L:List (T×M)}{t:T}:t∈BX L↔t∈L.map (·.1):=by
 unfold BX;exact(List.mergeSort_perm _ _).mem_iff
theorem bK(L:List (T×M)):(BX L).length=L.length:=by
 unfold BX;rw[(List.mergeSort_perm _ _).length_eq,BQ]
theorem bL{L:List (T×M)}(hn:(L.map (·.1)).Nodup):BX L=Az (L.map (·.1)):=by
 have hp:(BX L).Perm (L.map (·.1)):=List.mergeSort_perm _ _;have hs:BN ((BX L).map fun t=>(t,[])):=by
  unfold BN;rw[List.pairwise_map]
  have:=List.pairwise_mergeSort (le:=fun x y:T=>decide (x≤y)) (fun a b c h1 h2=>by
   have h1:a≤b:=Ld h1;have h2:b≤c:=Ld h2;exact Gs (List.le_trans h1 h2)) (fun a b=>by
   by_cases h:a≤b
   ·simp[h]
   ·have:b≤a:=(List.le_total a b).resolve_left h;simp[this]) (L.map (·.1))
  exact this.imp fun h=>Ld h
 refine LK ?_ (Ew _) fun t=>by rw[hp.mem_iff,Df]
 have hnd:(BX L).Nodup:=hp.nodup_iff.2 hn;unfold BN at hs;rw[List.pairwise_map] at hs;refine(hs.and (List.nodup_iff_pairwise_ne.1 hnd)).imp fun {a b} h=>?_
 rcases SQ h.1 with e|e
 ·exact e
 ·exact absurd e h.2
end Kp
namespace Man
open Go.RowKit Go.Maps Wal Fil
attribute [local go_sem] Le
def als(ats:Array TypeId)(ty:TypeId)(args:Array Value):Sem Value:=Builtin.append_ ats ty args
theorem alu(ats:Array TypeId)(ty:TypeId)(args:Array Value):Builtin.append_ ats ty args=als ats ty args:=rfl
attribute [local go_sem ↓] alu
def Rk(Q:Exit→Act→World→Prop):Exit→Act→World→Prop
 | .panic _,_,_=>False
 |e,a,w=>Q e a w
theorem TB{P:Program}{c:Code}{Q:Exit→Act→World→Prop}{a:Act}{w:World}(h:c.wp P (Rk Q) a w):c.wp P Q a w:=
 Code.wp_mono (fun e a w h=>by cases e<;>first|exact h|exact h.elim) h
section
variable {w:World}{b y n N:Nat}{bl:Nat→Prop}{A:M}
end
end Man
namespace Man
open Wal Fil
end Man
namespace Man
open Wal Fil
end Man
namespace Man
open Wal Fil
end Man
namespace Man
open Wal Fil
end Man
namespace Mem
open Go.RowKit Go.Maps
open Wal Fil Man Prs Kp BH Hex Sha Al
def PW(w:World)(base b:Nat)(l:M):Prop:=∃ v,w.heap[b]?=some (.cells #[v] 152)∧AP w base v l∧base≤b
theorem PW.upd{F:Nat→Prop}{w w':World}{base b:Nat}{l:M}(h:PW w base b l)(hu:A7 F w w')(h1:∀ k,F k→¬ Ap w k 152)(h2:∀ k,F k→¬ Ap w k 75):PW w' base b l:=by
 obtain⟨v,e,hr,hb⟩:=h;exact⟨v,(hu.block b (Ae e) (fun f=>h1 b f ⟨_,_,e⟩)).trans e,AL hr hu (fun k hk f=>h2 k f (Bi hr hk)),hb⟩
theorem PW.below{w w':World}{base b:Nat}{l:M}(h:PW w base b l)(hb:Bw w w'):PW w' base b l:=by
 obtain⟨v,e,hr,hl⟩:=h;exact⟨v,(hb.block b (Ae e)).trans e,Bp hr hb,hl⟩
structure CL(w:World)(base m:Nat)(L:List (T×M))(f:T→Nat):Prop where
 map:∃ kv:List (T×Value),kv.Perm (L.map fun x=>(x.1,Value.pointer (some ⟨f x.1,0,none⟩)))∧StrMap prog 9 w m kv
 nodup:(L.map (·.1)).Nodup
 NP:∀ x∈L,PW w base (f x.1) x.2
 inj:∀ x∈L,∀ y∈L,f x.1=f y.1→x.1=y.1
 low:base≤m
theorem alv:(prog.info? 147).map (fun i=>(i.zero,i.size))=some (some (.pointer none),1):=by kernel_rfl
theorem bM(w:World):(zeroValue 147).run prog w=.ok (.pointer none) w:=(zero_of_info alv).1 w
section
variable {w w':World}{base m:Nat}{L:List (T×M)}{f:T→Nat}
theorem CL.below(h:CL w base m L f)(hb:Bw w w'):CL w' base m L f:=by
 obtain⟨⟨kv,h1,h2⟩,h3,h4,h5,h6⟩:=h;exact⟨⟨kv,h1,h2.kept (hb.block m h2.lt)⟩,h3,fun x hx=>(h4 x hx).below hb,h5,h6⟩
theorem CL.PX(h:CL w base m L f):((L.map fun x=>(x.1,Value.pointer (some ⟨f x.1,0,none⟩))).map (·.1)).Nodup:=by
 rw[List.map_map];exact h.nodup
theorem CL.keys{kv:List (T×Value)}(h:kv.Perm (L.map fun x=>(x.1,Value.pointer (some ⟨f x.1,0,none⟩)))):(kv.map (·.1)).Perm (L.map (·.1)):=by
 have:=h.map (·.1);rwa[List.map_map] at this
theorem CL.XJ(h:CL w base m L f){x:T×M}(hx:x∈L)(hn:x.1.length≤maxLen):
  (Instr.lookup 145 (.map (some m)) (.string (bs x.1)) false).run prog w=.ok (.pointer (some ⟨f x.1,0,none⟩)) w:=by
 obtain⟨kv,h1,h2⟩:=h.map;rw[h2.lookup underlying9 underlying145 (bM w) x.1 hn,Si (h1.map (·.1) |>.nodup_iff.2 h.PX) h1,(QG h.PX).2 (AV.2 ⟨x,hx,rfl⟩)];rfl
theorem CL.alx(h:CL w base m L f){t:T}(hx:t∉L.map (·.1))(hn:t.length≤maxLen):
  (Instr.lookup 145 (.map (some m)) (.string (bs t)) false).run prog w=.ok (.pointer none) w:=by
 obtain⟨kv,h1,h2⟩:=h.map;have:Cr kv t=none:=by
  cases hs:Cr kv t with
  |none=>rfl
  |some v=>exact absurd ((CL.keys h1).mem_iff.1 (AV.2 ⟨_,WA hs,rfl⟩)) hx
 rw[h2.lookup underlying9 underlying145 (bM w) t hn,this];rfl
end
def TC(w:World)(L:List (T×M))(e:Ending)(w':World):Prop:=
 if KY L=true then ∃ q c,e=.returned (.tuple #[.slice q (Ho L).length c,.int .i64 0])∧w'.ownsRow w.heap.size 65 3 (.slice q (Ho L).length c) (Ho L).length (IW (Ho L))∧Bw w w'
 else e=.returned (.tuple #[.slice none 0 0,.int .i64 5])∧Bw w w'
def mJ(w:World)(nv:Value)(N:List T)(ch:T→Af)(fit:T→Bool)(s i:Value)(wr:World):Prop:=
 ∃ (k:Nat) (q:Option Addr) (c:Nat),k≤N.length∧i=.int .i64 (k:Int)∧s=.slice q ((N.take k).map ch).length c∧wr.ownsRow w.heap.size 65 3 (.slice q ((N.take k).map ch).length c) ((N.take k).map ch).length (IW ((N.take k).map ch))∧Bw w wr∧(N.take k).all fit=true∧Man.AQ wr (w.heap.size+1) nv N
theorem XK:∀ {L:List T} {a:T},textsE L=some a→a.length+2=rowLen L
 |[],a,h=>by simp only[textsE,Bt] at h;subst h;rfl
 |x :: L,a,h=>by
  simp only[textsE] at h;cases h1:CO x with
  |none=>rw[h1] at h;cases h
  |some u=>
   cases h2:textsE L with
   |none=>rw[h1,h2] at h;cases h
   |some c=>
    rw[h1,h2] at h;simp only[BI,Dm,Bt] at h;subst h;have ih:=XK h2;unfold CO at h1;split at h1
    ·injection h1 with h1
     subst h1;unfold rowLen at ih ⊢;simp only[Aj,Crc.Be,Bg,Cx];omega
    ·cases h1
theorem bN(l:M)(h:(CK l).2=0)(hs:rowLen (flat l)≤1000000000):(CK l).1.length≤1000000000:=by
 unfold CK at*;cases hp:DX l with
 |none=>simp
 |some s=>
  unfold DX at hp;split at hp
  ·cases ht:textsE (flat l) with
   |none=>rw[ht] at hp;cases hp
   |some a=>
    rw[ht] at hp;simp only[Dm,Bt] at hp;have:=XK ht;subst hp;simp only[Aj,Crc.Be];omega
  ·cases hp
theorem Rl{l:M}:(Bc l).isSome=true↔(CK l).2=0∧(CK l).1.length+4≤65535:=by
 unfold Bc CK;cases DX l with
 |none=>simp
 |some s=>
  by_cases h:s.length+4≤65535
  ·simp only[BI];rw[Ac h];exact⟨fun _=>⟨trivial,h⟩,fun _=>rfl⟩
  ·simp only[BI];rw[Aa h];exact⟨fun e=>by simp at e,fun e=>absurd e.2 h⟩
theorem bO{l:M}(h:(Bc l).isSome=true):(Bc l).getD []=Crc.Du (CK l).1:=by
 unfold Bc CK at*;cases hp:DX l with
 |none=>rw[hp] at h;simp at h
 |some s=>
  rw[hp] at h;simp only[BI] at h ⊢;by_cases hs:s.length+4≤65535
  ·rw[Ac hs];rfl
  ·rw[Aa hs] at h;simp at h
theorem aly{W W2:World}{base b2:Nat}{nv ov:Value}{N:List T}{n:Nat}{cs:List Value}(h:Man.AQ W base nv N)(ho:W.ownsRow b2 65 3 ov n cs)(hg:W.grownBy W2 ov.ownBlock):Man.AQ W2 base nv N:=
 AL h (A7.of_grownBy (F:=fun k=>ov.ownBlock=some k) hg (fun k e=>e)) (fun g hg' f=>by
  obtain⟨c1,f1,e1⟩:=Bi h hg';obtain⟨c2,f2,e2⟩:=Bi ho f;rw[e1] at e2;injection e2 with e2
  injection e2 with _ e2
  exact absurd e2 (by decide))
theorem bP{w wr W2 w1:World}{nv:Value}{N:List T}{ch:T→Af}{fit:T→Bool}{k:Nat}{cl:List Af}{ov:Value}{q':Option Addr}{cap':Nat}(c:Af)(hk:k < N.length)(hb:Bw w wr)(ast:wr.ownsRow w.heap.size 65 3 ov cl.length (IW cl))(hW:Bw wr W2)(hg:W2.grownBy w1 ov.ownBlock)
  (ho:w1.ownsRow w.heap.size 65 3 (.slice q' (cl.length+1) cap') (cl.length+1) (IW cl++[.string (bs c.name),.string (bs c.data),.bool c.gone]))(aww:(N.take (k+1)).map ch=cl++[c])(asD:(N.take (k+1)).all fit=true)(hn:Man.AQ wr (w.heap.size+1) nv N):
  mJ w nv N ch fit (.slice q' (cl.length+1) cap') (.int .i64 ((k:Int)+1)) w1:=by
 have e:cl.length+1=((N.take (k+1)).map ch).length:=by rw[aww,Aj];rfl
 refine⟨k+1,q',cap',by omega,by go_num,by rw[e],?_,?_,asD,?_⟩
 ·rw[←e,aww,jd];exact ho
 ·exact(hb.trans (hW.mono hb.size)).grown hg (Ah hb.size hW.size) (fun j hj=>CJ ast hj)
 ·exact aly (Bp hn hW) (Bp ast hW) hg
theorem mK{w:World}{base m:Nat}{L:List (T×M)}{f:T→Nat}(h:CL w base m L f)(hs:∀ x∈L,BN x.2∧x.2.length≤1000000∧rowLen (flat x.2)≤1000000000)(hn:∀ x∈L,x.1.length≤1000)(hl:L.length≤100000):
  Calls prog 72 #[.map (some m)] w fun e w'=>TC w L e w':=by
 obtain⟨i0,hi0,hz0,hz1,hz2⟩:=Cz je;have HK:=Hi (show Calls prog 149 #[.map (some m)] w fun e w'=>e=.returned (.func (.func 196) #[] #[.pointer (some ⟨w.heap.size,0,none⟩)])∧w'=w.alloc (.cells #[.map (some m)] 145) from alo (some m) w);obtain⟨kv,Gz,Rm⟩:=h.map;have hkl:kv.length=L.length:=by rw[Gz.length_eq,BQ]
 have TD:=Hi (alp Rm (by omega));have hke:(kv.map (·.1)).mergeSort (fun x y=>decide (x≤y))=BX L:=mergeSort_of_perm (CL.keys Gz);rw[hkl,hke] at TD;have HH:=Hi h;have HS:=Hi hs;have HN:=Hi hn;have hnl:(BX L).length=L.length:=bK L
 have mM:=Hi (fun t (ht:t∈BX L)=>show ∃ x∈L,x.1=t∧rowOf L t=x.2 from by
  obtain⟨x,hx,rfl⟩:=AV.1 (XI.1 ht);exact⟨x,hx,rfl,XH h.nodup hx⟩)
 clear h hs hn Gz Rm hkl hke;go_enter func72,ntmps72;go_wp2_with fail;refine HK.mono ?_;rintro e w1⟨rfl,hw1⟩;subst hw1;go_wp2_with fail;refine TD.mono ?_;rintro e w2⟨v,rfl,ast,hb2⟩;have aua:Man.AQ w2 (w.heap.size+1) v (BX L):=by
  unfold Man.AQ;rw[GD,hnl];exact ast
 obtain⟨q,c,rfl⟩:=AA aua;have HR2:=Hi aua;have HB2:=Hi hb2;clear ast aua hb2 HK TD;have hnI:((BX L).length:Int)=(L.length:Int):=by rw[hnl]
 go_wp2_with fail
 go_loopw [2,13] (fun s i wr=>mJ w (.slice q (BX L).length c) (BX L) (fun t=>IA t (rowOf L t)) (fun t=>J4 (rowOf L t)) s i wr) (fun _ i _=>(BX L).length -(intOf i).toNat)
 case atStart=>exact⟨0,none,0,Ar _,rfl,rfl,by rw[FJ,List.map_nil,jc];exact DJ _ _ _ _,HB2,rfl,HR2⟩
 case round=>
  obtain⟨k,cq,cc,hk,rfl,rfl,ast,hb,asD,hnr⟩:=hrel;have PY:=Hi hnr;have Ce:=Hi ast;have HB:=Hi hb;have Eh:=Hi asD;clear ast asD hnr HB2 HR2;by_cases hlt:k < (BX L).length
  ·obtain⟨x,hx,hxt,ED⟩:=mM _ (BF hlt);obtain⟨a,hix,c0⟩:=(CP (c:=c) (PY.out)).index c k hlt;simp only[hnl] at hix;have NL:k < L.length:=by omega
   have NQ:=Hi (show(J4 x.2=true→((BX L).take (k+1)).all (fun t=>J4 (rowOf L t))=true)∧((BX L).take (k+1)).map (fun t=>IA t (rowOf L t))=((BX L).take k).map (fun t=>IA t (rowOf L t))++[IA x.1 x.2] from by
    rw[BS hlt,C8,List.all_append,Eh.out];constructor
    ·intro e;simp[ED,e]
    ·simp[ED,hxt])
   have azd:=Hi (show J4 x.2=false→¬ KY L=true from fun e h=>by
    have:=Kl.1 h _ (BF hlt);rw[ED,e] at this;cases this)
   obtain⟨cl,hcl⟩:∃ cl,((BX L).take k).map (fun t=>IA t (rowOf L t))=cl:=⟨_,rfl⟩;have XL:cl.length=k:=(by rw[←hcl,BQ,Aw];omega);have D6:=Hi XL;rw[hcl] at Ce NQ ⊢;have I9:=((HH.below HB).XJ hx (by have:=HN x hx;unfold maxLen;omega));obtain⟨v,hbx,ast,hbb⟩:=(HH.below HB).NP x hx;obtain⟨q2,c2,rfl,hq2,hc2⟩:=Dl ast;have c1:wr.cell? ⟨f x.1,0,none⟩=some (.slice q2 x.2.length c2):=cr hbx;obtain⟨LW,hsl,PZ⟩:=HS x hx;rw[←hxt] at c0;clear hcl hb ED hbb hxt;have alA:cl.length≤100000:=(by omega);clear XL;have NR:=Hi (Av.BU ast);obtain⟨t,l⟩:=x;simp only at*;generalize f t=ft at*;by_cases hz:l=[]
   ·have hzl:((l.length:Int) == 0)=true:=(by rw[hz];rfl);have Gq:=Hi (show IA t l=⟨t,[],true⟩ from Ac hz);have TE:=Hi (NQ.1 (by rw[hz];rfl));go_wp2_with (at_builtin;refine wpList_append_own_at _ rfl _ _ 24 rfl w.heap.size 65 i0 _ 3 40 underlying24 hi0 hz0 hz1 hz2 rfl (by decide) _ cl.length _ rfl (Ce.alloc _) ⟨wr.heap.size,0,none⟩ 1 1 [.string (bs t),.string { data:=#[] },.bool true] rfl rfl (by intro j u hj;rw[add_plain,CV];exact(CB▸hj)) (by simp[Value.oneCell']) (by unfold maxLen;omega) (by omega) (by have:=HB.size;simp;omega) ?_;intro v' w1 asJ asx _ hat;obtain⟨g',cap',rfl⟩:=ownsRow_succ asJ;have HO:=Hi asJ;have HG:=Hi asx;clear asJ asx hat);have Ca:=Hi (bP ⟨t,[],true⟩ hlt HB Ce (Am wr _) HG HO (by rw[←Gq.out];exact NQ.2) TE PY);go_roundw
    case rel=>exact Ca.out
    case measure=>
     show(BX L).length -((k:Int)+1).toNat < (BX L).length -((k:Int)).toNat
     omega
   ·have hzl:((l.length:Int) == 0)=false:=Fq.2 (fun e=>hz (IL.1 (by omega)));have En:=Hi (aaF (cap:=c2) NR LW hsl PZ);have XM:=Hi (show J4 l=(Bc l).isSome from by unfold J4;simp[hz]);have Gq:=Hi (show IA t l=⟨t,(Bc l).getD [],false⟩ from Aa hz);by_cases hft:(Bc l).isSome=true
    ·have TE:=Hi (NQ.1 (by rw[XM.out];exact hft));obtain⟨he,hlen⟩:=Rl.1 hft;have OM:=Hi (bO hft);rw[he] at En;generalize (CK l).1=s at*;have awd:decide (65535 < (s.length:Int)+4)=false:=Ma (by omega);have hw4:IntKind.i64.wrap ((s.length:Int)+4)=(s.length:Int)+4:=CZ _ (by omega);have TF:=Hi (fun W=>Uf s W (by omega));clear he hft hlen;go_wp2_with fail;refine En.mono ?_;rintro e w3⟨rfl,hb3⟩;have HB3:=Hi hb3;clear hb3;go_wp2_with fail;refine(TF _).mono ?_;rintro e w4⟨rfl,hb4⟩;have Ay:=Hi (HB3.trans (hb4.mono HB3.size));have Rn:=Hi (Bp Ce Ay);have jk:=Ay.size;have ZN:=HB.size;clear hb4;go_wp2_with (at_builtin;refine wpList_append_own_at _ rfl _ _ 24 rfl w.heap.size 65 i0 _ 3 40 underlying24 hi0 hz0 hz1 hz2 rfl (by decide) _ cl.length _ rfl (Rn.alloc _) ⟨w4.heap.size,0,none⟩ 1 1 [.string (bs t),.string (bs (Crc.Du s)),.bool false] rfl rfl (by intro j u hj;rw[add_plain,CV];exact(CB▸hj)) (by simp[Value.oneCell']) (by unfold maxLen;omega) (by omega) (by simp;omega) ?_;intro v' w1 asJ asx _ hat;obtain⟨g',cap',rfl⟩:=ownsRow_succ asJ;have HO:=Hi asJ;have HG:=Hi asx;clear asJ asx hat);have Ca:=Hi (bP ⟨t,Crc.Du s,false⟩ hlt HB Ce (Ay.trans ((Am w4 _).mono Ay.size)) HG HO (by rw[←OM.out,←Gq.out];exact NQ.2) TE PY);go_roundw
     case rel=>exact Ca.out
     case measure=>
      show(BX L).length -((k:Int)+1).toNat < (BX L).length -((k:Int)).toNat
      omega
    ·have Dc:=Hi (azd (by rw[XM.out];simpa using hft));by_cases he:(CK l).2=0
     ·have hlen:¬ (CK l).1.length+4≤65535:=fun h=>hft (Rl.2 ⟨he,h⟩)
      rw[he] at En;have hsb:=bN l he PZ;generalize (CK l).1=s at*;have awd:65535 < (s.length:Int)+4:=(by omega);have hw4:IntKind.i64.wrap ((s.length:Int)+4)=(s.length:Int)+4:=CZ _ (by omega);clear he hft;go_wp2_with fail;refine En.mono ?_;rintro e w3⟨rfl,hb3⟩;have HB3:=Hi (HB.trans (hb3.mono HB.size));clear hb3;go_wp2_with fail;go_ret2;unfold TC;rw[Aa Dc.out];exact⟨rfl,HB3⟩
     ·have hb0:((CK l).2 == 0)=false:=Fq.2 he;generalize CK l=V at*;clear hft;go_wp2_with fail;refine En.mono ?_;rintro e w3⟨rfl,hb3⟩;have HB3:=Hi (HB.trans (hb3.mono HB.size));clear hb3;go_wp2_with fail;go_ret2;unfold TC;rw[Aa Dc.out];exact⟨rfl,HB3⟩
  ·obtain rfl:k=(BX L).length:=(by omega);have au7:KY L=true:=by
    have:=Eh.out;rw[ET (Ab _)] at this;exact this
   have hE:=Ce.out;rw[ET (Ab _)] at hE;have HE:=Hi (show wr.ownsRow w.heap.size 65 3 (.slice cq (Ho L).length cc) (Ho L).length (IW (Ho L)) from hE);have hcl:(((BX L).take (BX L).length).map fun t=>IA t (rowOf L t)).length=(Ho L).length:=(by rw[ET (Ab _)];rfl);rw[hcl];clear hE hb hcl;go_wp2_with fail;go_ret2;unfold TC;rw[Ac au7];exact⟨cq,cc,rfl,HE,HB⟩
theorem alB{w:World}{a:Option Addr}{l:List T}(cap:Nat)(hl:BB w a l)(k:T)(hlen:l.length≤1000000000):
  Calls prog 136 #[.slice a l.length cap,.string (bs k)] w fun e w'=>∃ i:Int,e=.returned (.int .i64 i)∧(decide (0≤i))=decide (k∈l)∧Bw w w':=by
 have HL:=Hi hl;clear hl;go_enter func136,ntmps136;go_wp2_with fail
 go_loopw [5,8] (fun _ i wr=>∃ n:Nat,n≤l.length∧i=.int .i64 n∧Bw w wr∧k∉l.take n) (fun _ i _=>l.length -(intOf i).toNat)
 case atStart=>exact⟨0,Ar _,rfl,Ad _ _,by simp⟩
 case round=>
  obtain⟨n,hn,rfl,hb,hno⟩:=hrel;have Dc:=Hi hno;have HB:=Hi hb;clear hno;by_cases hlt:n < l.length
  ·obtain⟨q,hix,c0⟩:=(HL.below hb).index cap n hlt;have Gh:=Hi (BF hlt)
   have Eg:=Hi (show k≠l[n]→k∉l.take (n+1) from fun h=>by
    rw[BS hlt,Ee];rintro(e|e)
    ·exact Dc e
    ·exact h (by simpa using e))
   generalize l[n]=x at*;clear hb;by_cases hx:k=x
   ·subst hx;go_wp2_with fail;go_ret;exact⟨_,rfl,by simp[Gh.out],HB⟩
   ·have Tw:(k == x)=false:=Fq.2 hx;have HN:=Hi (Eg hx);clear Eg Gh;go_wp2_with fail;go_roundw
    case rel=>exact⟨n+1,by omega,by go_num,HB,HN⟩
    case measure=>simp[intOf];omega
  ·obtain rfl:n=l.length:=(by omega);have hno:k∉l:=by
    have:=Dc.out;rwa[Ck] at this
   clear hb;go_wp2_with fail;go_ret;exact⟨_,rfl,by simp[hno],HB⟩
theorem mO{w:World}{a:Option Addr}{l:List T}(cap:Nat)(hl:BB w a l)(k:T)(hlen:l.length≤1000000000):
  Calls prog 60 #[.slice a l.length cap,.string (bs k)] w fun e w'=>e=.returned (.bool (decide (k∈l)))∧Bw w w':=by
 have HI:=Hi (alB cap hl k hlen);clear hl;generalize decide (k∈l)=d at*;go_enter func60,ntmps60;go_wp2_with fail;refine HI.mono ?_;rintro e w1⟨i,rfl,hd,hb⟩;have HB:=Hi hb;have HD:=Hi hd;clear hb hd;go_wp2_with fail;go_ret;exact⟨by rw[←HD.out];rfl,HB⟩
end Mem
namespace Dep
open Go.RowKit Go.Maps
open Wal Fil Man Prs Kp BH Hex Sha Mem
theorem bQ(k:T)(w:World)(hk:k.length≤1000000):Calls prog 80 #[.string (bs k)] w fun e w'=>e=.returned (.string (bs (A8.nm k)))∧Bw w w':=by
 have hm:({ data:=#[117] }:ByteArray)=bs [117]:=rfl;have hcut:∀ W,(Instr.slice 9 (.string (bs (De k))) none (some (.int .i64 8)) none).run prog W=.ok (.string (bs ((De k).take 8))) W:=fun W=>Ji prog W 9 underlying9 (De k) 8 (by rw[NI];decide)
 have HE:=Hi (show A8.nm k=[117]++Dq ((De k).take 8) from rfl);have hl:(Dq ((De k).take 8)).length=16:=by rw[SY,Aw,NI];rfl
 have HS:=Hi (zH k hk w);have HH:=Hi (fun(W:World)=>aae ((De k).take 8) W (by rw[Aw,NI];decide));rw[HE.out];generalize De k=s at*;generalize Dq (s.take 8)=h at*;go_enter func80,ntmps80;go_wp2_with fail;refine HS.mono ?_;rintro e w1⟨rfl,hb1⟩;have HB1:=Hi hb1;clear hb1;go_wp2_with fail;refine(HH _).mono ?_;rintro e w2⟨rfl,hb2⟩;have HB2:=Hi (HB1.trans (hb2.mono HB1.size));clear hb2;go_wp2_with fail;go_ret;exact⟨rfl,HB2⟩
theorem alC(name:T)(w:World)(hn:name.length≤1000000):Calls prog 113 #[.string (bs name)] w fun e w'=>e=.returned (.bool (A8.ours name))∧Bw w w':=by
 show Calls _ _ _ _ fun e w'=>e=.returned (.bool (J2 117 name))∧_
 by_cases h1:name.length=17
 ·have ma:(name.length:Int)=17:=by omega
  have hlt:0 < name.length:=by omega
  have Xr:(0:Int) < (name.length:Int):=by omega
  have hd:name.head?=some name[0]:=by
   cases name with
   |nil=>simp at h1
   |cons a l=>rfl
  by_cases h2:name[0]=117
  ·have hR:=Hi (aaL (c:=117) h1 (by rw[hd,h2]));have hcut:∀ W,(Instr.slice 9 (.string (bs name)) (some (.int .i64 1)) none none).run prog W=.ok (.string (bs (name.drop 1))) W:=fun W=>Ik prog W 9 underlying9 name 1 (by omega)
   have WK:(name[0].toNat:Int)=117:=(by rw[h2];rfl);have HU:=Hi (aai (name.drop 1) w (by rw[BA];omega));have HV:=Hi (aaM (name.drop 1));rw[hR.out,←HV.out];generalize KU (name.drop 1)=V at*;clear hd h2 HV hR;generalize name.drop 1=dn at*;go_enter func113,ntmps113;go_wp2_with fail;refine HU.mono ?_;rintro e w1⟨rfl,hb⟩;have HB:=Hi hb;clear hb;go_wp2_with fail;go_ret;exact⟨by simp;rfl,HB⟩
  ·have hR:Hid (J2 117 name=false):=Hi (bu (fun h=>h2 (by have:=h.2;rw[hd] at this;injection this)));have WK:¬ (name[0].toNat:Int)=117:=fun e=>h2 (by apply UInt8.toNat_inj.1;have h9:(117:UInt8).toNat=117:=rfl;rw[h9];omega)
   rw[hR.out];clear hd h2;go_enter func113,ntmps113;go_wp2_with fail;go_ret;exact⟨rfl,Ad _ _⟩
 ·have ma:¬ (name.length:Int)=17:=by omega
  have hR:Hid (J2 117 name=false):=Hi (bu (fun h=>h1 h.1));rw[hR.out];go_enter func113,ntmps113;go_wp2_with fail;go_ret;exact⟨rfl,Ad _ _⟩
end Dep
end Go.Proofs.YtmbbhdebddbhoaaGreat
