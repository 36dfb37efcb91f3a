/- FilNames2 -/
import Derived.Shelf.SlIter.Nil
import Derived.Shelf.SortM.Plain
import Derived.Shelf.SortM.SortNone
import Derived.Ground.GgzProg
import Derived.Ground.SlgmProg
import Derived.Test.YtmbbhdebddbhoaaGreatR9
import Derived.Maps.OwnIn
import Derived.Test.YtmbbhdebddbhoaaGreatR10
set_option maxHeartbeats 2000000
set_option maxRecDepth 100000
set_option linter.all false
namespace Go.Proofs.YtmbbhdebddbhoaaGreat
open Tryz
section
open Go.RowKit Go.Maps Go.Sort Go.Shelf
def agD:Go.Shelf.Ren:=⟨fun|7=>215|10=>238|n=>n,fun|23=>110|26=>9|3=>177|28=>228|0=>0|27=>227|33=>107|4=>4|n=>n,fun|n=>n⟩
theorem agC:Go.Proofs.SlLaysZ.n7 prog agD:={
 mixed:=by kernel_rfl
 f7:=⟨Tryz.f215.name,by decide,func215.trans (congrArg some (by kernel_rfl))⟩
 f10:=⟨Tryz.f238.name,by decide,func238.trans (congrArg some (by kernel_rfl))⟩
 t0:=underlying0
 a0:=Tryz.isAgg0
 z0:=Tryz.sizeOf0
 v0:=Tryz.zeroValue0
 t4:=underlying4
 a4:=Tryz.isAgg4
 z4:=Tryz.sizeOf4
 v4:=Tryz.zeroValue4
 t23:=underlying110
 a23:=Tryz.isAgg110
 z23:=Tryz.sizeOf110
 v23:=Tryz.zeroValue110
 t26:=underlying9
 a26:=Tryz.isAgg9
 z26:=Tryz.sizeOf9
 v26:=Tryz.zeroValue9
 t27:=underlying227
 a27:=Tryz.isAgg227
 z27:=Tryz.sizeOf227
 v27:=Tryz.zeroValue227
 t28:=underlying228
 a28:=Tryz.isAgg228
 z28:=Tryz.sizeOf228
 v28:=Tryz.zeroValue228
 t33:=underlying107
 a33:=Tryz.isAgg107
 z33:=Tryz.sizeOf107
 v33:=Tryz.zeroValue107 }
def agQ:Go.Shelf.Ren:=⟨fun|6=>148|8=>195|9=>115|11=>231|13=>182|12=>181|23=>226|24=>227|14=>217|15=>218|16=>219|17=>220|18=>221|19=>222|20=>223|21=>224|22=>225|25=>239|26=>240|27=>241|28=>242|29=>243|30=>244|31=>252|n=>n,fun|26=>9|28=>228|24=>27|0=>0|3=>3|37=>256|48=>268|50=>122|4=>4|40=>285|39=>284|45=>289|5=>5|9=>9|51=>304|55=>307|57=>316|58=>317|33=>107|n=>n,fun|n=>n⟩
theorem zy:Go.Proofs.SlLaysZ.n6 prog agQ:={
 mixed:=by kernel_rfl
 f6:=⟨Tryz.f148.name,by decide,func148.trans (congrArg some (by kernel_rfl))⟩
 f8:=⟨Tryz.f195.name,by decide,func195.trans (congrArg some (by kernel_rfl))⟩
 f11:=⟨Tryz.f231.name,by decide,func231.trans (congrArg some (by kernel_rfl))⟩
 t0:=underlying0
 a0:=Tryz.isAgg0
 z0:=Tryz.sizeOf0
 v0:=Tryz.zeroValue0
 t24:=underlying27
 a24:=Tryz.isAgg27
 z24:=Tryz.sizeOf27
 v24:=Tryz.zeroValue27
 t26:=underlying9
 a26:=Tryz.isAgg9
 z26:=Tryz.sizeOf9
 v26:=Tryz.zeroValue9
 t28:=underlying228
 a28:=Tryz.isAgg228
 z28:=Tryz.sizeOf228
 v28:=Tryz.zeroValue228
 i26:=by kernel_rfl }
def ass:Go.Shelf.Ren:=⟨fun|6=>115|8=>182|9=>181|19=>226|20=>227|21=>217|22=>218|23=>219|24=>220|25=>221|26=>222|27=>223|28=>224|29=>225|36=>239|31=>240|32=>241|37=>242|38=>243|39=>244|41=>252|n=>n,fun|27=>27|29=>9|3=>3|32=>256|26=>27|0=>0|44=>268|46=>122|4=>4|36=>285|35=>284|41=>289|5=>5|9=>9|53=>304|57=>307|63=>316|64=>317|n=>n,fun|n=>n⟩
theorem bq:Go.Proofs.SlLaysM.n6 prog ass:={
 mixed:=by kernel_rfl
 f6:=⟨Tryz.f115.name,by decide,func115.trans (congrArg some (by kernel_rfl))⟩
 f8:=func182.trans (congrArg some (by kernel_rfl))
 f9:=⟨Tryz.f181.name,by decide,func181.trans (congrArg some (by kernel_rfl))⟩
 f19:=func226.trans (congrArg some (by kernel_rfl))
 f20:=func227.trans (congrArg some (by kernel_rfl))
 f21:=⟨Tryz.f217.name,by decide,func217.trans (congrArg some (by kernel_rfl))⟩
 f22:=⟨Tryz.f218.name,by decide,func218.trans (congrArg some (by kernel_rfl))⟩
 f23:=⟨Tryz.f219.name,by decide,func219.trans (congrArg some (by kernel_rfl))⟩
 f24:=⟨Tryz.f220.name,by decide,func220.trans (congrArg some (by kernel_rfl))⟩
 f25:=⟨Tryz.f221.name,by decide,func221.trans (congrArg some (by kernel_rfl))⟩
 f26:=⟨Tryz.f222.name,by decide,func222.trans (congrArg some (by kernel_rfl))⟩
 f27:=⟨Tryz.f223.name,by decide,func223.trans (congrArg some (by kernel_rfl))⟩
 f28:=⟨Tryz.f224.name,by decide,func224.trans (congrArg some (by kernel_rfl))⟩
 f29:=⟨Tryz.f225.name,by decide,func225.trans (congrArg some (by kernel_rfl))⟩
 f31:=func240.trans (congrArg some (by kernel_rfl))
 f32:=func241.trans (congrArg some (by kernel_rfl))
 f36:=⟨Tryz.f239.name,by decide,func239.trans (congrArg some (by kernel_rfl))⟩
 f37:=⟨Tryz.f242.name,by decide,func242.trans (congrArg some (by kernel_rfl))⟩
 f38:=⟨Tryz.f243.name,by decide,func243.trans (congrArg some (by kernel_rfl))⟩
 f39:=⟨Tryz.f244.name,by decide,func244.trans (congrArg some (by kernel_rfl))⟩
 f41:=⟨Tryz.f252.name,by decide,func252.trans (congrArg some (by kernel_rfl))⟩
 t0:=underlying0
 a0:=Tryz.isAgg0
 z0:=Tryz.sizeOf0
 v0:=Tryz.zeroValue0
 t3:=underlying3
 a3:=Tryz.isAgg3
 z3:=Tryz.sizeOf3
 v3:=Tryz.zeroValue3
 t4:=underlying4
 a4:=Tryz.isAgg4
 z4:=Tryz.sizeOf4
 v4:=Tryz.zeroValue4
 t5:=underlying5
 a5:=Tryz.isAgg5
 z5:=Tryz.sizeOf5
 v5:=Tryz.zeroValue5
 t9:=underlying9
 a9:=Tryz.isAgg9
 z9:=Tryz.sizeOf9
 v9:=Tryz.zeroValue9
 t26:=underlying27
 a26:=Tryz.isAgg27
 z26:=Tryz.sizeOf27
 v26:=Tryz.zeroValue27
 t27:=underlying27
 a27:=Tryz.isAgg27
 z27:=Tryz.sizeOf27
 v27:=Tryz.zeroValue27
 t29:=underlying9
 a29:=Tryz.isAgg9
 z29:=Tryz.sizeOf9
 v29:=Tryz.zeroValue9
 t32:=underlying256
 a32:=Tryz.isAgg256
 z32:=Tryz.sizeOf256
 v32:=Tryz.zeroValue256
 t35:=underlying284
 a35:=Tryz.isAgg284
 z35:=Tryz.sizeOf284
 v35:=Tryz.zeroValue284
 t36:=underlying285
 a36:=Tryz.isAgg285
 z36:=Tryz.sizeOf285
 v36:=Tryz.zeroValue285
 t41:=underlying289
 a41:=Tryz.isAgg289
 z41:=Tryz.sizeOf289
 v41:=Tryz.zeroValue289
 t44:=underlying268
 a44:=Tryz.isAgg268
 z44:=Tryz.sizeOf268
 v44:=Tryz.zeroValue268
 t46:=underlying122
 a46:=Tryz.isAgg122
 z46:=Tryz.sizeOf122
 v46:=Tryz.zeroValue122
 t53:=underlying304
 a53:=Tryz.isAgg304
 z53:=Tryz.sizeOf304
 v53:=Tryz.zeroValue304
 t57:=underlying307
 a57:=Tryz.isAgg307
 z57:=Tryz.sizeOf307
 v57:=Tryz.zeroValue307
 t63:=underlying316
 a63:=Tryz.isAgg316
 z63:=Tryz.sizeOf316
 v63:=Tryz.zeroValue316
 t64:=underlying317
 a64:=Tryz.isAgg317
 z64:=Tryz.sizeOf317
 v64:=Tryz.zeroValue317 }
end
section
open Go.RowKit Go.Maps Go.Sort Go.Shelf
open Fil
attribute [local go_sem] Om
theorem zz(m:Nat):AnyZ.SortsIn prog agQ Fence.wide m:=
 ⟨fun blk off cap ss W hH bI hsz=>Di.2 (AnyM.slices_Sort_string bq blk off cap ss W hH bI hsz),
  fun p cap W=>Di.2 (AnyM.slices_Sort_string_none bq p cap W)⟩
theorem as7(mb:Option Nat)(W:World):Calls prog 215 #[.map mb] W fun e w'=>e=.returned (.func (.func 238) #[] #[.pointer (some ⟨W.heap.size,0,none⟩)])∧w'=W.alloc (.cells #[.map mb] 110):=
 Di.1 (AnyZ.keys_in agC Fence.wide 5 trivial rfl mb W)
theorem awG{F:M}(h:Up F){ss:List T}(hp:ss.Perm (F.map (·.1))):ss.mergeSort (fun x y=>decide (x≤y))=F.map (·.1):=by
 have e:ss.mergeSort leB=(F.map (·.1)).mergeSort leB:=mergeSort_of_perm hp;have e2:(F.map (·.1)).mergeSort leB=F.map (·.1):=by
  refine List.mergeSort_of_pairwise ?_;refine List.pairwise_map.2 (h.imp fun {a b} hab=>?_)
  show decide (a.1≤b.1)=true
  simpa using List.not_lt.1 (Qr hab)
 exact e.trans e2
theorem ast{w:World}{m:Nat}{F:M}(h:Co w m F)(hlen:F.length≤1000000):
  Calls prog 148 #[.func (.func 238) #[] #[.pointer (some ⟨w.heap.size,0,none⟩)]] (w.alloc (.cells #[.map (some m)] 110)) fun e w'=>
   ∃ v,e=.returned v∧w'.ownsRow (w.heap.size+1) 9 1 v F.length ((F.map (·.1)).map encStr)∧Bw w w':=by
 obtain⟨hu,kv,Zc,U8⟩:=h;obtain⟨D,hown,hsz,bV⟩:=U8.keyed;have Db:kv.length=F.length:=by rw[Zc.length_eq];unfold OG;rw[Cf]
 have YX:(kv.map (·.1)).Perm (F.map (·.1)):=by rw[←agv];exact Zc.map _
 have De:=hown.lt;have MC:SeqGives Fence.wide 2 prog 238 #[.pointer (some ⟨w.heap.size,0,none⟩)] encStr (fun ss=>ss.Perm (strKeys D)) (Maps.size D) (w.alloc (.cells #[.map (some m)] 110)):=
  AnyZ.keys_gives (ρ:=agD) { agC with } Fence.wide _ trivial rfl (by omega) w.heap.size m kv.length D _ (by simp) (by simp) (by
   obtain⟨es,clock,hb,Ft,hs,hD⟩:=hown;exact⟨es,clock,(Below.heap_alloc _ _ m De).trans hb,Ft,hs,hD⟩)
 have cS:=AnyZ.sorted_in zy Fence.wide 5 trivial trivial trivial trivial rfl (by omega) (zz _) (enters_of func115 (by kernel_rfl) rfl) 238 #[.pointer (some ⟨w.heap.size,0,none⟩)] trivial (enters_of func238 (by kernel_rfl) rfl) _ _ (by unfold maxLen;omega) (by omega) _ MC;refine(Di.1 cS).mono ?_;rintro e w'⟨v,ss,rfl,hS,Ah,_,hb⟩;have LH:ss.Perm (F.map (·.1)):=(hS.trans bV.symm).trans YX;have e1:ss.length=F.length:=by have:=LH.length_eq;simpa using this
 rw[e1,awG hu LH] at Ah;exact⟨v,rfl,by rw[Aq] at Ah;exact Ah,((Af _ w).alloc (Ac _) _).trans (hb.mono (by rw[Aq];omega))⟩
theorem ays(W:World)(s:List UInt8):(Instr.field 177 (.agg #[.string (bs s)]) 0).run prog W=.ok (.string (bs s)) W:=by
 simp[Instr.field,Gp underlying177,go_sem,asAgg,Result.andThen]
def nO(W:World)(k:Nat):Prop:=∃ o,W.heap[k]?=some o∧o.isCells=false
def May(Q:World→Nat→Prop)(n₀:Nat)(W:World)(k:Nat):Prop:=Q W k∨(n₀≤k∧nO W k)
structure OD(Q:World→Nat→Prop)(n₀:Nat)(W W':World):Prop where
 upd:A7 (May Q n₀ W) W W'
 stay:∀ k,Q W' k→May Q n₀ W k∨W.heap.size≤k
theorem May.back{Q:World→Nat→Prop}{n₀:Nat}{A B:World}(h:OD Q n₀ A B){k:Nat}(hk:May Q n₀ B k):May Q n₀ A k∨A.heap.size≤k:=by
 rcases hk with hk|⟨h1,o,h2,h3⟩
 ·exact h.stay k hk
 ·by_cases hlt:k < A.heap.size
  ·by_cases hm:May Q n₀ A k
   ·exact .inl hm
   ·exact .inl (.inr ⟨h1,o,(h.upd.block k hlt hm).symm.trans h2,h3⟩)
  ·exact .inr (by omega)
theorem OD.trans{Q:World→Nat→Prop}{n₀:Nat}{A B C:World}(h:OD Q n₀ A B)(k:OD Q n₀ B C):OD Q n₀ A C:=
 ⟨h.upd.trans k.upd (fun _ hi=>May.back h hi),fun i hi=>by
  rcases k.stay i hi with hi|hi
  ·exact May.back h hi
  ·exact .inr (Ap h.upd.size hi)⟩
theorem OD.putObj{Q:World→Nat→Prop}{n₀:Nat}{W:World}{l:Nat}{o o':Obj}(hl:n₀≤l)(ho:W.heap[l]?=some o)(hc:o.isCells=false)(hQ:∀ k,Q (W.putObj l o') k→May Q n₀ W k∨W.heap.size≤k):OD Q n₀ W (W.putObj l o'):=
 ⟨A7.of_grownBy (grownBy_putObj' W l o') (fun k e=>by cases e;exact .inr ⟨hl,o,ho,hc⟩),hQ⟩
theorem OD.awV{Q:World→Nat→Prop}{n₀:Nat}{W W':World}(h:A7 (May Q n₀ W) W W')(hQ:∀ k,k < W.heap.size→W'.heap[k]?=W.heap[k]?→Q W' k→Q W k):OD Q n₀ W W':=
 ⟨h,fun k hk=>by
  by_cases hlt:k < W.heap.size
  ·by_cases hm:May Q n₀ W k
   ·exact .inl hm
   ·exact .inl (.inl (hQ k hlt (h.block k hlt hm) hk))
  ·exact .inr (by omega)⟩
abbrev eX:={ p:T×T // Fw p.1 p.2=true }
def ow(x:eX):Array Value:=#[.string (bs x.1.1),.string (bs x.1.2)]
theorem zk:∀ (F:M),Fil.Good F→∃ L:List eX,L.map (·.1)=F
 |[],_=>⟨[],rfl⟩
 |p :: F,h=>by
  obtain⟨L,hL⟩:=zk F (fun q hq=>h q (DT _ hq));exact⟨⟨p,h p Dg⟩ :: L,by rw[BL,hL]⟩
theorem agR(mb:Option Nat)(w:World):
  Calls prog 179 #[.map mb] w fun e w'=>e=.returned (.func (.func 214) #[] #[.pointer (some ⟨w.heap.size,0,none⟩)])∧w'=w.alloc (.cells #[.map mb] 110):=by
 go_enter func179,ntmps179;go_wp2_with fail;go_ret;exact⟨rfl,rfl⟩
theorem agS(n:Nat)(hn:1≤n)(Q:World→Nat→Prop)(n₀ Bx m:Nat)(F:M)(L:List eX)(hL:L.map (·.1)=F)(w:World)(hc:w.cell? ⟨Bx,0,none⟩=some (.map (some m)))(hM:Co w m F)(hlen:F.length≤1000000)(ajv:w.heap.size≤n₀)(hQ1:∀ W k,Q W k→k≠m∧k≠Bx)
  (hQ2:∀ W W' g,Bw w W→Bw W W'→W.heap.size≤g→AA W' g 9→¬ Q W' g):
  SeqStopsK Fence.wide n prog 214 #[.pointer (some ⟨Bx,0,none⟩)] ow (OD Q n₀) (fun ys=>ys=L) (fun _=>True) L.length w:=fun l J Jx W hW hJ _ hY h0=>by
 have K8:=BS hc;have Z7:=hM.lt;have Ni:=(hW.cell (p:=⟨Bx,0,none⟩) K8).trans hc;have hM':=hM.below hW;have hsz:=hW.size;have EB:L.length=F.length:=by rw[←hL,Cf]
 have Ad:Bw W (W.alloc (.cells #[.map (some m)] 110)):=(Af _ _).alloc (Ac _) _;have HS:=Hi (ast hM' hlen);have HM:=Hi hM';have HL:=Hi hL;have NK:=Hi EB;have EY:=Hi hlen;have HC:=Hi Ni;have gK:=Hi hQ1;have wZ:=Hi (fun W' g=>hQ2 W W' g hW);clear hc hM hM' hW hlen hQ1 hQ2 EB hL;refine callsIn_of_wp func214 rfl trivial ?_ rfl;simp only[ntmps214,JG,Br,Ig,Nat.reduceAdd,Nat.reduceSub,LX,LY,M3,LZ,Eu,GI];have hfK:Fence.wide.fn 215:=trivial;have hfS:Fence.wide.fn 148:=trivial
 gi_wp2_with (first
  |(gi_at_call 215;refine(Di.2 (as7 _ _)).mono ?_;rintro e w' ⟨rfl,rfl⟩)
  |(gi_at_call 148;refine(Di.2 HS).mono ?_;rintro e W1 ⟨v,rfl,Ah,KI⟩;obtain⟨q,cap,rfl⟩:=Bg Ah))
 have hJ1:J [] W1:=hJ _ _ _ none h0 ⟨KI.os,KI.tape,KI.output,KI.size,fun k hk _=>KI.block k hk⟩ (fun r e=>by cases e);have CZ:=Hi Ah;have CL:=Hi KI;clear Ah KI h0
 gi_loopw [9] (fun i wr=>∃ k:Nat,k≤F.length∧i=.int .i64 k∧J (L.take k) wr∧OD Q n₀ W1 wr)
  (fun i _=>F.length -(intOf i).toNat)
 case atStart=>exact⟨0,AB _,rfl,by rw[GZ];exact hJ1,⟨A7.refl _ _,fun k hk=>.inl (.inl hk)⟩⟩
 case round=>
  obtain⟨k,hk,rfl,Mi,Gg⟩:=hrel;by_cases hlt:k < F.length
  ·have hkL:k < L.length:=(by rw[NK.out];exact hlt);obtain⟨g,rfl⟩:∃ g,q=some ⟨g,0,none⟩:=by
    rcases CZ.2 with⟨e1,e2⟩|⟨g,cap,_,e1,_⟩
    ·omega
    ·exact⟨g,by injection e1⟩
   have U6:=BQ CZ (g:=g) rfl;have hgW:W.heap.size+1≤g:=by
    rcases CZ.2 with⟨e1,_⟩|⟨g',cap',_,e1,hb,_⟩
    ·injection e1 with e1;cases e1
    ·injection e1 with e1;cases e1;exact hb
   have hnq:¬ Q W1 g:=wZ W1 g CL (by omega) U6;have Jw:¬ May Q n₀ W1 g:=by
    rintro(h|⟨_,o,h1,h2⟩)
    ·exact hnq h
    ·obtain⟨cs,fr,h3⟩:=U6;rw[h1] at h3;cases h3;cases h2
   have aja:∀ i,i < F.length→wr.cell? ⟨g,i,none⟩=W1.cell? ⟨g,i,none⟩:=fun i hi=>World.cell?_of_block (Gg.upd.block g U6.lt Jw)
   have LK:=CL.size;have hxF:F[k]=L[k].1:=by
    have e:(L.map (·.1))[k]?=F[k]? :=(by rw[HL.out]);rw[IX,Cn hkL,Cn hlt] at e;simpa using e.symm
   have bS:wr.cell? ⟨g,k,none⟩=some (.string (bs L[k].1.1)):=by
    rw[aja k hlt];have:=CZ.cells (g:=g) rfl k (encStr F[k].1) (by rw[IX,IX,Cn hlt];rfl);rw[add_plain,hxF] at this;exact this
   have YL:wr.cell? ⟨Bx,0,none⟩=some (.map (some m)):=by
    refine(World.cell?_of_block (Gg.upd.block Bx (by omega) ?_)).trans ((CL.cell (p:=⟨Bx,0,none⟩) (by show Bx < W.heap.size;omega)).trans HC);rintro(h|⟨h1,_⟩)
    ·exact(gK _ _ h).2 rfl
    ·omega
   have hmr:Co wr m F:=by
    refine(HM.below CL).upd Gg.upd ?_;rintro(h|⟨h1,_⟩)
    ·exact(gK _ _ h).1 rfl
    ·omega
   have Ug:(L[k].1.1,L[k].1.2)∈F:=by
    rw[←hxF];exact Ci hlt
   have hgx:=get_mem hmr.1 Ug;have ky:=L[k].2;have hxb:L[k].1.1.length≤32∧L[k].1.2.length≤65535:=(by unfold Fw at ky;simp at ky;exact⟨ky.2.1,ky.2.2⟩);have Ik:=hmr.lookup L[k].1.1 (by unfold maxLen;omega);rw[hgx,Option.getD_some] at Ik;have Hg:=Hr prog 27 9 underlying27 1 (by kernel_rfl) ⟨g,0,none⟩ F.length cap k hlt;rw[add_plain,Nat.mul_one] at Hg;have BN:=Hi (show L.take (k+1)=L.take k++[L[k]] by rw[List.take_add_one,Cn hkL];rfl);obtain⟨fn,tmps,assign,body,hy,hR⟩:=hY _ L[k] wr Mi (by rw[AL];omega);unfold ow at hy;have EL:=Hi Gg;clear U6 hgW hnq Jw aja hxF hmr Ug hgx ky hxb Gg Mi LK;generalize L[k]=x at*;clear hkL;obtain⟨⟨xn,xd⟩,hxx⟩:=x;simp only at bS Ik hy;have X8:=fun W=>ays W xd
   have hFL:=EY.out
   gi_wp2
   refine hR.mono ?_;rintro e W3 (⟨rfl,hJ3,hk3⟩|⟨rfl,aa2⟩)
   ·gi_wp2
    go_roundw
    case rel=>exact⟨k+1,by omega,by simp,by rw[BN.out];exact hJ3,EL.trans hk3⟩
    case measure=>simp[intOf];omega
   ·gi_wp2
    refine El (results_none rfl _ _ _) rfl ?_;exact⟨⟨_,rfl⟩,.inr ⟨_,trivial,aa2⟩⟩
  ·obtain rfl:k=F.length:=by omega
   gi_wp2
   go_end0
   exact⟨⟨_,rfl⟩,.inl ⟨_,rfl,by rw[←NK.out,CY] at Mi;exact Mi⟩⟩
end
section
open Go.RowKit Go.Maps Go.Sort Go.Shelf
open Fil
attribute [local go_sem] Om
theorem az9{fn:Func}{q:Tmp}(h:fn.results=#[.cell q 27])(tmps:Array Value)(w:World)(g:Nat)(p:Option Addr)(n c:Nat)(hq:tmps.getD q undef=.pointer (some ⟨g,0,none⟩))(hc:w.cell? ⟨g,0,none⟩=some (.slice p n c)):
  (results fn tmps).run prog w=.ok (.slice p n c) w:=by
 have hq':tmps[q]?.getD undef=.pointer (some ⟨g,0,none⟩):=by simpa using hq
 simp only[results,h];simp[hq',asAddr];go_simp
def xW(B m:Nat)(W:World)(k:Nat):Prop:=k=B∨(k≠m∧k≠B+1∧∃ v,W.cell? ⟨B,0,none⟩=some v∧v.ownBlock=some k)
theorem ala{B m:Nat}(hm:m < B)(W:World)(k:Nat)(h:xW B m W k):k≠m∧k≠B+1:=by
 rcases h with rfl|⟨h1,h2,_⟩
 ·omega
 ·exact⟨h1,h2⟩
theorem AA.SX{W:World}{k:Nat}{t:TypeId}(h:AA W k t):¬ nO W k:=by
 obtain⟨cs,fr,h⟩:=h;rintro⟨o,h1,h2⟩;rw[h] at h1;cases h1;cases h2
theorem anD{A B:World}{row:Option Nat}{n:Nat}(hg:A.grownBy B row)(hr:∀ r,row=some r→n≤r∧∃ o:Obj,A.heap[r]?=some o∧o.isCells=false):A7 (fun k=>n≤k∧nO A k) A B:=
 A7.of_grownBy hg (fun k e=>hr k e)
theorem WE{W:World}{B:Nat}{t:TypeId}{v:Value}(h:Boxed W B t v):AA W B t:=⟨_,_,h⟩
theorem aT{F:Nat→Prop}{W W':World}{B:Nat}{t:TypeId}{v:Value}(h:Boxed W B t v)(hu:A7 F W W')(hF:¬ F B):Boxed W' B t v:=(hu.block B h.lt hF).trans h
theorem as8{w:World}{y b m x:Nat}{gv:Value}{F:St}(h:CK w y b m x gv F)(hg:Fil.Good F.m)(hlen:F.m.length≤1000000):
  Calls prog 112 #[.pointer (some ⟨y,0,none⟩)] w fun e w'=>∃ v,e=.returned v∧w'.ownsRow 0 9 1 v F.m.length (strCells (F.m.map (·.1)))∧Bw w w'∧∀ k,v.ownBlock=some k→w.heap.size≤k:=by
 have hy:y < w.heap.size:=Ai h.struct;have Z7:=h.map.lt;obtain⟨_,_,_,_,c4,_⟩:=h.cells;have HM:=Hi h.map;have HG:=Hi hg;have EY:=Hi hlen;clear h hg hlen;refine(Di (n:=6)).1 ?_;refine callsIn_of_wp_marks func112 rfl trivial ?_ rfl;simp only[ntmps112,JG,Br,Ig,Nat.reduceAdd,Nat.reduceSub,LX,LY,M3,LZ,Eu,GI];have hfK:Fence.wide.fn 179:=trivial
 gi_wp2_with (gi_at_call 179;refine(Di.2 (agR _ _)).mono ?_;rintro e w1 ⟨rfl,rfl⟩)
 have OJ:Boxed ((w.alloc (.cells #[.slice none 0 0] 27)).alloc (.cells #[.map (some m)] 110)) w.heap.size 27 (.slice none 0 0):=(Boxed.new w 27 (.slice none 0 0)).alloc _;have iX:Boxed ((w.alloc (.cells #[.slice none 0 0] 27)).alloc (.cells #[.map (some m)] 110)) (w.heap.size+1) 110 (.map (some m)):=by
  have:=Boxed.new (w.alloc (.cells #[.slice none 0 0] 27)) 110 (.map (some m));rwa[Aq] at this
 have Bq:Bw w ((w.alloc (.cells #[.slice none 0 0] 27)).alloc (.cells #[.map (some m)] 110)):=((Af _ _).alloc (Ac _) _).alloc (by simp) _;have KX:((w.alloc (.cells #[.slice none 0 0] 27)).alloc (.cells #[.map (some m)] 110)).heap.size=w.heap.size+2:=by rw[Aq,Aq]
 have WV:=HM.below Bq;obtain⟨L,hL⟩:=zk F.m HG.out;have pR:L.length=F.m.length:=by rw[←hL,Cf]
 generalize (w.alloc (.cells #[.slice none 0 0] 27)).alloc (.cells #[.map (some m)] 110)=W0 at*;have MC:=agS 5 (by omega) (xW w.heap.size m) (w.heap.size+2) (w.heap.size+1) m F.m L hL W0 iX.cell WV EY (by omega) (fun W k hk=>ala Z7 W k hk)
  (fun W W' g hW hW' hg De hq=>by
   have h1:=hW.size;rcases hq with rfl|⟨_,_,v,hv,hvb⟩
   ·omega
   ·rw[hW'.cell (p:=⟨w.heap.size,0,none⟩) (by show w.heap.size < _;omega),hW.cell (p:=⟨w.heap.size,0,none⟩) (by show w.heap.size < _;omega),OJ.cell] at hv;cases hv;simp[Value.ownBlock] at hvb)
 obtain⟨i0,Ba,AQ,AU,AV⟩:=Du Ta;have xu:=Hi MC;clear MC;refine wpIn_rangeFunc_ownH (n:=6) rfl (by omega) (gf:=214) (lb:=#[.pointer (some ⟨w.heap.size+1,0,none⟩)]) rfl trivial (enters_of func214 (by kernel_rfl) rfl) xu (fun h k=>h.trans k)
  (fun W l o o' hl ho hc _=>OD.putObj (by omega) ho hc (fun k hk=>?aaY)) (Af _ _) (fun _=>rfl)
  (fun pre W=>(Boxed W (w.heap.size+1) 110 (.map (some m))∧∃ v,Boxed W w.heap.size 27 v∧W.ownsRow w.heap.size 9 1 v pre.length (strCells (pre.map (·.1.1))))∧Bw w W)
  (fun _ _ _=>False)
  (fun s A B row hs hg hr=>?hown)
  (fun _ _ _ _ _ hs _ _=>hs)
  ⟨⟨iX,_,OJ,by rw[List.map_nil,lu];exact EI _ _ _ _⟩,Bq⟩
  (fun x a' _=>a'={ tmps:=#[.pointer (some ⟨y,0,none⟩),undef,.pointer (some ⟨w.heap.size,0,none⟩),.string (bs x.1.1),.pointer (some ⟨y,0,none⟩),.bool false,.pointer (some ⟨y,0,none⟩),.pointer (some ⟨y,0,none⟩),.pointer (some ⟨y,4,none⟩),.map (some m),.func (.func 214) #[] #[.pointer (some ⟨w.heap.size+1,0,none⟩)],.string (bs x.1.1),.string (bs x.1.2),undef,undef,undef,undef,undef],defers:=[] })
  (fun x a' _ X Y row hs hg hr=>hs)
  ?assign ?body ?done ?stop
 case aaY=>
  have hlt:l < W.heap.size:=Ai ho;rcases hk with rfl|⟨h1,h2,v,h3,h4⟩
  ·exact .inl (.inl (.inl rfl))
  ·refine .inl (.inl (.inr ⟨h1,h2,v,?_,h4⟩));rw[←h3];exact((A7.of_grownBy (F:=fun k=>k=l) (grownBy_putObj' W l o') (fun k e=>by cases e;rfl)).cell (p:=⟨w.heap.size,0,none⟩) (by show w.heap.size < _;omega) (by show ¬ w.heap.size=l;omega)).symm
 case hown=>
  have hu:=anD hg hr;obtain⟨⟨g1,v,g2,g3⟩,g4⟩:=hs;exact⟨⟨aT g1 hu (fun h=>(WE g1).SX h.2),v,aT g2 hu (fun h=>(WE g2).SX h.2),Bh g3 hu (fun g hg h=>(BQ g3 hg).SX h.2)⟩,Ca g4 hu (fun i hi=>by omega) g4.size⟩
 case assign=>
  rintro l pre x W K hI hK;unfold ow
  gi_wp2
  exact hK _ _ ((KeepsOthers.refl _).from _) ⟨A7.refl _ _,fun k hk=>.inl (.inl hk)⟩ hI rfl
 case body=>
  rintro l pre x a' W hl⟨r,hr⟩ ⟨⟨g1,v,g2,g3⟩,g4⟩ rfl hlt;have hv:=g2.cell;have hf:=g2.frozen;have aBo:=g2.lt;have aC5:(pre.map (·.1.1)).length=pre.length:=Cf _;have Fu:pre.length≤1000000:=by have:=EY.out;omega
  have aCo:=g4.size;have Hw:=Hi g1;have CS:=Hi g2;have FJ:=Hi g3;have FP:=Hi g4;have at5:1≤6 -1 -1:=by omega
  clear g1 g2 g3 g4
  gi_wp2_with (gi_at_builtin;refine wpListIn_append_own_at _ rfl _ _ 27 rfl w.heap.size 9 i0 _ 1 16 underlying27 Ba AQ AU AV rfl (by decide) _ _ _ rfl (FJ.alloc _) ⟨W.heap.size,0,none⟩ 1 1 [.string (bs x.1.1)] rfl rfl (cell_one_new _ _ _) (by simp[Value.oneCell']) (by unfold maxLen;omega) (by omega) (by simp;omega) ?_;intro v' w1 BB Az _ hat;obtain⟨g',cap',rfl⟩:=ownsRow_succ BB;obtain⟨P9,Je,Cy,hk2,A8⟩:=CS.appended (by decide) FJ FP.size (Ac _) BB Az;have Gw:=P9.cell;have U4:=P9.frozen)
  have Ep:A7 (May (xW w.heap.size m) (w.heap.size+2) W) W (w1.setCell ⟨w.heap.size,0,none⟩ (.slice (some ⟨g',0,none⟩) (pre.length+1) cap')):=by
   refine(((A7.refl _ W).alloc _).trans (G:=fun k=>v.ownBlock=some k) (A7.of_grownBy Az (fun k e=>e)) (fun k hk=>.inl (.inl (.inr ⟨?_,?_,v,CS.cell,hk⟩)))).setCell (p:=⟨w.heap.size,0,none⟩) (.inl (.inl (.inl rfl))) _
   ·intro e;subst e;rcases FJ.2 with⟨e1,_⟩|⟨g,cap,cur,e1,Lx,_⟩
    ·subst e1;simp[Value.ownBlock] at hk
    ·subst e1;simp[Value.ownBlock] at hk;omega
   ·intro e;subst e;exact AA.ne (BQ FJ hk) (WE Hw) (by decide) rfl
  have E8:Boxed (w1.setCell ⟨w.heap.size,0,none⟩ (.slice (some ⟨g',0,none⟩) (pre.length+1) cap')) (w.heap.size+1) 110 (.map (some m)):=by
   refine aT Hw Ep ?_;rintro(h|⟨_,h⟩)
   ·exact(ala Z7 _ _ h).2 rfl
   ·exact(WE Hw).SX h
  refine⟨hk2.from _,⟨Ep,fun k hk=>?_⟩,⟨E8,_,Je,?_⟩,FP.trans A8⟩
  ·rcases hk with rfl|⟨h1,h2,u,h3,h4⟩
   ·exact .inl (.inl (.inl rfl))
   ·rw[Je.cell] at h3;cases h3;rcases hat with hat|hat
    ·rw[hat] at h4;exact .inl (.inl (.inr ⟨h1,h2,v,CS.cell,h4⟩))
    ·rw[hat] at h4;cases h4;exact .inr (by rw[Aq];omega)
  ·rw[Au,CF]
   show World.ownsRow _ _ _ _ _ (pre.length+1) (strCells (pre.map (·.1.1)++[x.1.1]))
   rw[Rl];exact Cy
 case done=>
  rintro DD ys W hDD rfl⟨⟨g1,v,g2,g3⟩,g4⟩ hK;have hv:=g2.cell;have hf:=g2.frozen;have CS:=Hi g2;have FJ:=Hi g3;have FP:=Hi g4;obtain⟨q,cap,rfl⟩:=Bg g3;clear g1 g2 g3 g4
  gi_wp2
  have FM:(W.setCell ⟨w.heap.size,0,none⟩ (.slice q F.m.length cap)).heap[DD]?=some (.deferred (some [])):=(KeepsOthers.setCell _ _ _).same DD _ hK rfl;refine⟨by simp,.inl ⟨_,_,rfl,run_takeDeferred FM,?_⟩⟩;have hu:A7 (fun k=>k=w.heap.size∨k=DD) W ((W.setCell ⟨w.heap.size,0,none⟩ (.slice q F.m.length cap)).putObj DD (.deferred none)):=
   ((A7.refl (fun k=>k=w.heap.size∨k=DD) W).setCell (p:=⟨w.heap.size,0,none⟩) (.inl (.inl rfl)) _).trans (G:=fun k=>k=DD) (A7.of_grownBy (grownBy_putObj' _ DD (.deferred none)) (fun k e=>by cases e;rfl)) (fun k e=>.inl (.inr e))
  have Ep:A7 (fun k=>k=DD) (W.setCell ⟨w.heap.size,0,none⟩ (.slice q F.m.length cap)) ((W.setCell ⟨w.heap.size,0,none⟩ (.slice q F.m.length cap)).putObj DD (.deferred none)):=A7.of_grownBy (grownBy_putObj' _ DD (.deferred none)) (fun k e=>by cases e;rfl);have NZ:Boxed (W.setCell ⟨w.heap.size,0,none⟩ (.slice q F.m.length cap)) w.heap.size 27 (.slice q F.m.length cap):=CS.set _;have Ak:Boxed ((W.setCell ⟨w.heap.size,0,none⟩ (.slice q F.m.length cap)).putObj DD (.deferred none)) w.heap.size 27 (.slice q F.m.length cap):=aT NZ Ep (by show ¬ w.heap.size=DD;omega);refine⟨_,az9 rfl _ _ w.heap.size q _ cap rfl Ak.cell,_,rfl,?_,Ca FP hu (fun i hi=>by rcases hi with rfl|rfl<;>omega) FP.size,fun k hk=>?_⟩
  ·have e1:ys.map (·.1.1)=F.m.map (·.1):=by rw[←hL,List.map_map];rfl
   have this:=Bh FJ hu (fun g hg h=>by
    have NY:=BQ FJ hg;rcases h with rfl|rfl
    ·exact AA.ne NY (WE CS) (by decide) rfl
    ·exact NY.SX ⟨_,hK,rfl⟩)
   have ano:World.ownsRow _ 0 _ _ _ _ _:=⟨this.1,by
    rcases this.2 with h|⟨g,c,cur,h1,_,h3⟩
    ·exact .inl h
    ·exact .inr ⟨g,c,cur,h1,AB _,h3⟩⟩
   rw[e1,pR] at ano;exact ano
  ·rcases FJ.2 with⟨e1,_⟩|⟨g,c,cur,e1,Lx,_⟩
   ·rw[←pR,e1] at hk;simp[Value.ownBlock] at hk
   ·rw[←pR,e1] at hk;simp[Value.ownBlock] at hk;omega
 case stop=>
  rintro DD c pre W _ _ h _;exact h.elim
end
section
open Go.RowKit Go.Maps Go.Sort Go.Shelf
open Fil
attribute [local go_sem] Om
def uR(B m Bx:Nat)(W:World)(k:Nat):Prop:=k=B∨(k≠m∧k≠Bx∧AA W k 5)
theorem DL.kind{w:World}{b:Nat}{l:List UInt8}{fp:Nat→Prop}(h:DL w b l fp){k:Nat}(hk:fp k):k=b∨AA w k 5:=by
 obtain⟨p,v,_,_,h3,_,_,rfl⟩:=h;rcases hk with hk|hk
 ·exact .inl hk
 ·exact .inr (BQ h3 hk)
theorem DL.blk{w:World}{b:Nat}{l:List UInt8}{fp:Nat→Prop}(h:DL w b l fp):AA w b 234:=by
 obtain⟨p,v,h1,_⟩:=h;exact⟨_,_,h1⟩
theorem avt{F:Nat→Prop}{W W':World}(n:Nat)(hu:A7 F W W')(hF:∀ k,F k→¬ nO W k):KeepsFrom n W W':=
 ⟨hu.size,fun k o _ ho hc=>(hu.block k (Ai ho) (fun h=>hF k h ⟨o,ho,hc⟩)).trans ho⟩
theorem ag8(x:eX):x.1.1.length≤32∧x.1.2.length≤65535:=by
 have h:=x.2;unfold Fw at h;simp at h;exact⟨h.2.1,h.2.2⟩
theorem arz(pre:List eX):((pre.map (·.1)).flatMap RV).length≤65575*pre.length:=by
 rw[oO]
 induction pre with
 |nil=>simp
 |cons x pre ih=>
  have:=ag8 x;have hc:cost x.1=8+x.1.1.length+x.1.2.length:=rfl;rw[BL,BL,Dq,Br];omega
theorem arP{w:World}{m:Nat}{F:M}(h:Co w m F)(hg:Fil.Good F)(hc:used F≤1000000):
  Calls prog 171 #[.map (some m)] w fun e w'=>e=.returned (.string (bs (Fil.bytes F)))∧Bw w w':=by
 have Z7:=h.lt;have I9:=Rn F;have auu:F.length≤1000000:=by omega
 have Z0:=h.below ((Af w.heap.size w).alloc (Ac _) (.cells #[.pointer none,.slice none 0 0] 234));have jC:=fun ty=>Z0.len ty
 have HM:=Hi Z0;have HG:=Hi hg;have HC:=Hi hc;have NS:=Hi I9;have Bc:=Hi ((Af w.heap.size w).alloc (Ac _) (.cells #[.pointer none,.slice none 0 0] 234));have D8:=Hi (DL.made w);clear h hg hc I9 Z0;refine(Di (n:=6)).1 ?_;refine callsIn_of_wp_marks func171 rfl trivial ?_ rfl;simp only[ntmps171,JG,Br,Ig,Nat.reduceAdd,Nat.reduceSub,LX,LY,M3,LZ,Eu,GI]
 gi_wp2
 refine⟨trivial,(Di.2 (oU F.length _ (by omega))).mono ?_⟩;rintro e w1⟨rfl,hb⟩;have Ps:=Hi (D8.upd (ub hb) (fun _ _ f=>f));have HB1:=Hi (Bc.trans (hb.mono Bc.size));have av:=Hi (HM.below hb);clear hb
 gi_wp2
 refine⟨trivial,(Di.2 (WH Ps (Crc.le 4 F.length) (by simp[Crc.BK]))).mono ?_⟩;rintro e w2⟨rfl,fp2,X0,Ep,Kl⟩;have qG:∀ k,fp2 k→w.heap.size≤k:=fun k hk=>by
  rcases Kl k hk with h|h
  ·rcases h with rfl|h
   ·exact Ac _
   ·simp[Value.ownBlock] at h
  ·exact Ap HB1.size h
 have zT:∀ k,(k=w.heap.size∨(Value.slice none 0 0).ownBlock=some k)→k=w.heap.size:=fun k hk=>by
  rcases hk with h|h
  ·exact h
  ·simp[Value.ownBlock] at h
 have Ag:=Hi (Ca HB1 Ep (fun k hk=>by rw[zT k hk];exact Ac _) HB1.size);have ax:=Hi (av.upd Ep (fun hk=>by have:=zT m hk;omega));have Oo:=Hi X0;have fM:=Hi qG;clear Ps HB1 av X0 Ep Kl qG zT D8 Bc HM jC
 gi_wp2
 refine⟨trivial,(Di.2 (agR _ _)).mono ?_⟩;rintro e w3⟨rfl,rfl⟩;have iX:Boxed (w2.alloc (.cells #[.map (some m)] 110)) w2.heap.size 110 (.map (some m)):=Boxed.new w2 _ _;have NZ:Bw w2 (w2.alloc (.cells #[.map (some m)] 110)):=(Af _ _).alloc (Ac _) _;have WV:=ax.below NZ;have ahX:=Oo.upd (ub NZ) (fun _ _ f=>f);have Bq:=Ag.trans (NZ.mono Ag.size);have hsz0:(w2.alloc (.cells #[.map (some m)] 110)).heap.size=w2.heap.size+1:=by rw[Aq]
 have hbB:w.heap.size < w2.heap.size:=Oo.lt _ Oo.own;obtain⟨L,hL⟩:=zk F HG.out;have pR:L.length=F.length:=by rw[←hL,Cf]
 generalize w2.alloc (.cells #[.map (some m)] 110)=W0 at*;generalize w2.heap.size=Bx at*
 have MC:=agS 5 (by omega) (uR w.heap.size m Bx) (Bx+1) Bx m F L hL W0 iX.cell WV auu (by omega) (fun W k hk=>by
   rcases hk with rfl|⟨h1,h2,_⟩
   ·omega
   ·exact⟨h1,h2⟩)
  (fun W W' g hW hW' hg De hq=>by
   have h1:=hW.size;rcases hq with rfl|⟨_,_,h3⟩
   ·omega
   ·exact AA.ne De h3 (by decide) rfl)
 have xu:=Hi MC;have mM:=Hi WV;have aom:=Hi ahX;have Bc:=Hi Bq;clear MC WV ahX Bq NZ ax Oo Ag
 gi_wp2
 refine wpIn_rangeFunc_ownH (n:=6) rfl (by omega) (gf:=214) (lb:=#[.pointer (some ⟨Bx,0,none⟩)]) rfl trivial (enters_of func214 (by kernel_rfl) rfl) xu (fun h k=>h.trans k)
  (fun W l o o' hl ho hc _=>OD.putObj (by omega) ho hc (fun k hk=>?aaY)) (Af _ _) (fun _=>rfl)
  (fun pre W=>(Co W m F∧Boxed W Bx 110 (.map (some m))∧∃ fp,DL W w.heap.size (Crc.le 4 F.length++(pre.map (·.1)).flatMap RV) fp∧∀ k,fp k→w.heap.size≤k)∧Bw w W)
  (fun _ _ _=>False)
  (fun s A B row hs hg hr=>?hown)
  (fun _ _ _ _ _ hs _ _=>hs)
  ⟨⟨mM,iX,fp2,by rw[List.map_nil,List.flatMap_nil,EH];exact aom.out,fM⟩,Bc⟩
  (fun x a' _=>a'={ tmps:=#[.map (some m),undef,.string { data:=#[] },.pointer (some ⟨w.heap.size,0,none⟩),.string (bs x.1.1),.string (bs x.1.2),.map (some m),.int .i64 (F.length:Int),.string (bs (Crc.le 4 F.length)),.tuple #[.int .i64 4,.nilIface],.map (some m),.func (.func 214) #[] #[.pointer (some ⟨Bx,0,none⟩)],.string (bs x.1.1),.string (bs x.1.2),undef,undef,undef,undef,undef,undef,undef,undef,undef,undef,undef,undef,undef],defers:=[] })
  (fun x a' _ X Y row hs hg hr=>hs)
  ?assign ?body ?done ?stop
 case aaY=>
  have hlt:l < W.heap.size:=Ai ho;by_cases e:k=l
  ·exact .inl (.inr ⟨by omega,o,by rw[e];exact ho,hc⟩)
  ·refine .inl (.inl ?_);have hu:=A7.of_grownBy (F:=fun k=>k=l) (grownBy_putObj' W l o') (fun k e=>by cases e;rfl);rcases hk with hk|⟨h1,h2,h3⟩
   ·exact .inl hk
   ·refine .inr ⟨h1,h2,?_⟩;obtain⟨cs,fr,h4⟩:=h3;by_cases hk2:k < W.heap.size
    ·exact⟨cs,fr,(hu.block k hk2 e).symm.trans h4⟩
    ·exact absurd (Ai h4) (by rw[show(W.putObj l o').heap.size=W.heap.size by simp[World.putObj]];exact hk2)
 case hown=>
  have hu:=anD hg hr;obtain⟨⟨g1,g2,fp,g3,g4⟩,g5⟩:=hs;refine⟨⟨g1.upd hu (fun h=>by have:=g1.lt;omega),aT g2 hu (fun h=>(WE g2).SX h.2),fp,g3.upd hu (fun k hk h=>?_),g4⟩,Ca g5 hu (fun i hi=>by omega) g5.size⟩;rcases g3.kind hk with rfl|hk
  ·exact g3.blk.SX h.2
  ·exact hk.SX h.2
 case assign=>
  rintro l pre x W K hI hK;unfold ow
  gi_wp2
  exact hK _ _ ((KeepsOthers.refl _).from _) ⟨A7.refl _ _,fun k hk=>.inl (.inl hk)⟩ hI rfl
 case body=>
  rintro l pre x a' W hl⟨r,hr⟩ ⟨⟨g1,g2,fp,g3,g4⟩,g5⟩ rfl hlt;have Hw:=Hi g1;have CS:=Hi g2;have FJ:=Hi g3;have FP:=Hi g4;have G9:=Hi g5;have at5:1≤6 -1 -1:=by omega
  obtain⟨EE,E8⟩:=ag8 x;have Fu:=arz pre;have aCc:pre.length≤1000000:=by omega
  clear g1 g2 g3 g4 g5 hr
  gi_wp2
  refine⟨trivial,(CallsIn.inRound l (Di.2 (oU x.1.1.length _ (by omega)))).mono ?_⟩;rintro e w4⟨rfl,Ar⟩
  gi_wp2
  refine⟨trivial,(CallsIn.inRound l (Di.2 (oU x.1.2.length _ (by omega)))).mono ?_⟩;rintro e w5⟨rfl,Bf⟩;have uZ:=Hi (Ar.trans (Bf.mono Ar.size));clear Ar Bf;have aon:=Hi (FJ.upd (ub uZ) (fun _ _ f=>f))
  gi_wp2
  refine⟨trivial,(CallsIn.inRound l (Di.2 (WH aon (Crc.le 4 x.1.1.length++(x.1.1++(Crc.le 4 x.1.2.length++x.1.2))) (by simp only[Au,Crc.BK];omega)))).mono ?_⟩;rintro e w6⟨rfl,fp6,ahY,IQ,hs6⟩;have JW:=Hi ((A7.of_below (F:=fp) uZ).trans IQ (fun k hk=>.inl hk));have aoo:=Hi ahY;have Wt:=Hi hs6;clear ahY IQ hs6
  gi_wp2
  have bT:∀ k,fp k→k=w.heap.size∨AA W k 5:=fun k hk=>FJ.kind hk
  have aub:∀ k,fp k→uR w.heap.size m Bx W k:=fun k hk=>by
   rcases bT k hk with h|h
   ·exact .inl h
   ·refine .inr ⟨fun e=>?_,fun e=>?_,h⟩
    ·subst e;exact Hw.Cv h
    ·subst e;exact AA.ne h (WE CS) (by decide) rfl
  have hu:A7 (May (uR w.heap.size m Bx) (Bx+1) W) W w6:=JW.mono (fun k hk=>.inl (aub k hk));refine⟨avt _ JW (fun k hk h=>?_),OD.awV hu (fun k hk he hq=>?_),⟨Hw.upd JW (fun hk=>?_),aT CS JW (fun hk=>?_),fp6,?_,fun k hk=>?_⟩,Ca G9 JW (fun k hk=>FP k hk) G9.size⟩
  ·rcases bT k hk with rfl|h2
   ·exact FJ.blk.SX h
   ·exact h2.SX h
  ·rcases hq with rfl|⟨h1,h2,cs,fr,h3⟩
   ·exact .inl rfl
   ·exact .inr ⟨h1,h2,cs,fr,he.symm.trans h3⟩
  ·have:=FP m hk;omega
  ·rcases bT _ hk with h2|h2
   ·omega
   ·exact AA.ne h2 (WE CS) (by decide) rfl
  ·rw[CF,NA,BL,List.map_nil,List.flatMap_cons,List.flatMap_nil,EH,←Dp];exact aoo.out
  ·rcases Wt k hk with h|h
   ·exact FP k h
   ·exact Ap G9.size (Ap uZ.size h)
 case done=>
  rintro DD ys W hDD rfl⟨⟨g1,g2,fp,g3,g4⟩,g5⟩ hK;have FJ:=Hi g3;have FP:=Hi g4;have G9:=Hi g5;clear g1 g2 g3 g4 g5
  gi_wp2
  refine⟨trivial,(Di.2 (WG FJ)).mono ?_⟩;rintro e w6⟨rfl,IQ⟩
  gi_wp2
  have FM:w6.heap[DD]?=some (.deferred (some [])):=(IQ.block DD (Ai hK) (fun h=>by
   rcases FJ.kind h with e|e
   ·omega
   ·exact e.SX ⟨_,hK,rfl⟩)).trans hK
  refine⟨by simp,.inl ⟨_,_,rfl,run_takeDeferred FM,?_⟩⟩;have hu:A7 (fun k=>k=DD) w6 (w6.putObj DD (.deferred none)):=A7.of_grownBy (grownBy_putObj' w6 DD (.deferred none)) (fun k e=>by cases e;rfl);have Cx:=Ca G9 IQ (fun k hk=>FP k hk) G9.size;exact⟨_,(by simp[results,results171,go_sem];rfl),rfl,Ca Cx hu (fun k hk=>by subst hk;omega) Cx.size⟩
 case stop=>
  rintro DD c pre W _ _ h _;exact h.elim
end
end Go.Proofs.YtmbbhdebddbhoaaGreat
