/- FilNames2 -/
import Derived.Shelf.SlIter.Nil
import Derived.Shelf.SortM.Plain
import Derived.Shelf.SortM.SortNone
import Derived.Ground.GgzProg
import Derived.Ground.SlgmProg
import Derived.Test.YtmbbhdebddbhoaaGreatQ9
import Derived.Maps.OwnIn
import Derived.Test.YtmbbhdebddbhoaaGreatQ10
set_option maxHeartbeats 2000000
set_option maxRecDepth 100000
set_option linter.all false
namespace Go.Proofs.YtmbbhdebddbhoaaGreat
open Tryz
section
open Go.RowKit Go.Maps Go.Sort Go.Shelf
def wR:Go.Shelf.Ren:=⟨fun|7=>215|10=>238|n=>n,fun|23=>110|26=>9|3=>177|28=>228|0=>0|27=>227|33=>107|4=>4|n=>n,fun|n=>n⟩
theorem wS:Go.Proofs.SlLaysZ.n7 prog wR:={
 mixed:=by kernel_rfl
 f7:=⟨Tryz.f215.name,by decide,func215.trans (congrArg some (by kernel_rfl))⟩
 f10:=⟨Tryz.f238.name,by decide,func238.trans (congrArg some (by kernel_rfl))⟩
 t0:=underlying0
 a0:=Tryz.isAgg0
 z0:=Tryz.sizeOf0
 v0:=Tryz.zeroValue0
 t4:=underlying4
 a4:=Tryz.isAgg4
 z4:=Tryz.sizeOf4
 v4:=Tryz.zeroValue4
 t23:=underlying110
 a23:=Tryz.isAgg110
 z23:=Tryz.sizeOf110
 v23:=Tryz.zeroValue110
 t26:=underlying9
 a26:=Tryz.isAgg9
 z26:=Tryz.sizeOf9
 v26:=Tryz.zeroValue9
 t27:=underlying227
 a27:=Tryz.isAgg227
 z27:=Tryz.sizeOf227
 v27:=Tryz.zeroValue227
 t28:=underlying228
 a28:=Tryz.isAgg228
 z28:=Tryz.sizeOf228
 v28:=Tryz.zeroValue228
 t33:=underlying107
 a33:=Tryz.isAgg107
 z33:=Tryz.sizeOf107
 v33:=Tryz.zeroValue107 }
def wT:Go.Shelf.Ren:=⟨fun|6=>148|8=>195|9=>115|11=>231|13=>182|12=>181|23=>226|24=>227|14=>217|15=>218|16=>219|17=>220|18=>221|19=>222|20=>223|21=>224|22=>225|25=>239|26=>240|27=>241|28=>242|29=>243|30=>244|31=>252|n=>n,fun|26=>9|28=>228|24=>27|0=>0|3=>3|37=>256|48=>268|50=>122|4=>4|40=>285|39=>284|45=>289|5=>5|9=>9|51=>304|55=>307|57=>316|58=>317|33=>107|n=>n,fun|n=>n⟩
theorem iQ:Go.Proofs.SlLaysZ.n6 prog wT:={
 mixed:=by kernel_rfl
 f6:=⟨Tryz.f148.name,by decide,func148.trans (congrArg some (by kernel_rfl))⟩
 f8:=⟨Tryz.f195.name,by decide,func195.trans (congrArg some (by kernel_rfl))⟩
 f11:=⟨Tryz.f231.name,by decide,func231.trans (congrArg some (by kernel_rfl))⟩
 t0:=underlying0
 a0:=Tryz.isAgg0
 z0:=Tryz.sizeOf0
 v0:=Tryz.zeroValue0
 t24:=underlying27
 a24:=Tryz.isAgg27
 z24:=Tryz.sizeOf27
 v24:=Tryz.zeroValue27
 t26:=underlying9
 a26:=Tryz.isAgg9
 z26:=Tryz.sizeOf9
 v26:=Tryz.zeroValue9
 t28:=underlying228
 a28:=Tryz.isAgg228
 z28:=Tryz.sizeOf228
 v28:=Tryz.zeroValue228
 i26:=by kernel_rfl }
def ahy:Go.Shelf.Ren:=⟨fun|6=>115|8=>182|9=>181|19=>226|20=>227|21=>217|22=>218|23=>219|24=>220|25=>221|26=>222|27=>223|28=>224|29=>225|36=>239|31=>240|32=>241|37=>242|38=>243|39=>244|41=>252|n=>n,fun|27=>27|29=>9|3=>3|32=>256|26=>27|0=>0|44=>268|46=>122|4=>4|36=>285|35=>284|41=>289|5=>5|9=>9|53=>304|57=>307|63=>316|64=>317|n=>n,fun|n=>n⟩
theorem Ux:Go.Proofs.SlLaysM.n6 prog ahy:={
 mixed:=by kernel_rfl
 f6:=⟨Tryz.f115.name,by decide,func115.trans (congrArg some (by kernel_rfl))⟩
 f8:=func182.trans (congrArg some (by kernel_rfl))
 f9:=⟨Tryz.f181.name,by decide,func181.trans (congrArg some (by kernel_rfl))⟩
 f19:=func226.trans (congrArg some (by kernel_rfl))
 f20:=func227.trans (congrArg some (by kernel_rfl))
 f21:=⟨Tryz.f217.name,by decide,func217.trans (congrArg some (by kernel_rfl))⟩
 f22:=⟨Tryz.f218.name,by decide,func218.trans (congrArg some (by kernel_rfl))⟩
 f23:=⟨Tryz.f219.name,by decide,func219.trans (congrArg some (by kernel_rfl))⟩
 f24:=⟨Tryz.f220.name,by decide,func220.trans (congrArg some (by kernel_rfl))⟩
 f25:=⟨Tryz.f221.name,by decide,func221.trans (congrArg some (by kernel_rfl))⟩
 f26:=⟨Tryz.f222.name,by decide,func222.trans (congrArg some (by kernel_rfl))⟩
 f27:=⟨Tryz.f223.name,by decide,func223.trans (congrArg some (by kernel_rfl))⟩
 f28:=⟨Tryz.f224.name,by decide,func224.trans (congrArg some (by kernel_rfl))⟩
 f29:=⟨Tryz.f225.name,by decide,func225.trans (congrArg some (by kernel_rfl))⟩
 f31:=func240.trans (congrArg some (by kernel_rfl))
 f32:=func241.trans (congrArg some (by kernel_rfl))
 f36:=⟨Tryz.f239.name,by decide,func239.trans (congrArg some (by kernel_rfl))⟩
 f37:=⟨Tryz.f242.name,by decide,func242.trans (congrArg some (by kernel_rfl))⟩
 f38:=⟨Tryz.f243.name,by decide,func243.trans (congrArg some (by kernel_rfl))⟩
 f39:=⟨Tryz.f244.name,by decide,func244.trans (congrArg some (by kernel_rfl))⟩
 f41:=⟨Tryz.f252.name,by decide,func252.trans (congrArg some (by kernel_rfl))⟩
 t0:=underlying0
 a0:=Tryz.isAgg0
 z0:=Tryz.sizeOf0
 v0:=Tryz.zeroValue0
 t3:=underlying3
 a3:=Tryz.isAgg3
 z3:=Tryz.sizeOf3
 v3:=Tryz.zeroValue3
 t4:=underlying4
 a4:=Tryz.isAgg4
 z4:=Tryz.sizeOf4
 v4:=Tryz.zeroValue4
 t5:=underlying5
 a5:=Tryz.isAgg5
 z5:=Tryz.sizeOf5
 v5:=Tryz.zeroValue5
 t9:=underlying9
 a9:=Tryz.isAgg9
 z9:=Tryz.sizeOf9
 v9:=Tryz.zeroValue9
 t26:=underlying27
 a26:=Tryz.isAgg27
 z26:=Tryz.sizeOf27
 v26:=Tryz.zeroValue27
 t27:=underlying27
 a27:=Tryz.isAgg27
 z27:=Tryz.sizeOf27
 v27:=Tryz.zeroValue27
 t29:=underlying9
 a29:=Tryz.isAgg9
 z29:=Tryz.sizeOf9
 v29:=Tryz.zeroValue9
 t32:=underlying256
 a32:=Tryz.isAgg256
 z32:=Tryz.sizeOf256
 v32:=Tryz.zeroValue256
 t35:=underlying284
 a35:=Tryz.isAgg284
 z35:=Tryz.sizeOf284
 v35:=Tryz.zeroValue284
 t36:=underlying285
 a36:=Tryz.isAgg285
 z36:=Tryz.sizeOf285
 v36:=Tryz.zeroValue285
 t41:=underlying289
 a41:=Tryz.isAgg289
 z41:=Tryz.sizeOf289
 v41:=Tryz.zeroValue289
 t44:=underlying268
 a44:=Tryz.isAgg268
 z44:=Tryz.sizeOf268
 v44:=Tryz.zeroValue268
 t46:=underlying122
 a46:=Tryz.isAgg122
 z46:=Tryz.sizeOf122
 v46:=Tryz.zeroValue122
 t53:=underlying304
 a53:=Tryz.isAgg304
 z53:=Tryz.sizeOf304
 v53:=Tryz.zeroValue304
 t57:=underlying307
 a57:=Tryz.isAgg307
 z57:=Tryz.sizeOf307
 v57:=Tryz.zeroValue307
 t63:=underlying316
 a63:=Tryz.isAgg316
 z63:=Tryz.sizeOf316
 v63:=Tryz.zeroValue316
 t64:=underlying317
 a64:=Tryz.isAgg317
 z64:=Tryz.sizeOf317
 v64:=Tryz.zeroValue317 }
end
section
open Go.RowKit Go.Maps Go.Sort Go.Shelf
open Fil
attribute [local go_sem] Le
theorem iR(m:Nat):AnyZ.SortsIn prog wT Fence.wide m:=
 ⟨fun blk off cap ss W hH axU hsz=>Cu.2 (AnyM.slices_Sort_string Ux blk off cap ss W hH axU hsz),
  fun p cap W=>Cu.2 (AnyM.slices_Sort_string_none Ux p cap W)⟩
theorem ahz(mb:Option Nat)(W:World):Calls prog 215 #[.map mb] W fun e w'=>e=.returned (.func (.func 238) #[] #[.pointer (some ⟨W.heap.size,0,none⟩)])∧w'=W.alloc (.cells #[.map mb] 110):=
 Cu.1 (AnyZ.keys_in wS Fence.wide 5 trivial rfl mb W)
theorem ahA{F:M}(h:Up F){ss:List T}(hp:ss.Perm (F.map (·.1))):ss.mergeSort (fun x y=>decide (x≤y))=F.map (·.1):=by
 have e:ss.mergeSort leB=(F.map (·.1)).mergeSort leB:=mergeSort_of_perm hp;have e2:(F.map (·.1)).mergeSort leB=F.map (·.1):=by
  refine List.mergeSort_of_pairwise ?_;refine List.pairwise_map.2 (h.imp fun {a b} hab=>?_)
  show decide (a.1≤b.1)=true
  simpa using List.not_lt.1 (Lp hab)
 exact e.trans e2
theorem ahB{w:World}{m:Nat}{F:M}(h:BJ w m F)(hlen:F.length≤1000000):
  Calls prog 148 #[.func (.func 238) #[] #[.pointer (some ⟨w.heap.size,0,none⟩)]] (w.alloc (.cells #[.map (some m)] 110)) fun e w'=>
   ∃ v,e=.returned v∧w'.ownsRow (w.heap.size+1) 9 1 v F.length ((F.map (·.1)).map encStr)∧Bw w w':=by
 obtain⟨hu,kv,axE,aww⟩:=h;obtain⟨D,hown,hsz,hkp⟩:=aww.keyed;have hkl:kv.length=F.length:=by rw[axE.length_eq];unfold KD;rw[BQ]
 have axy:(kv.map (·.1)).Perm (F.map (·.1)):=by rw[←wu];exact axE.map _
 have hbl:=hown.lt;have auZ:SeqGives Fence.wide 2 prog 238 #[.pointer (some ⟨w.heap.size,0,none⟩)] encStr (fun ss=>ss.Perm (strKeys D)) (Maps.size D) (w.alloc (.cells #[.map (some m)] 110)):=
  AnyZ.keys_gives (ρ:=wR) { wS with } Fence.wide _ trivial rfl (by omega) w.heap.size m kv.length D _ (by simp) (by simp) (by
   obtain⟨es,clock,hb,Ft,hs,hD⟩:=hown;exact⟨es,clock,(Below.heap_alloc _ _ m hbl).trans hb,Ft,hs,hD⟩)
 have cS:=AnyZ.sorted_in iQ Fence.wide 5 trivial trivial trivial trivial rfl (by omega) (iR _) (enters_of func115 (by kernel_rfl) rfl) 238 #[.pointer (some ⟨w.heap.size,0,none⟩)] trivial (enters_of func238 (by kernel_rfl) rfl) _ _ (by unfold maxLen;omega) (by omega) _ auZ;refine(Cu.1 cS).mono ?_;rintro e w'⟨v,ss,rfl,hS,ast,_,hb⟩;have hss:ss.Perm (F.map (·.1)):=(hS.trans hkp.symm).trans axy;have e1:ss.length=F.length:=by have:=hss.length_eq;simpa using this
 rw[e1,ahA hu hss] at ast;exact⟨v,rfl,by rw[Ai] at ast;exact ast,((Ad _ w).alloc (Ab _) _).trans (hb.mono (by rw[Ai];omega))⟩
theorem ahC(W:World)(s:List UInt8):(Instr.field 177 (.agg #[.string (bs s)]) 0).run prog W=.ok (.string (bs s)) W:=by
 simp[Instr.field,ER underlying177,go_sem,asAgg,Result.andThen]
def ZG(W:World)(k:Nat):Prop:=∃ o,W.heap[k]?=some o∧o.isCells=false
def May(Q:World→Nat→Prop)(n₀:Nat)(W:World)(k:Nat):Prop:=Q W k∨(n₀≤k∧ZG W k)
structure KG(Q:World→Nat→Prop)(n₀:Nat)(W W':World):Prop where
 upd:A7 (May Q n₀ W) W W'
 stay:∀ k,Q W' k→May Q n₀ W k∨W.heap.size≤k
theorem May.back{Q:World→Nat→Prop}{n₀:Nat}{A B:World}(h:KG Q n₀ A B){k:Nat}(hk:May Q n₀ B k):May Q n₀ A k∨A.heap.size≤k:=by
 rcases hk with hk|⟨h1,o,h2,h3⟩
 ·exact h.stay k hk
 ·by_cases hlt:k < A.heap.size
  ·by_cases hm:May Q n₀ A k
   ·exact .inl hm
   ·exact .inl (.inr ⟨h1,o,(h.upd.block k hlt hm).symm.trans h2,h3⟩)
  ·exact .inr (by omega)
theorem KG.trans{Q:World→Nat→Prop}{n₀:Nat}{A B C:World}(h:KG Q n₀ A B)(k:KG Q n₀ B C):KG Q n₀ A C:=
 ⟨h.upd.trans k.upd (fun _ hi=>May.back h hi),fun i hi=>by
  rcases k.stay i hi with hi|hi
  ·exact May.back h hi
  ·exact .inr (Ah h.upd.size hi)⟩
theorem KG.putObj{Q:World→Nat→Prop}{n₀:Nat}{W:World}{l:Nat}{o o':Obj}(hl:n₀≤l)(ho:W.heap[l]?=some o)(hc:o.isCells=false)(hQ:∀ k,Q (W.putObj l o') k→May Q n₀ W k∨W.heap.size≤k):KG Q n₀ W (W.putObj l o'):=
 ⟨A7.of_grownBy (grownBy_putObj' W l o') (fun k e=>by cases e;exact .inr ⟨hl,o,ho,hc⟩),hQ⟩
theorem KG.ahD{Q:World→Nat→Prop}{n₀:Nat}{W W':World}(h:A7 (May Q n₀ W) W W')(hQ:∀ k,k < W.heap.size→W'.heap[k]?=W.heap[k]?→Q W' k→Q W k):KG Q n₀ W W':=
 ⟨h,fun k hk=>by
  by_cases hlt:k < W.heap.size
  ·by_cases hm:May Q n₀ W k
   ·exact .inl hm
   ·exact .inl (.inl (hQ k hlt (h.block k hlt hm) hk))
  ·exact .inr (by omega)⟩
abbrev WN:={ p:T×T // E9 p.1 p.2=true }
def ZH(x:WN):Array Value:=#[.string (bs x.1.1),.string (bs x.1.2)]
theorem iT:∀ (F:M),Fil.Good F→∃ L:List WN,L.map (·.1)=F
 |[],_=>⟨[],rfl⟩
 |p :: F,h=>by
  obtain⟨L,hL⟩:=iT F (fun q hq=>h q (Dh _ hq));exact⟨⟨p,h p Cc⟩ :: L,by rw[Bg,hL]⟩
theorem wU(mb:Option Nat)(w:World):
  Calls prog 179 #[.map mb] w fun e w'=>e=.returned (.func (.func 214) #[] #[.pointer (some ⟨w.heap.size,0,none⟩)])∧w'=w.alloc (.cells #[.map mb] 110):=by
 go_enter func179,ntmps179;go_wp2_with fail;go_ret;exact⟨rfl,rfl⟩
theorem wV(n:Nat)(hn:1≤n)(Q:World→Nat→Prop)(n₀ Bx m:Nat)(F:M)(L:List WN)(hL:L.map (·.1)=F)(w:World)(hc:w.cell? ⟨Bx,0,none⟩=some (.map (some m)))(hM:BJ w m F)(hlen:F.length≤1000000)(aC5:w.heap.size≤n₀)(wW:∀ W k,Q W k→k≠m∧k≠Bx)
  (wX:∀ W W' g,Bw w W→Bw W W'→W.heap.size≤g→Ap W' g 9→¬ Q W' g):
  SeqStopsK Fence.wide n prog 214 #[.pointer (some ⟨Bx,0,none⟩)] ZH (KG Q n₀) (fun ys=>ys=L) (fun _=>True) L.length w:=fun l J Jx W hW hJ _ hY h0=>by
 have hBx:=Bz hc;have Sk:=hM.lt;have hc':=(hW.cell (p:=⟨Bx,0,none⟩) hBx).trans hc;have hM':=hM.below hW;have hsz:=hW.size;have hll:L.length=F.length:=by rw[←hL,BQ]
 have hb1:Bw W (W.alloc (.cells #[.map (some m)] 110)):=(Ad _ _).alloc (Ab _) _;have HS:=Hi (ahB hM' hlen);have HM:=Hi hM';have HL:=Hi hL;have JF:=Hi hll;have atv:=Hi hlen;have HC:=Hi hc';have Wt:=Hi wW;have iU:=Hi (fun W' g=>wX W W' g hW);clear hc hM hM' hW hlen wW wX hll hL;refine callsIn_of_wp func214 rfl trivial ?_ rfl;simp only[ntmps214,Ih,AX,FN,Nat.reduceAdd,Nat.reduceSub,JB,JA,Jz,JC,DI,FL];have hfK:Fence.wide.fn 215:=trivial;have hfS:Fence.wide.fn 148:=trivial
 gi_wp2_with (first
  |(gi_at_call 215;refine(Cu.2 (ahz _ _)).mono ?_;rintro e w' ⟨rfl,rfl⟩)
  |(gi_at_call 148;refine(Cu.2 HS).mono ?_;rintro e W1 ⟨v,rfl,ast,hbW⟩;obtain⟨q,cap,rfl⟩:=AA ast))
 have hJ1:J [] W1:=hJ _ _ _ none h0 ⟨hbW.os,hbW.tape,hbW.output,hbW.size,fun k hk _=>hbW.block k hk⟩ (fun r e=>by cases e);have Ce:=Hi ast;have BM:=Hi hbW;clear ast hbW h0
 gi_loopw [9] (fun i wr=>∃ k:Nat,k≤F.length∧i=.int .i64 k∧J (L.take k) wr∧KG Q n₀ W1 wr)
  (fun i _=>F.length -(intOf i).toNat)
 case atStart=>exact⟨0,Ar _,rfl,by rw[FJ];exact hJ1,⟨A7.refl _ _,fun k hk=>.inl (.inl hk)⟩⟩
 case round=>
  obtain⟨k,hk,rfl,hJs,hnx⟩:=hrel;by_cases hlt:k < F.length
  ·have iV:k < L.length:=(by rw[JF.out];exact hlt);obtain⟨g,rfl⟩:∃ g,q=some ⟨g,0,none⟩:=by
    rcases Ce.2 with⟨e1,e2⟩|⟨g,cap,_,e1,_⟩
    ·omega
    ·exact⟨g,by injection e1⟩
   have hgo:=Bi Ce (g:=g) rfl;have hgW:W.heap.size+1≤g:=by
    rcases Ce.2 with⟨e1,_⟩|⟨g',cap',_,e1,hb,_⟩
    ·injection e1 with e1;cases e1
    ·injection e1 with e1;cases e1;exact hb
   have hnq:¬ Q W1 g:=iU W1 g BM (by omega) hgo;have hnm:¬ May Q n₀ W1 g:=by
    rintro(h|⟨_,o,h1,h2⟩)
    ·exact hnq h
    ·obtain⟨cs,fr,h3⟩:=hgo;rw[h1] at h3;cases h3;cases h2
   have wY:∀ i,i < F.length→wr.cell? ⟨g,i,none⟩=W1.cell? ⟨g,i,none⟩:=fun i hi=>World.cell?_of_block (hnx.upd.block g hgo.lt hnm)
   have auP:=BM.size;have iW:F[k]=L[k].1:=by
    have e:(L.map (·.1))[k]?=F[k]? :=(by rw[HL.out]);rw[Gt,BP iV,BP hlt] at e;simpa using e.symm
   have axY:wr.cell? ⟨g,k,none⟩=some (.string (bs L[k].1.1)):=by
    rw[wY k hlt];have:=Ce.cells (g:=g) rfl k (encStr F[k].1) (by rw[Gt,Gt,BP hlt];rfl);rw[add_plain,iW] at this;exact this
   have RU:wr.cell? ⟨Bx,0,none⟩=some (.map (some m)):=by
    refine(World.cell?_of_block (hnx.upd.block Bx (by omega) ?_)).trans ((BM.cell (p:=⟨Bx,0,none⟩) (by show Bx < W.heap.size;omega)).trans HC);rintro(h|⟨h1,_⟩)
    ·exact(Wt _ _ h).2 rfl
    ·omega
   have hmr:BJ wr m F:=by
    refine(HM.below BM).upd hnx.upd ?_;rintro(h|⟨h1,_⟩)
    ·exact(Wt _ _ h).1 rfl
    ·omega
   have hxm:(L[k].1.1,L[k].1.2)∈F:=by
    rw[←iW];exact BF hlt
   have hgx:=get_mem hmr.1 hxm;have WO:=L[k].2;have hxb:L[k].1.1.length≤32∧L[k].1.2.length≤65535:=(by unfold E9 at WO;simp at WO;exact⟨WO.2.1,WO.2.2⟩);have hlk:=hmr.lookup L[k].1.1 (by unfold maxLen;omega);rw[hgx,Option.getD_some] at hlk;have au8:=Fw prog 27 9 underlying27 1 (by kernel_rfl) ⟨g,0,none⟩ F.length cap k hlt;rw[add_plain,Nat.mul_one] at au8;have Bo:=Hi (show L.take (k+1)=L.take k++[L[k]] by rw[List.take_add_one,BP iV];rfl);obtain⟨fn,tmps,assign,body,hy,hR⟩:=hY _ L[k] wr hJs (by rw[Aw];omega);unfold ZH at hy;have Eg:=Hi hnx;clear hgo hgW hnq hnm wY iW hmr hxm hgx WO hxb hnx hJs auP;generalize L[k]=x at*;clear iV;obtain⟨⟨xn,xd⟩,uh⟩:=x;simp only at axY hlk hy;have QM:=fun W=>ahC W xd
   have hFL:=atv.out
   gi_wp2
   refine hR.mono ?_;rintro e W3 (⟨rfl,hJ3,hk3⟩|⟨rfl,azn⟩)
   ·gi_wp2
    go_roundw
    case rel=>exact⟨k+1,by omega,by simp,by rw[Bo.out];exact hJ3,Eg.trans hk3⟩
    case measure=>simp[intOf];omega
   ·gi_wp2
    refine Dt (results_none rfl _ _ _) rfl ?_;exact⟨⟨_,rfl⟩,.inr ⟨_,trivial,azn⟩⟩
  ·obtain rfl:k=F.length:=by omega
   gi_wp2
   go_end0
   exact⟨⟨_,rfl⟩,.inl ⟨_,rfl,by rw[←JF.out,Ck] at hJs;exact hJs⟩⟩
end
section
open Go.RowKit Go.Maps Go.Sort Go.Shelf
open Fil
attribute [local go_sem] Le
theorem ahG{fn:Func}{q:Tmp}(h:fn.results=#[.cell q 27])(tmps:Array Value)(w:World)(g:Nat)(p:Option Addr)(n c:Nat)(hq:tmps.getD q undef=.pointer (some ⟨g,0,none⟩))(hc:w.cell? ⟨g,0,none⟩=some (.slice p n c)):
  (results fn tmps).run prog w=.ok (.slice p n c) w:=by
 have hq':tmps[q]?.getD undef=.pointer (some ⟨g,0,none⟩):=by simpa using hq
 simp only[results,h];simp[hq',asAddr];go_simp
def iX(B m:Nat)(W:World)(k:Nat):Prop:=k=B∨(k≠m∧k≠B+1∧∃ v,W.cell? ⟨B,0,none⟩=some v∧v.ownBlock=some k)
theorem wZ{B m:Nat}(hm:m < B)(W:World)(k:Nat)(h:iX B m W k):k≠m∧k≠B+1:=by
 rcases h with rfl|⟨h1,h2,_⟩
 ·omega
 ·exact⟨h1,h2⟩
theorem Ap.Ns{W:World}{k:Nat}{t:TypeId}(h:Ap W k t):¬ ZG W k:=by
 obtain⟨cs,fr,h⟩:=h;rintro⟨o,h1,h2⟩;rw[h] at h1;cases h1;cases h2
theorem x8{A B:World}{row:Option Nat}{n:Nat}(hg:A.grownBy B row)(hr:∀ r,row=some r→n≤r∧∃ o:Obj,A.heap[r]?=some o∧o.isCells=false):A7 (fun k=>n≤k∧ZG A k) A B:=
 A7.of_grownBy hg (fun k e=>hr k e)
theorem QN{W:World}{B:Nat}{t:TypeId}{v:Value}(h:Boxed W B t v):Ap W B t:=⟨_,_,h⟩
theorem Uy{F:Nat→Prop}{W W':World}{B:Nat}{t:TypeId}{v:Value}(h:Boxed W B t v)(hu:A7 F W W')(hF:¬ F B):Boxed W' B t v:=(hu.block B h.lt hF).trans h
theorem ahH{w:World}{y b m x:Nat}{gv:Value}{F:St}(h:Ci w y b m x gv F)(hg:Fil.Good F.m)(hlen:F.m.length≤1000000):
  Calls prog 112 #[.pointer (some ⟨y,0,none⟩)] w fun e w'=>∃ v,e=.returned v∧w'.ownsRow 0 9 1 v F.m.length (strCells (F.m.map (·.1)))∧Bw w w'∧∀ k,v.ownBlock=some k→w.heap.size≤k:=by
 have hy:y < w.heap.size:=Ae h.struct;have Sk:=h.map.lt;obtain⟨_,_,_,_,c4,_⟩:=h.cells;have HM:=Hi h.map;have HG:=Hi hg;have atv:=Hi hlen;clear h hg hlen;refine(Cu (n:=6)).1 ?_;refine callsIn_of_wp_marks func112 rfl trivial ?_ rfl;simp only[ntmps112,Ih,AX,FN,Nat.reduceAdd,Nat.reduceSub,JB,JA,Jz,JC,DI,FL];have hfK:Fence.wide.fn 179:=trivial
 gi_wp2_with (gi_at_call 179;refine(Cu.2 (wU _ _)).mono ?_;rintro e w1 ⟨rfl,rfl⟩)
 have hB0:Boxed ((w.alloc (.cells #[.slice none 0 0] 27)).alloc (.cells #[.map (some m)] 110)) w.heap.size 27 (.slice none 0 0):=(Boxed.new w 27 (.slice none 0 0)).alloc _;have hX0:Boxed ((w.alloc (.cells #[.slice none 0 0] 27)).alloc (.cells #[.map (some m)] 110)) (w.heap.size+1) 110 (.map (some m)):=by
  have:=Boxed.new (w.alloc (.cells #[.slice none 0 0] 27)) 110 (.map (some m));rwa[Ai] at this
 have hb0:Bw w ((w.alloc (.cells #[.slice none 0 0] 27)).alloc (.cells #[.map (some m)] 110)):=((Ad _ _).alloc (Ab _) _).alloc (by simp) _;have hs0:((w.alloc (.cells #[.slice none 0 0] 27)).alloc (.cells #[.map (some m)] 110)).heap.size=w.heap.size+2:=by rw[Ai,Ai]
 have hM0:=HM.below hb0;obtain⟨L,hL⟩:=iT F.m HG.out;have ZI:L.length=F.m.length:=by rw[←hL,BQ]
 generalize (w.alloc (.cells #[.slice none 0 0] 27)).alloc (.cells #[.map (some m)] 110)=W0 at*;have auZ:=wV 5 (by omega) (iX w.heap.size m) (w.heap.size+2) (w.heap.size+1) m F.m L hL W0 hX0.cell hM0 atv (by omega) (fun W k hk=>wZ Sk W k hk)
  (fun W W' g hW hW' hg hbl hq=>by
   have h1:=hW.size;rcases hq with rfl|⟨_,_,v,hv,hvb⟩
   ·omega
   ·rw[hW'.cell (p:=⟨w.heap.size,0,none⟩) (by show w.heap.size < _;omega),hW.cell (p:=⟨w.heap.size,0,none⟩) (by show w.heap.size < _;omega),hB0.cell] at hv;cases hv;simp[Value.ownBlock] at hvb)
 obtain⟨i0,hi0,hz0,hz1,hz2⟩:=Cz Nr;have iY:=Hi auZ;clear auZ;refine wpIn_rangeFunc_ownH (n:=6) rfl (by omega) (gf:=214) (lb:=#[.pointer (some ⟨w.heap.size+1,0,none⟩)]) rfl trivial (enters_of func214 (by kernel_rfl) rfl) iY (fun h k=>h.trans k)
  (fun W l o o' hl ho hc _=>KG.putObj (by omega) ho hc (fun k hk=>?iZ)) (Ad _ _) (fun _=>rfl)
  (fun pre W=>(Boxed W (w.heap.size+1) 110 (.map (some m))∧∃ v,Boxed W w.heap.size 27 v∧W.ownsRow w.heap.size 9 1 v pre.length (strCells (pre.map (·.1.1))))∧Bw w W)
  (fun _ _ _=>False)
  (fun s A B row hs hg hr=>?hown)
  (fun _ _ _ _ _ hs _ _=>hs)
  ⟨⟨hX0,_,hB0,by rw[List.map_nil,WM];exact DJ _ _ _ _⟩,hb0⟩
  (fun x a' _=>a'={ tmps:=#[.pointer (some ⟨y,0,none⟩),undef,.pointer (some ⟨w.heap.size,0,none⟩),.string (bs x.1.1),.pointer (some ⟨y,0,none⟩),.bool false,.pointer (some ⟨y,0,none⟩),.pointer (some ⟨y,0,none⟩),.pointer (some ⟨y,4,none⟩),.map (some m),.func (.func 214) #[] #[.pointer (some ⟨w.heap.size+1,0,none⟩)],.string (bs x.1.1),.string (bs x.1.2),undef,undef,undef,undef,undef],defers:=[] })
  (fun x a' _ X Y row hs hg hr=>hs)
  ?assign ?body ?done ?stop
 case iZ=>
  have hlt:l < W.heap.size:=Ae ho;rcases hk with rfl|⟨h1,h2,v,h3,h4⟩
  ·exact .inl (.inl (.inl rfl))
  ·refine .inl (.inl (.inr ⟨h1,h2,v,?_,h4⟩));rw[←h3];exact((A7.of_grownBy (F:=fun k=>k=l) (grownBy_putObj' W l o') (fun k e=>by cases e;rfl)).cell (p:=⟨w.heap.size,0,none⟩) (by show w.heap.size < _;omega) (by show ¬ w.heap.size=l;omega)).symm
 case hown=>
  have hu:=x8 hg hr;obtain⟨⟨g1,v,g2,g3⟩,g4⟩:=hs;exact⟨⟨Uy g1 hu (fun h=>(QN g1).Ns h.2),v,Uy g2 hu (fun h=>(QN g2).Ns h.2),AL g3 hu (fun g hg h=>(Bi g3 hg).Ns h.2)⟩,Bu g4 hu (fun i hi=>by omega) g4.size⟩
 case assign=>
  rintro l pre x W K hI hK;unfold ZH
  gi_wp2
  exact hK _ _ ((KeepsOthers.refl _).from _) ⟨A7.refl _ _,fun k hk=>.inl (.inl hk)⟩ hI rfl
 case body=>
  rintro l pre x a' W hl⟨r,hr⟩ ⟨⟨g1,v,g2,g3⟩,g4⟩ rfl hlt;have hv:=g2.cell;have hf:=g2.frozen;have aCl:=g2.lt;have aCv:(pre.map (·.1.1)).length=pre.length:=BQ _;have hpl:pre.length≤1000000:=by have:=atv.out;omega
  have ar2:=g4.size;have Fx:=Hi g1;have HG2:=Hi g2;have Fb:=Hi g3;have FW:=Hi g4;have ahI:1≤6 -1 -1:=by omega
  clear g1 g2 g3 g4
  gi_wp2_with (gi_at_builtin;refine wpListIn_append_own_at _ rfl _ _ 27 rfl w.heap.size 9 i0 _ 1 16 underlying27 hi0 hz0 hz1 hz2 rfl (by decide) _ _ _ rfl (Fb.alloc _) ⟨W.heap.size,0,none⟩ 1 1 [.string (bs x.1.1)] rfl rfl (cell_one_new _ _ _) (by simp[Value.oneCell']) (by unfold maxLen;omega) (by omega) (by simp;omega) ?_;intro v' w1 asJ asx _ hat;obtain⟨g',cap',rfl⟩:=ownsRow_succ asJ;obtain⟨hv1,hv2,hr2,hk2,hb2⟩:=HG2.appended (by decide) Fb FW.size (Ab _) asJ asx;have hc1:=hv1.cell;have hf1:=hv1.frozen)
  have hu2:A7 (May (iX w.heap.size m) (w.heap.size+2) W) W (w1.setCell ⟨w.heap.size,0,none⟩ (.slice (some ⟨g',0,none⟩) (pre.length+1) cap')):=by
   refine(((A7.refl _ W).alloc _).trans (G:=fun k=>v.ownBlock=some k) (A7.of_grownBy asx (fun k e=>e)) (fun k hk=>.inl (.inl (.inr ⟨?_,?_,v,HG2.cell,hk⟩)))).setCell (p:=⟨w.heap.size,0,none⟩) (.inl (.inl (.inl rfl))) _
   ·intro e;subst e;rcases Fb.2 with⟨e1,_⟩|⟨g,cap,cur,e1,auJ,_⟩
    ·subst e1;simp[Value.ownBlock] at hk
    ·subst e1;simp[Value.ownBlock] at hk;omega
   ·intro e;subst e;exact Ap.ne (Bi Fb hk) (QN Fx) (by decide) rfl
  have hx2:Boxed (w1.setCell ⟨w.heap.size,0,none⟩ (.slice (some ⟨g',0,none⟩) (pre.length+1) cap')) (w.heap.size+1) 110 (.map (some m)):=by
   refine Uy Fx hu2 ?_;rintro(h|⟨_,h⟩)
   ·exact(wZ Sk _ _ h).2 rfl
   ·exact(QN Fx).Ns h
  refine⟨hk2.from _,⟨hu2,fun k hk=>?_⟩,⟨hx2,_,hv2,?_⟩,FW.trans hb2⟩
  ·rcases hk with rfl|⟨h1,h2,u,h3,h4⟩
   ·exact .inl (.inl (.inl rfl))
   ·rw[hv2.cell] at h3;cases h3;rcases hat with hat|hat
    ·rw[hat] at h4;exact .inl (.inl (.inr ⟨h1,h2,v,HG2.cell,h4⟩))
    ·rw[hat] at h4;cases h4;exact .inr (by rw[Ai];omega)
  ·rw[Aj,C8]
   show World.ownsRow _ _ _ _ _ (pre.length+1) (strCells (pre.map (·.1.1)++[x.1.1]))
   rw[Mi];exact hr2
 case done=>
  rintro DD ys W uH rfl⟨⟨g1,v,g2,g3⟩,g4⟩ hK;have hv:=g2.cell;have hf:=g2.frozen;have HG2:=Hi g2;have Fb:=Hi g3;have FW:=Hi g4;obtain⟨q,cap,rfl⟩:=AA g3;clear g1 g2 g3 g4
  gi_wp2
  have hK2:(W.setCell ⟨w.heap.size,0,none⟩ (.slice q F.m.length cap)).heap[DD]?=some (.deferred (some [])):=(KeepsOthers.setCell _ _ _).same DD _ hK rfl;refine⟨by simp,.inl ⟨_,_,rfl,run_takeDeferred hK2,?_⟩⟩;have hu:A7 (fun k=>k=w.heap.size∨k=DD) W ((W.setCell ⟨w.heap.size,0,none⟩ (.slice q F.m.length cap)).putObj DD (.deferred none)):=
   ((A7.refl (fun k=>k=w.heap.size∨k=DD) W).setCell (p:=⟨w.heap.size,0,none⟩) (.inl (.inl rfl)) _).trans (G:=fun k=>k=DD) (A7.of_grownBy (grownBy_putObj' _ DD (.deferred none)) (fun k e=>by cases e;rfl)) (fun k e=>.inl (.inr e))
  have hu2:A7 (fun k=>k=DD) (W.setCell ⟨w.heap.size,0,none⟩ (.slice q F.m.length cap)) ((W.setCell ⟨w.heap.size,0,none⟩ (.slice q F.m.length cap)).putObj DD (.deferred none)):=A7.of_grownBy (grownBy_putObj' _ DD (.deferred none)) (fun k e=>by cases e;rfl);have hbx:Boxed (W.setCell ⟨w.heap.size,0,none⟩ (.slice q F.m.length cap)) w.heap.size 27 (.slice q F.m.length cap):=HG2.set _;have hb3:Boxed ((W.setCell ⟨w.heap.size,0,none⟩ (.slice q F.m.length cap)).putObj DD (.deferred none)) w.heap.size 27 (.slice q F.m.length cap):=Uy hbx hu2 (by show ¬ w.heap.size=DD;omega);refine⟨_,ahG rfl _ _ w.heap.size q _ cap rfl hb3.cell,_,rfl,?_,Bu FW hu (fun i hi=>by rcases hi with rfl|rfl<;>omega) FW.size,fun k hk=>?_⟩
  ·have e1:ys.map (·.1.1)=F.m.map (·.1):=by rw[←hL,List.map_map];rfl
   have this:=AL Fb hu (fun g hg h=>by
    have hbk:=Bi Fb hg;rcases h with rfl|rfl
    ·exact Ap.ne hbk (QN HG2) (by decide) rfl
    ·exact hbk.Ns ⟨_,hK,rfl⟩)
   have x9:World.ownsRow _ 0 _ _ _ _ _:=⟨this.1,by
    rcases this.2 with h|⟨g,c,cur,h1,_,h3⟩
    ·exact .inl h
    ·exact .inr ⟨g,c,cur,h1,Ar _,h3⟩⟩
   rw[e1,ZI] at x9;exact x9
  ·rcases Fb.2 with⟨e1,_⟩|⟨g,c,cur,e1,auJ,_⟩
   ·rw[←ZI,e1] at hk;simp[Value.ownBlock] at hk
   ·rw[←ZI,e1] at hk;simp[Value.ownBlock] at hk;omega
 case stop=>
  rintro DD c pre W _ _ h _;exact h.elim
end
section
open Go.RowKit Go.Maps Go.Sort Go.Shelf
open Fil
attribute [local go_sem] Le
def j3(B m Bx:Nat)(W:World)(k:Nat):Prop:=k=B∨(k≠m∧k≠Bx∧Ap W k 5)
theorem CW.kind{w:World}{b:Nat}{l:List UInt8}{fp:Nat→Prop}(h:CW w b l fp){k:Nat}(hk:fp k):k=b∨Ap w k 5:=by
 obtain⟨p,v,_,_,h3,_,_,rfl⟩:=h;rcases hk with hk|hk
 ·exact .inl hk
 ·exact .inr (Bi h3 hk)
theorem CW.blk{w:World}{b:Nat}{l:List UInt8}{fp:Nat→Prop}(h:CW w b l fp):Ap w b 234:=by
 obtain⟨p,v,h1,_⟩:=h;exact⟨_,_,h1⟩
theorem ahJ{F:Nat→Prop}{W W':World}(n:Nat)(hu:A7 F W W')(hF:∀ k,F k→¬ ZG W k):KeepsFrom n W W':=
 ⟨hu.size,fun k o _ ho hc=>(hu.block k (Ae ho) (fun h=>hF k h ⟨o,ho,hc⟩)).trans ho⟩
theorem xe(x:WN):x.1.1.length≤32∧x.1.2.length≤65535:=by
 have h:=x.2;unfold E9 at h;simp at h;exact⟨h.2.1,h.2.2⟩
theorem ahK(pre:List WN):((pre.map (·.1)).flatMap Ni).length≤65575*pre.length:=by
 rw[Zw]
 induction pre with
 |nil=>simp
 |cons x pre ih=>
  have:=xe x;have hc:cost x.1=8+x.1.1.length+x.1.2.length:=rfl;rw[Bg,Bg,Cx,AX];omega
theorem ahL{w:World}{m:Nat}{F:M}(h:BJ w m F)(hg:Fil.Good F)(hc:used F≤1000000):
  Calls prog 171 #[.map (some m)] w fun e w'=>e=.returned (.string (bs (Fil.bytes F)))∧Bw w w':=by
 have Sk:=h.lt;have EW:=Ml F;have ahM:F.length≤1000000:=by omega
 have hln:=h.below ((Ad w.heap.size w).alloc (Ab _) (.cells #[.pointer none,.slice none 0 0] 234));have WQ:=fun ty=>hln.len ty
 have HM:=Hi hln;have HG:=Hi hg;have HC:=Hi hc;have Mf:=Hi EW;have HB0:=Hi ((Ad w.heap.size w).alloc (Ab _) (.cells #[.pointer none,.slice none 0 0] 234));have Ch:=Hi (CW.made w);clear h hg hc EW hln;refine(Cu (n:=6)).1 ?_;refine callsIn_of_wp_marks func171 rfl trivial ?_ rfl;simp only[ntmps171,Ih,AX,FN,Nat.reduceAdd,Nat.reduceSub,JB,JA,Jz,JC,DI,FL]
 gi_wp2
 refine⟨trivial,(Cu.2 (ZA F.length _ (by omega))).mono ?_⟩;rintro e w1⟨rfl,hb⟩;have Li:=Hi (Ch.upd (ub hb) (fun _ _ f=>f));have HB1:=Hi (HB0.trans (hb.mono HB0.size));have Uz:=Hi (HM.below hb);clear hb
 gi_wp2
 refine⟨trivial,(Cu.2 (QC Li (Crc.le 4 F.length) (by simp[Crc.Be]))).mono ?_⟩;rintro e w2⟨rfl,fp2,Qw,hu2,hs2⟩;have Zk:∀ k,fp2 k→w.heap.size≤k:=fun k hk=>by
  rcases hs2 k hk with h|h
  ·rcases h with rfl|h
   ·exact Ab _
   ·simp[Value.ownBlock] at h
  ·exact Ah HB1.size h
 have j4:∀ k,(k=w.heap.size∨(Value.slice none 0 0).ownBlock=some k)→k=w.heap.size:=fun k hk=>by
  rcases hk with h|h
  ·exact h
  ·simp[Value.ownBlock] at h
 have HB2:=Hi (Bu HB1 hu2 (fun k hk=>by rw[j4 k hk];exact Ab _) HB1.size);have UA:=Hi (Uz.upd hu2 (fun hk=>by have:=j4 m hk;omega));have Kr:=Hi Qw;have Wx:=Hi Zk;clear Li HB1 Uz Qw hu2 hs2 Zk j4 Ch HB0 HM WQ
 gi_wp2
 refine⟨trivial,(Cu.2 (wU _ _)).mono ?_⟩;rintro e w3⟨rfl,rfl⟩;have hX0:Boxed (w2.alloc (.cells #[.map (some m)] 110)) w2.heap.size 110 (.map (some m)):=Boxed.new w2 _ _;have hbx:Bw w2 (w2.alloc (.cells #[.map (some m)] 110)):=(Ad _ _).alloc (Ab _) _;have hM0:=UA.below hbx;have xg:=Kr.upd (ub hbx) (fun _ _ f=>f);have hb0:=HB2.trans (hbx.mono HB2.size);have hsz0:(w2.alloc (.cells #[.map (some m)] 110)).heap.size=w2.heap.size+1:=by rw[Ai]
 have hbB:w.heap.size < w2.heap.size:=Kr.lt _ Kr.own;obtain⟨L,hL⟩:=iT F HG.out;have ZI:L.length=F.length:=by rw[←hL,BQ]
 generalize w2.alloc (.cells #[.map (some m)] 110)=W0 at*;generalize w2.heap.size=Bx at*
 have auZ:=wV 5 (by omega) (j3 w.heap.size m Bx) (Bx+1) Bx m F L hL W0 hX0.cell hM0 ahM (by omega) (fun W k hk=>by
   rcases hk with rfl|⟨h1,h2,_⟩
   ·omega
   ·exact⟨h1,h2⟩)
  (fun W W' g hW hW' hg hbl hq=>by
   have h1:=hW.size;rcases hq with rfl|⟨_,_,h3⟩
   ·omega
   ·exact Ap.ne hbl h3 (by decide) rfl)
 have iY:=Hi auZ;have ZJ:=Hi hM0;have ahN:=Hi xg;have HB0:=Hi hb0;clear auZ hM0 xg hb0 hbx UA Kr HB2
 gi_wp2
 refine wpIn_rangeFunc_ownH (n:=6) rfl (by omega) (gf:=214) (lb:=#[.pointer (some ⟨Bx,0,none⟩)]) rfl trivial (enters_of func214 (by kernel_rfl) rfl) iY (fun h k=>h.trans k)
  (fun W l o o' hl ho hc _=>KG.putObj (by omega) ho hc (fun k hk=>?iZ)) (Ad _ _) (fun _=>rfl)
  (fun pre W=>(BJ W m F∧Boxed W Bx 110 (.map (some m))∧∃ fp,CW W w.heap.size (Crc.le 4 F.length++(pre.map (·.1)).flatMap Ni) fp∧∀ k,fp k→w.heap.size≤k)∧Bw w W)
  (fun _ _ _=>False)
  (fun s A B row hs hg hr=>?hown)
  (fun _ _ _ _ _ hs _ _=>hs)
  ⟨⟨ZJ,hX0,fp2,by rw[List.map_nil,List.flatMap_nil,E8];exact ahN.out,Wx⟩,HB0⟩
  (fun x a' _=>a'={ tmps:=#[.map (some m),undef,.string { data:=#[] },.pointer (some ⟨w.heap.size,0,none⟩),.string (bs x.1.1),.string (bs x.1.2),.map (some m),.int .i64 (F.length:Int),.string (bs (Crc.le 4 F.length)),.tuple #[.int .i64 4,.nilIface],.map (some m),.func (.func 214) #[] #[.pointer (some ⟨Bx,0,none⟩)],.string (bs x.1.1),.string (bs x.1.2),undef,undef,undef,undef,undef,undef,undef,undef,undef,undef,undef,undef,undef],defers:=[] })
  (fun x a' _ X Y row hs hg hr=>hs)
  ?assign ?body ?done ?stop
 case iZ=>
  have hlt:l < W.heap.size:=Ae ho;by_cases e:k=l
  ·exact .inl (.inr ⟨by omega,o,by rw[e];exact ho,hc⟩)
  ·refine .inl (.inl ?_);have hu:=A7.of_grownBy (F:=fun k=>k=l) (grownBy_putObj' W l o') (fun k e=>by cases e;rfl);rcases hk with hk|⟨h1,h2,h3⟩
   ·exact .inl hk
   ·refine .inr ⟨h1,h2,?_⟩;obtain⟨cs,fr,h4⟩:=h3;by_cases hk2:k < W.heap.size
    ·exact⟨cs,fr,(hu.block k hk2 e).symm.trans h4⟩
    ·exact absurd (Ae h4) (by rw[show(W.putObj l o').heap.size=W.heap.size by simp[World.putObj]];exact hk2)
 case hown=>
  have hu:=x8 hg hr;obtain⟨⟨g1,g2,fp,g3,g4⟩,g5⟩:=hs;refine⟨⟨g1.upd hu (fun h=>by have:=g1.lt;omega),Uy g2 hu (fun h=>(QN g2).Ns h.2),fp,g3.upd hu (fun k hk h=>?_),g4⟩,Bu g5 hu (fun i hi=>by omega) g5.size⟩;rcases g3.kind hk with rfl|hk
  ·exact g3.blk.Ns h.2
  ·exact hk.Ns h.2
 case assign=>
  rintro l pre x W K hI hK;unfold ZH
  gi_wp2
  exact hK _ _ ((KeepsOthers.refl _).from _) ⟨A7.refl _ _,fun k hk=>.inl (.inl hk)⟩ hI rfl
 case body=>
  rintro l pre x a' W hl⟨r,hr⟩ ⟨⟨g1,g2,fp,g3,g4⟩,g5⟩ rfl hlt;have Fx:=Hi g1;have HG2:=Hi g2;have Fb:=Hi g3;have FW:=Hi g4;have FX:=Hi g5;have ahI:1≤6 -1 -1:=by omega
  obtain⟨hx1,hx2⟩:=xe x;have hpl:=ahK pre;have ar4:pre.length≤1000000:=by omega
  clear g1 g2 g3 g4 g5 hr
  gi_wp2
  refine⟨trivial,(CallsIn.inRound l (Cu.2 (ZA x.1.1.length _ (by omega)))).mono ?_⟩;rintro e w4⟨rfl,hb4⟩
  gi_wp2
  refine⟨trivial,(CallsIn.inRound l (Cu.2 (ZA x.1.2.length _ (by omega)))).mono ?_⟩;rintro e w5⟨rfl,hb5⟩;have j5:=Hi (hb4.trans (hb5.mono hb4.size));clear hb4 hb5;have ahO:=Hi (Fb.upd (ub j5) (fun _ _ f=>f))
  gi_wp2
  refine⟨trivial,(CallsIn.inRound l (Cu.2 (QC ahO (Crc.le 4 x.1.1.length++(x.1.1++(Crc.le 4 x.1.2.length++x.1.2))) (by simp only[Aj,Crc.Be];omega)))).mono ?_⟩;rintro e w6⟨rfl,fp6,xm,FY,hs6⟩;have H8:=Hi ((A7.of_below (F:=fp) j5).trans FY (fun k hk=>.inl hk));have ahQ:=Hi xm;have WR:=Hi hs6;clear xm FY hs6
  gi_wp2
  have axZ:∀ k,fp k→k=w.heap.size∨Ap W k 5:=fun k hk=>Fb.kind hk
  have ahR:∀ k,fp k→j3 w.heap.size m Bx W k:=fun k hk=>by
   rcases axZ k hk with h|h
   ·exact .inl h
   ·refine .inr ⟨fun e=>?_,fun e=>?_,h⟩
    ·subst e;exact Fx.BV h
    ·subst e;exact Ap.ne h (QN HG2) (by decide) rfl
  have hu:A7 (May (j3 w.heap.size m Bx) (Bx+1) W) W w6:=H8.mono (fun k hk=>.inl (ahR k hk));refine⟨ahJ _ H8 (fun k hk h=>?_),KG.ahD hu (fun k hk he hq=>?_),⟨Fx.upd H8 (fun hk=>?_),Uy HG2 H8 (fun hk=>?_),fp6,?_,fun k hk=>?_⟩,Bu FX H8 (fun k hk=>FW k hk) FX.size⟩
  ·rcases axZ k hk with rfl|h2
   ·exact Fb.blk.Ns h
   ·exact h2.Ns h
  ·rcases hq with rfl|⟨h1,h2,cs,fr,h3⟩
   ·exact .inl rfl
   ·exact .inr ⟨h1,h2,cs,fr,he.symm.trans h3⟩
  ·have:=FW m hk;omega
  ·rcases axZ _ hk with h2|h2
   ·omega
   ·exact Ap.ne h2 (QN HG2) (by decide) rfl
  ·rw[C8,Kk,Bg,List.map_nil,List.flatMap_cons,List.flatMap_nil,E8,←Cw];exact ahQ.out
  ·rcases WR k hk with h|h
   ·exact FW k h
   ·exact Ah FX.size (Ah j5.size h)
 case done=>
  rintro DD ys W uH rfl⟨⟨g1,g2,fp,g3,g4⟩,g5⟩ hK;have Fb:=Hi g3;have FW:=Hi g4;have FX:=Hi g5;clear g1 g2 g3 g4 g5
  gi_wp2
  refine⟨trivial,(Cu.2 (Qs Fb)).mono ?_⟩;rintro e w6⟨rfl,FY⟩
  gi_wp2
  have hK2:w6.heap[DD]?=some (.deferred (some [])):=(FY.block DD (Ae hK) (fun h=>by
   rcases Fb.kind h with e|e
   ·omega
   ·exact e.Ns ⟨_,hK,rfl⟩)).trans hK
  refine⟨by simp,.inl ⟨_,_,rfl,run_takeDeferred hK2,?_⟩⟩;have hu:A7 (fun k=>k=DD) w6 (w6.putObj DD (.deferred none)):=A7.of_grownBy (grownBy_putObj' w6 DD (.deferred none)) (fun k e=>by cases e;rfl);have hb6:=Bu FX FY (fun k hk=>FW k hk) FX.size;exact⟨_,(by simp[results,results171,go_sem];rfl),rfl,Bu hb6 hu (fun k hk=>by subst hk;omega) hb6.size⟩
 case stop=>
  rintro DD c pre W _ _ h _;exact h.elim
end
end Go.Proofs.YtmbbhdebddbhoaaGreat
