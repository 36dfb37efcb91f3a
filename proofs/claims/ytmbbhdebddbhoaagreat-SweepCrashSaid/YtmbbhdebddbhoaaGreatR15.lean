/- WalOps2 -/
import Derived.OrdersHeld
import Derived.RegionTactic
import Derived.Test.YtmbbhdebddbhoaaGreatR14
set_option maxHeartbeats 4000000
set_option maxRecDepth 100000
set_option linter.all false
namespace Go.Proofs.YtmbbhdebddbhoaaGreat
open Tryz
section
section
variable {P:Program}{ops:Array Oper}{Q:Exit→Act→World→Prop}{md:Region.Mode}{S:World→Prop}{z:Nat}
def Ut(P:Program)(md:Region.Mode)(ops:Array Oper)(Q:Exit→Act→World→Prop)(S:World→Prop)(z:Nat):Nat→Array Bool→Act→World→Prop
 |0,listed,a,w=>Region.ready md ops listed=[]∧Q .normal a w
 |fuel+1,listed,a,w=>(Region.ready md ops listed=[]→Q .normal a w)∧
  ∀ i∈Region.ready md ops listed,wpOp P ops Q i (fun a' w'=>(i≠z→S w')∧Ut P md ops Q S z fuel (listed.setIfInBounds i true) a' w') a w
theorem ao1:∀ (fuel:Nat) (listed:Array Bool) (a:Act) (w:World),Ut P md ops Q S z fuel listed a w→wpAny P md ops Q fuel listed a w
 |0,_,_,_,h=>h
 |fuel+1,_,_,_,h=>⟨h.1,fun i hi=>wpOp_mono (fun a' w' h'=>ao1 fuel _ a' w' h'.2) (h.2 i hi)⟩
def waits(md:Region.Mode)(ops:Array Oper)(z i:Nat):Bool:=match ops[z]? with
 |none=>false
 |some o=>o.after.any fun e=>Region.binds md e && e.on == i
theorem aAi{i:Nat}{o:Oper}(h:waits md ops z i=true)(ho:ops[z]?=some o)(hn:∀ e∈o.after,Region.binds md e=true→e.on≠i):False:=by
 unfold waits at h;rw[ho] at h;obtain⟨e,he,hb⟩:=Array.any_eq_true'.1 h;simp only[Bool.and_eq_true,beq_iff_eq] at hb;exact hn e he hb.1 hb.2
theorem ao0{i:Nat}{oi:Oper}{v:Value}(hi:ops[i]?=some oi)(hz:waits md ops z i=true)(abf:∀ (j:Nat) (o:Oper) cs b,ops[j]?=some o→o.op≠.select cs b)
  (hQ:∀ c a w,Q (.panic c) (a.put oi.dst v) w→Q (.panic c) a w):
  ∀ (fuel:Nat) (listed:Array Bool) (a:Act) (w:World),
   (∀ j oj,ops[j]?=some oj→j≠i→listed.getD j true=false→(∀ e∈oj.after,Region.binds md e=true→e.on≠i)→oi.apart ops oj=true)→
   i∈Region.ready md ops listed→YieldsIf P ops S oi v a→S w→
   Ut P md ops Q S z fuel (listed.setIfInBounds i true) (a.put oi.dst v) w→Ut P md ops Q S z (fuel+1) listed a w
 |fuel,listed,a,w=>fun aiy hr hy hS H=>by
  refine⟨fun h=>(by rw[h] at hr;cases hr),fun j hj=>?_⟩;by_cases bQ:j=i
  ·subst bQ;exact hy.wpOp hi hS ⟨fun _=>hS,H⟩
  ·obtain⟨aiU,oj,cK,AY⟩:=mem_ready.1 hj;have ajr:∀ e∈oj.after,Region.binds md e=true→e.on≠i:=fun e he hb heq=>by
    have h1:=AY e he hb;have h0:=(mem_ready.1 hr).1;rw[heq] at h1;rcases Nat.lt_or_ge i listed.size with h'|h'
    ·simp[h'] at h0 h1;rw[h0] at h1;cases h1
    ·simp[Array.getElem?_eq_none h'] at h1
   have hjz:j≠z:=fun e=>by subst e;exact aAi hz cK ajr
   cases fuel with
   |zero=>
    have h2:=ready_mono hj bQ;rw[H.1] at h2;cases h2
   |succ fuel=>
    have h2:=wpOp_putIf cK (aiy j oj cK bQ aiU ajr) (fun cs b=>abf i oi cs b hi) (fun cs b=>abf j oj cs b cK) hQ hy (H.2 j (ready_mono hj bQ));refine wpOp_mono (fun a' w' h3=>⟨h3.2.1,ao0 hi hz abf hQ fuel (listed.setIfInBounds j true) a' w' (fun k ok hk qO SL CO=>?_) (ready_mono hr (Ne.symm bQ)) h3.1 (h3.2.1 hjz) ?_⟩) h2
    ·refine aiy k ok hk qO ?_ CO;by_cases Xb:j=k
     ·subst Xb;exact aiU
     ·rw[getD_set_ne true Xb] at SL;exact SL
    ·rw[Array.setIfInBounds_comm _ _ bQ];exact h3.2.2
theorem eU{i:Nat}{oi:Oper}{v:Value}{fuel:Nat}{listed:Array Bool}{a:Act}{w:World}(hi:ops[i]?=some oi)(hz:waits md ops z i=true)
  (hs:Region.noSelect ops=true)(hf:Region.free md ops listed i=true)(hr:(Region.ready md ops listed).contains i=true)
  (hQ:∀ c a w,Q (.panic c) (a.put oi.dst v) w→Q (.panic c) a w)(hy:YieldsIf P ops S oi v a)(hS:S w)
  (h:Ut P md ops Q S z fuel (listed.setIfInBounds i true) (a.put oi.dst v) w):Ut P md ops Q S z (fuel+1) listed a w:=
 ao0 hi hz (Region.noSelect_spec hs) hQ fuel listed a w (Region.free_spec hi hf) (by simpa using hr) hy hS h
theorem eT{i:Nat}{o:Oper}{fuel:Nat}{listed:Array Bool}{a:Act}{w:World}(hr:Region.ready md ops listed=[i])(ho:ops[i]?=some o)
  (h:∀ K':Act→World→Prop,Shut (∀ a w,(i≠z→S w)→Ut P md ops Q S z fuel (listed.setIfInBounds i true) a w→K' a w)→if Region.wanted o (yielded ops a.tmps)=true then Oper.wp P o a w K' Q else K' (a.put o.dst undef) w):
  Ut P md ops Q S z (fuel+1) listed a w:=
 ⟨fun h0=>(by rw[hr] at h0;cases h0),fun j hj=>by
  rw[hr,EX] at hj;subst hj;exact wpOp_step ho (fun K' hK=>h K' (fun a w hS hW=>hK a w ⟨hS,hW⟩))⟩
theorem aAu{listed:Array Bool}{a:Act}{w:World}(hr:Region.ready md ops listed=[])(h:Q .normal a w):∀ fuel,Ut P md ops Q S z fuel listed a w
 |0=>⟨hr,h⟩
 |_+1=>⟨fun _=>h,by rw[hr];simp⟩
theorem aAw{id:Nat}{a:Act}{w:World}(hm:P.follows .mixedOrders=true)(h:Ut P .any ops Q S z ops.size (Array.replicate ops.size false) a w.drew):(Code.region id ops true).wp P Q a w:=
 wp_region_any hm (ao1 _ _ _ _ h)
end
end
section
open Go.RowKit Go.Maps
open Wal
def Yu(w:World)(x b:Nat)(gv:Value)(fp:Nat→Prop)(r:Dsk×Bn×Int)(e:Ending)(w':World):Prop:=
 e=.returned (.int .i64 r.2.2)∧∃ fp' EN,Bl w' b r.1 fp'∧BZ w' x b EN r.2.1∧A7 (fun k=>fp k∨BD x gv k) w w'∧D6 fp fp' w∧D6 (BD x gv) (BD x EN) w
theorem sU{w w':World}{x b:Nat}{gv:Value}{fp:Nat→Prop}{D:Dsk}{L:Bn}{k:Int}{r:Dsk×Bn×Int}{e:Ending}(hr:r=(D,L,k))(he:e=.returned (.int .i64 k))(hd:Bl w b D fp)(hl:BZ w x b gv L)(hb:Bw w w'):Yu w x b gv fp r e w':=by
 subst hr;exact⟨he,fp,gv,hd.below hb,hl.below hb,A7.of_below hb,fun _ h=>.inl h,fun _ h=>.inl h⟩
theorem sS{w w':World}{x b:Nat}{gv EN:Value}{fp fp':Nat→Prop}{D:Dsk}{L:Bn}{k:Int}{r:Dsk×Bn×Int}{e:Ending}(hr:r=(D,L,k))(he:e=.returned (.int .i64 k))(hd:Bl w' b D fp')(hl:BZ w' x b EN L)(hu:A7 (fun k=>fp k∨BD x gv k) w w')(hs:D6 fp fp' w)(Kl:D6 (BD x gv) (BD x EN) w):Yu w x b gv fp r e w':=by
 subst hr;exact⟨he,fp',EN,hd,hl,hu,hs,Kl⟩
theorem Cg.upd{F:Nat→Prop}{w w':World}{a:Option Addr}{l:List (List UInt8)}(h:Cg w a l)(hu:A7 F w w')(hF:∀ p,a=some p→l≠[]→¬ F p.block):Cg w' a l:=fun i hi=>by
 obtain⟨p,rfl,hc⟩:=h i hi;have e:(p.add i).block=p.block:=by unfold Addr.add;split<;>rfl
 exact⟨p,rfl,(hu.cell (p:=p.add i) (BS hc) (by rw[e];exact hF p rfl (fun e=>by subst e;simp at hi))).trans hc⟩
theorem BZ.apT{w:World}{x b:Nat}{gv:Value}{L:Bn}(h:BZ w x b gv L){b':Nat}{D:Dsk}{fp:Nat→Prop}(hd:Bl w b' D fp)(k:Nat)(hk:fp k):¬ BD x gv k:=by
 rintro(rfl|hg)
 ·exact h.apart hd hk
 ·obtain⟨cs,h1,_⟩:=h.groups;have:=hd.kindOf hk (BQ h1 hg)
  revert this;decide
theorem BZ.ayM{w:World}{x b:Nat}{gv:Value}{L:Bn}(h:BZ w x b gv L)(u:Nat)(hu:u+1≤L.n):BZ (w.setCell ⟨x,1,none⟩ (.int .i64 (u:Int))) x b gv { L with used:=u }:=by
 have Zm:A7 (fun i=>i=x) w (w.setCell ⟨x,1,none⟩ (.int .i64 (u:Int))):=(A7.refl (fun i=>i=x) w).setCell (p:=⟨x,1,none⟩) (.inl rfl) _;refine⟨BU w x 1 _ _ _ h.struct,h.groups.upd Zm (fun i hi e=>by subst e;exact AA.ne hi ⟨_,_,h.struct⟩ (by decide) rfl) (fun g hg e=>h.ne (by rw[hg,e])),h.gen,hu,h.n⟩
section
variable {w:World}{x b:Nat}{gv:Value}{L:Bn}{D:Dsk}{fp:Nat→Prop}{l:List (List UInt8)}{a:Option Addr}{cap:Nat}
theorem afb(hd:Bl w b D fp)(hl:BZ w x b gv L)(hx:Cg w a l)(hlen:l.length≤maxLen)(CB:rowLen l≤1000000)(Nh:L.fault≠0∨GQ l=none):
  Calls prog 103 #[.pointer (some ⟨x,0,none⟩),.slice a l.length cap] w fun e w'=>Yu w x b gv fp (wappend D L l) e w':=by
 have HD:=Hi hd;have HL:=Hi hl;have EY:=Hi hlen;have Ad:=(Af w.heap.size w).alloc (Ac _) (.cells #[.pointer (some ⟨x,0,none⟩)] 111);have HB1:=Hi Ad;have Ga:=Hi (hl.below Ad);have Ox:=Hi (hx.below Ad);by_cases hf:L.fault=0
 ·have hg:GQ l=none:=Nh.resolve_left (fun h=>h hf);have hR:Hid (wappend D L l=(D,L,5)):=Hi (by unfold wappend;rw[Aa (by simp[hf]),hg]);have hV:Hid (J8 l=([],5)):=Hi (by unfold J8;rw[hg]);have HF:=Hi hf;clear hd hl hx hlen Nh Ad hf hg;go_enter func103,ntmps103;go_wp2_with fail;refine(eQ Ga).mono ?_;rw[HF.out];rintro e w1⟨rfl,rfl⟩;go_wp2_with fail;refine(bu l a cap _ Ox EY (by omega)).mono ?_;rw[hV.out];rintro e w1⟨rfl,hb⟩;have HB:=Hi hb;clear hb;go_wp2_with fail;go_ret;exact sU hR.out rfl HD HL ((HB1.trans (HB.mono (by rw[Aq];omega))).alloc (Ap (HB1.size) HB.size) _)
 ·have hR:Hid (wappend D L l=(D,L,L.fault)):=Hi (by unfold wappend;rw[Ab hf]);have Bq:(L.fault == 0)=false:=by simp[hf]
  have A8:(L.fault != 0)=true:=by simp[hf]
  clear hd hl hx hlen Nh Ad hf;go_enter func103,ntmps103;go_wp2_with fail;refine(eQ Ga).mono ?_;rintro e w1⟨rfl,rfl⟩;go_wp2_with fail;go_ret;exact sU hR.out rfl HD HL HB1.out
theorem apX(hd:Bl w b D fp)(hl:BZ w x b gv L)(hx:Cg w a l)(Ve:∀ p,a=some p→l≠[]→¬ fp p.block∧¬ BD x gv p.block)(hlen:l.length≤1000000)(CB:rowLen l≤1000000)(hf:L.fault=0){s:List UInt8}(hg:GQ l=some s)(GU:D.loose.length≤400000000)(O6:L.groups.length≤1000000):
  Calls prog 103 #[.pointer (some ⟨x,0,none⟩),.slice a l.length cap] w fun e w'=>Yu w x b gv fp (wappend D L l) e w':=by
 have HD:=Hi hd;have HL:=Hi hl;have mr:=Hi Ve;have HF:=Hi hf;have HX:=Hi hx;have Ad:=(Af w.heap.size w).alloc (Ac _) (.cells #[.pointer (some ⟨x,0,none⟩)] 111);have HB1:=Hi Ad;have Lh:=Hi (AJ w (.cells #[.pointer (some ⟨x,0,none⟩)] 111));have Ga:=Hi (hl.below Ad);have Ox:=Hi (hx.below Ad);have hV:Hid (J8 l=(s,0)):=Hi (by unfold J8;rw[hg]);have hR:wappend D L l=if L.n -1 -L.used < s.length / 64 then(D,L,4) else
  if(doS (L.acts s) D).2=0 then((doS (L.acts s) D).1,L.grown l (s.length / 64),0) else((doS (L.acts s) D).1,L.fell (doS (L.acts s) D).2,(doS (L.acts s) D).2):=by
  unfold wappend;rw[Aa (by simp[hf]),hg]
 have Cz:s.length≤1000068:=by have:=zJ l;rw[hV.out] at this;have h2:s.length≤rowLen l+68:=this;omega
 have g1:=hl.used;have g2:=hl.n;have EY:=Hi (show l.length≤maxLen by unfold maxLen;omega);clear hd hl Ve Ad hf hg hx;by_cases Sm:L.n -1 -L.used < s.length / 64
 ·have HR:=Hi (hR.trans (Ab Sm));have hq:(L.n:Int) -1 -(L.used:Int) < (s.length:Int) / 64:=by omega
  have e1:IntKind.i64.wrap ((L.n:Int) -1)=(L.n:Int) -1:=Ei _ (by omega);have e2:IntKind.i64.wrap ((L.n:Int) -1 -(L.used:Int))=(L.n:Int) -1 -(L.used:Int):=Ei _ (by omega);clear hR Sm;go_enter func103,ntmps103;go_wp2_with fail;refine(eQ Ga).mono ?_;rw[HF.out];rintro e w1⟨rfl,rfl⟩;go_wp2_with fail;refine(bu l a cap _ Ox EY (by omega)).mono ?_;rw[hV.out];rintro e w1⟨rfl,hb⟩;have HB:=Hi hb;have c0:=Hf ((hb.block w.heap.size (Ai Lh)).trans Lh);have bZ:w.heap.size < w1.heap.size:=DK (Ai Lh) hb.size;obtain⟨d0,d1,d2,d3,d4,d5,d6,df⟩:=(Ga.below hb).cells;have FN:x < w1.heap.size:=DK (Ga.lt x (.inl rfl)) hb.size;clear hb df d6 d5;go_wp2_with fail
  go_quiet (fail)
  go_wp2_with fail;go_ret;exact sU HR rfl HD HL ((((HB1.trans (HB.mono (by rw[Aq];omega))).alloc (by omega) _).alloc (by rw[Aq];omega) _).trans (F6 _ _ |>.mono (by rw[Aq,Aq];omega)))
 ·have Ye:=Hi (hR.trans (Aa Sm));have hq:(s.length:Int) / 64≤(L.n:Int) -1 -(L.used:Int):=by omega
  have e1:IntKind.i64.wrap ((L.n:Int) -1)=(L.n:Int) -1:=Ei _ (by omega);have e2:IntKind.i64.wrap ((L.n:Int) -1 -(L.used:Int))=(L.n:Int) -1 -(L.used:Int):=Ei _ (by omega);have aiV:((s.length / 64:Nat):Int)=(s.length:Int) / 64:=by omega
  have HK:=Hi aiV;have Vp:L.used+s.length / 64+1≤L.n:=by omega
  clear hR Sm aiV;go_enter func103,ntmps103;go_wp2_with fail;refine(eQ Ga).mono ?_;rw[HF.out];rintro e w1⟨rfl,rfl⟩;go_wp2_with fail;refine(bu l a cap _ Ox EY (by omega)).mono ?_;rw[hV.out];rintro e w1⟨rfl,hb⟩;have HB:=Hi hb;have c0:=Hf ((hb.block w.heap.size (Ai Lh)).trans Lh);have bZ:w.heap.size < w1.heap.size:=DK (Ai Lh) hb.size;have J3:=Hi (Ga.below hb);obtain⟨d0,d1,d2,d3,d4,d5,d6,df⟩:=J3.cells;have FN:x < w1.heap.size:=J3.lt x (.inl rfl);clear hb df d6 d5;go_wp2_with fail
  go_quiet (fail)
  go_wp2_with fail;have BH:Pq (((w1.alloc (.cells #[.string (bs s)] 9)).alloc (.cells #[.int .i64 ((s.length:Int) / 64)] 3)).drewN nq) x b gv L w.heap.size w1.heap.size (w1.heap.size+1) s (s.length / 64):=by
   rw[←HK.out];have ba:Bw w1 (w1.alloc (.cells #[.string (bs s)] 9)):=(Af _ _).alloc (Ac _) _;have bb:Below (w1.alloc (.cells #[.string (bs s)] 9)).heap.size (w1.alloc (.cells #[.string (bs s)] 9)) ((w1.alloc (.cells #[.string (bs s)] 9)).alloc (.cells #[.int .i64 ((s.length / 64:Nat):Int)] 3)):=(Af _ _).alloc (Ac _) _;have A8:Bw w1 (((w1.alloc (.cells #[.string (bs s)] 9)).alloc (.cells #[.int .i64 ((s.length / 64:Nat):Int)] 3)).drewN nq):=(ba.trans (bb.mono (by rw[Aq];omega))).trans ((F6 _ nq).mono (by rw[Aq,Aq];omega));have KX:=AJ w1 (.cells #[.string (bs s)] 9);have hk0:=AJ (w1.alloc (.cells #[.string (bs s)] 9)) (.cells #[.int .i64 ((s.length / 64:Nat):Int)] 3);rw[Aq] at hk0;exact⟨J3.below A8,(A8.block w.heap.size bZ).trans ((HB.block w.heap.size (Ai Lh)).trans Lh),(bb.block w1.heap.size (by rw[Aq];omega)).trans KX,hk0⟩
  have D7:Bw w (((w1.alloc (.cells #[.string (bs s)] 9)).alloc (.cells #[.int .i64 ((s.length:Int) / 64)] 3)).drewN nq):=(((HB1.trans (HB.mono (by rw[Aq];omega))).alloc (by omega) _).alloc (by rw[Aq];omega) _).trans ((F6 _ nq).mono (by rw[Aq,Aq];omega));have DI:w1.heap.size+1 < (((w1.alloc (.cells #[.string (bs s)] 9)).alloc (.cells #[.int .i64 ((s.length:Int) / 64)] 3)).drewN nq).heap.size:=by
   show w1.heap.size+1 < ((w1.alloc _).alloc _).heap.size
   rw[Aq,Aq];omega
  have Ev:=Hi BH;have CL:=Hi D7;clear d0 d1 d2 d3 d4 c0 BH D7 Ga J3 HB1 HB Lh Ox hV e1 e2 hq;generalize (((w1.alloc (.cells #[.string (bs s)] 9)).alloc (.cells #[.int .i64 ((s.length:Int) / 64)] 3)).drewN nq)=W2 at*;generalize w1.heap.size=s0 at*;obtain⟨c0,_,c2,_,d1,d2,_⟩:=Ev.cells;have OT:=fun(nq:Nat)=>afY (w:=(W2.alloc (.cells #[.func (.func 175) #[] #[.pointer (some ⟨w.heap.size,0,none⟩),.pointer (some ⟨s0,0,none⟩)],.func (.func 135) #[.pointer (some ⟨b,0,none⟩)] #[],.func (.func 176) #[] #[.pointer (some ⟨w.heap.size,0,none⟩),.pointer (some ⟨s0+1,0,none⟩)],.func (.func 135) #[.pointer (some ⟨b,0,none⟩)] #[]] 95)).drewN nq) (g:=W2.heap.size) (n:=4) (cap:=4)
   ((HD.below CL).below ((((Af _ W2).alloc (Ac _) _).trans ((F6 _ nq).mono (by rw[Aq];omega))))) (Ev.Dl.below ((((Af _ W2).alloc (Ac _) _).trans ((F6 _ nq).mono (by rw[Aq];omega))))) (Ev.below ((((Af _ W2).alloc (Ac _) _).trans ((F6 _ nq).mono (by rw[Aq];omega))))) (fun _ _ _ _ h hd hu=>h.upd hd hu) (as9 (by omega)) (fun i u hu=>(DF W2 _ _ i).trans (by rw[←Dn];exact hu)) ⟨_,_,AJ W2 _⟩ rfl (by decide) GU
  obtain⟨E,k,hr⟩:∃ E k,doS (L.acts s) D=(E,k):=⟨_,_,rfl⟩;have iV:wappend D L l=if k=0 then(E,L.grown l (s.length / 64),0) else(E,L.fell k,k):=by rw[Ye.out,hr]
  simp only[hr] at OT;have Pw:=Hi OT;have Ew:=Hi iV;have Xv:x < w.heap.size:=HL.lt x (.inl rfl);have YS:=HD.lt;have fP:=Hi YS;have vN:=Hi (show ¬ (fp w.heap.size∨w.heap.size=x) from fun hk=>hk.elim (fun h=>by have:=YS _ h;omega) (fun e=>by omega));have fG:=Hi (show ¬ (fp (s0+1)∨s0+1=x) from fun hk=>hk.elim (fun h=>by have:=YS _ h;omega) (fun e=>by omega));clear OT hr iV YS
  go_region_held3 (fun V=>V.cell? ⟨w.heap.size,0,none⟩=some (.pointer (some ⟨x,0,none⟩))∧V.cell? ⟨x,2,none⟩=some (.pointer (some ⟨b,0,none⟩)))
   (first|exact⟨c0,d2⟩|exact⟨c3,NJ.cells.2.2.1⟩|go_keep)
   (first
    |(go_at_call 132;refine(Pw 1).mono ?_;rintro e w3 ⟨rfl,bn,OQ,FW,CP,hs3⟩;have Xp:=(A7.of_below (F:=fun k=>fp k∨k=x) (((Af _ W2).alloc (Ac _) _).trans ((F6 _ 1).mono (by rw[Aq];omega)))).trans CP (fun i hi=>.inl hi);have c3:w3.cell? ⟨w.heap.size,0,none⟩=some (.pointer (some ⟨x,0,none⟩)):=(Xp.cell (p:=⟨w.heap.size,0,none⟩) (Ai Ev.box) vN).trans Ev.cells.1;have k3:w3.cell? ⟨s0+1,0,none⟩=some (.int .i64 ((s.length / 64:Nat):Int)):=(Xp.cell (p:=⟨s0+1,0,none⟩) (Ai Ev.num) fG).trans Ev.cells.2.2.1;have NJ:=Hi FW;have Oq:=Hi OQ;have Gc:=Hi Xp;have Hy:=Hi hs3;clear OQ FW CP hs3 Xp))
  all_goals
   clear c0 c2 d1 d2;have M8:=Hi k3;clear k3;by_cases h0:k=0
   ·subst h0;have HR:=Hi (Ew.trans (Ab rfl));have FW:BZ w3 x b gv L:=(by have:=NJ.out;rwa[Ab rfl] at this);obtain⟨_,d1,_,_,_,d5,_,df⟩:=FW.cells;have o9:=df 1;have RS:=df 5;have UC:=Hi FW;have k3:=M8.out;have e3:IntKind.i64.wrap ((L.used:Int)+((s.length / 64:Nat):Int))=(L.used:Int)+((s.length / 64:Nat):Int):=Ei _ (by omega);clear df FW;generalize s.length / 64=kk at*;go_wp2_with fail;go_region;all_goals
     go_wp2_with fail;have Kh:=(UC.ayM (L.used+kk) (by omega)).below ((Af _ (w3.setCell ⟨x,1,none⟩ (.int .i64 ((L.used+kk:Nat):Int)))).drew);rw[Int.natCast_add] at Kh;have U1:Bl (w3.setCell ⟨x,1,none⟩ (.int .i64 ((L.used:Int)+(kk:Int)))).drew b E bn:=(Oq.upd (F:=fun i=>i=x) ((A7.refl (fun i=>i=x) w3).setCell (p:=⟨x,1,none⟩) (.inl rfl) _) (fun i hi e=>UC.apart Oq (by rw[←e];exact hi))).below ((Af _ _).drew);have c4:(w3.setCell ⟨x,1,none⟩ (.int .i64 ((L.used:Int)+(kk:Int)))).drew.cell? ⟨w.heap.size,0,none⟩=some (.pointer (some ⟨x,0,none⟩)):=by
      rw[←c3];exact World.cell?_setCell_far _ _ _ _ (by show x≠w.heap.size;omega)
     have SI:A7 (fun k=>fp k∨k=x) w (w3.setCell ⟨x,1,none⟩ (.int .i64 ((L.used:Int)+(kk:Int)))).drew:=(((A7.of_below (F:=fun k=>fp k∨k=x) CL).trans Gc (fun i hi=>.inl hi)).setCell (p:=⟨x,1,none⟩) (.inl (.inr rfl)) _).trans (A7.of_below (F:=fun k=>fp k∨k=x) ((Af _ _).drew)) (fun i hi=>.inl hi);have Gj:=HX.upd SI (fun p hp hne hk=>hk.elim (mr p hp hne).1 (fun e=>(mr p hp hne).2 (.inl e)));have UD:=Hi Kh;have UA:=Hi U1;have QQ:=Hi SI;have Ym:=Hi Gj;clear Kh U1 SI Gj c3 k3 d1 d5 o9 RS;generalize (w3.setCell ⟨x,1,none⟩ (.int .i64 ((L.used:Int)+(kk:Int)))).drew=w4 at*;obtain⟨cs,Gw,Gf,Js,LA⟩:=UD.groups;obtain⟨qg,cg,rfl⟩:=Bg Gw;have W9:=Hi Gw;have NG:=Hi Gf;have Wd:=Hi Js;have vG:=Hi LA;obtain⟨_,_,_,_,_,d5,_,df⟩:=UD.cells;have RS:=df 5;obtain⟨i0,Ba,AQ,AU,AV⟩:=Du acN;have hne:=UD.ne;have FN:=UD.lt x (.inl rfl);have Qk:=QQ.size;have ai6:w.heap.size < w4.heap.size:=BS c4;have auL:(Value.slice qg L.groups.length cg).ownBlock≠some w.heap.size:=fun e=>by
      have:=HL.lt _ (.inr e);omega
     clear df Gw Gf Js LA;have PG:=Hi (fun(V:World) (hb:Bw w4 V)=>(⟨(hb.cell (p:=⟨w.heap.size,0,none⟩) (BS c4)).trans c4,(hb.cell (p:=⟨x,5,none⟩) FN).trans d5⟩:(fun V:World=>V.cell? ⟨w.heap.size,0,none⟩=some (.pointer (some ⟨x,0,none⟩))∧V.cell? ⟨x,5,none⟩=some (.slice qg L.groups.length cg)) V));have Gq:=Hi (Cc d5 RS);have B1:=Hi (show Bw w4 w4.drew from(Af _ _).drew);clear c4 d5 RS;refine aAw (z:=11) (S:=(fun V:World=>V.cell? ⟨w.heap.size,0,none⟩=some (.pointer (some ⟨x,0,none⟩))∧V.cell? ⟨x,5,none⟩=some (.slice qg L.groups.length cg))) (by kernel_rfl) ?_;refine eU (i:=0) (oi:=⟨some 71,.load 111 (.tmp 2),111,"wal.go:149",#[],none⟩) (v:=?_) rfl (by kernel_rfl) (by kernel_rfl) (by kernel_rfl) (by kernel_rfl) (fun _ _ _ h=>h) (Or.inl ⟨by rfl,?_⟩) (PG _ B1) ?_
     rotate_left
     ·intro V hV;try dsimp only at hV
      go_simp;all_goals with_reducible rfl
     try simp only[Act.put,np]
     refine eU (i:=1) (oi:=⟨some 72,.load 111 (.tmp 2),111,"wal.go:149",#[],none⟩) (v:=?_) rfl (by kernel_rfl) (by kernel_rfl) (by kernel_rfl) (by kernel_rfl) (fun _ _ _ h=>h) (Or.inl ⟨by rfl,?_⟩) (PG _ B1) ?_
     rotate_left
     ·intro V hV;try dsimp only at hV
      go_simp;all_goals with_reducible rfl
     try simp only[Act.put,np]
     refine eU (i:=2) (oi:=⟨some 73,.nilCheck (.tmp 72),0,"wal.go:149",#[⟨1,.data⟩],none⟩) (v:=?_) rfl (by kernel_rfl) (by kernel_rfl) (by kernel_rfl) (by kernel_rfl) (fun _ _ _ h=>h) (Or.inl ⟨by rfl,?_⟩) (PG _ B1) ?_
     rotate_left
     ·intro V hV;try dsimp only at hV
      go_simp;all_goals with_reducible rfl
     try simp only[Act.put,np]
     refine eU (i:=3) (oi:=⟨some 74,.fieldAddr 207 (.tmp 73) 4,0,"wal.go:149",#[⟨2,.data⟩],none⟩) (v:=?_) rfl (by kernel_rfl) (by kernel_rfl) (by kernel_rfl) (by kernel_rfl) (fun _ _ _ h=>h) (Or.inl ⟨by rfl,?_⟩) (PG _ B1) ?_
     rotate_left
     ·intro V hV;try dsimp only at hV
      go_simp;all_goals with_reducible rfl
     try simp only[Act.put,np]
     refine eU (i:=4) (oi:=⟨some 75,.load 128 (.tmp 74),128,"wal.go:149",#[⟨3,.data⟩],none⟩) (v:=?_) rfl (by kernel_rfl) (by kernel_rfl) (by kernel_rfl) (by kernel_rfl) (fun _ _ _ h=>h) (Or.inl ⟨by rfl,?_⟩) (PG _ B1) ?_
     rotate_left
     ·intro V hV;try dsimp only at hV
      go_simp;all_goals with_reducible rfl
     try simp only[Act.put,np]
     refine eU (i:=5) (oi:=⟨some 76,.move (.tmp 1),27,"wal.go:149",#[],none⟩) (v:=?_) rfl (by kernel_rfl) (by kernel_rfl) (by kernel_rfl) (by kernel_rfl) (fun _ _ _ h=>h) (Or.inl ⟨by rfl,?_⟩) (PG _ B1) ?_
     rotate_left
     ·intro V hV;try dsimp only at hV
      go_simp;all_goals with_reducible rfl
     try simp only[Act.put,np]
     refine eT (i:=6) (o:=⟨some 77,.call ⟨.value (.func 114),#[.tmp 76],#[27]⟩,27,"wal.go:149",#[⟨5,.data⟩],none⟩) (by kernel_rfl) rfl (fun K1 Mj=>?_);go_simp
     go_at_call 114
     refine(an1 w4.drew a cap l (Ym.below (Af _ w4).drew) (by omega)).mono ?_;rintro e w5⟨lv,rfl,Xl,Bf,R7⟩;have B5:=Hi (B1.trans (Bf.mono (Ac _)));obtain⟨ql,cl,rfl⟩:=Bg Xl;have NN:=Hi (J5.CG Xl);have aop:=Hi (Bh W9 (ub B5) (fun _ _ f=>f));have au:=Hi (UD.below B5);have aoq:=Hi (fun i (h:i < L.groups.length) (h':i < cs.length)=>(vG i h h').upd (ub B5) (fun _ _ f=>f));clear Xl Bf R7;go_simp;refine Mj _ _ (fun _=>PG _ B5) ?_;try simp only[Act.put,np]
     refine eT (i:=7) (o:=⟨some 78,.buildSlice 128 1 #[(0,.tmp 77)],128,"wal.go:149",#[⟨6,.data⟩],none⟩) (by kernel_rfl) rfl (fun K2 FM=>?_);go_simp;refine FM _ _ (fun _=>PG _ (B5.alloc B5.size _)) ?_;try simp only[Act.put,np]
     refine eT (i:=8) (o:=⟨some 79,.call ⟨.builtin .append,#[.tmp 75,.tmp 78],#[128,128]⟩,128,"wal.go:149",#[⟨4,.data⟩,⟨7,.data⟩,⟨6,.chain⟩],none⟩) (by kernel_rfl) rfl (fun K3 Sg=>?_);refine step_append_lies _ (by rfl) _ _ _ (by rfl) 0 27 i0 _ 1 24 underlying128 Ba AQ AU AV (by rfl) (by omega) (.slice qg L.groups.length cg) L.groups.length cs (by rfl) (aop.alloc _) ⟨w5.heap.size,0,none⟩ 1 1 [.slice ql l.length cl] (by rfl) (by rfl) (World.news_of_block (cs:=#[.slice ql l.length cl]) (t:=27) (fr:=(0,0)) (AJ w5 _)) (fun u hu=>by rw[EX] at hu;subst hu;exact NN.one) (by omega) (by unfold maxLen;omega) (by omega) (AB _) _ (by rfl) ?_;intro gg cap2 w6 ajx Az hat auz;have aaO:=au.ne;have jf:=(Az.cell_far ⟨x,5,none⟩ (DK FN (Ap B5.size (by rw[Aq];omega))) (Ne.symm aaO)).trans (((B5.alloc B5.size (.cells #[.slice ql l.length cl] 27)).cell (p:=⟨x,5,none⟩) FN).trans Gq.1);have hf6:=(Az.frozen_far ⟨x,5,none⟩ (DK FN (Ap B5.size (by rw[Aq];omega))) (Ne.symm aaO)).trans (((B5.alloc B5.size (.cells #[.slice ql l.length cl] 27)).frozen (p:=⟨x,5,none⟩) FN).trans Gq.2);have ai0:=(Az.cell_far ⟨w.heap.size,0,none⟩ (DK ai6 (Ap B5.size (by rw[Aq];omega))) (Ne.symm auL)).trans (((B5.alloc B5.size (.cells #[.slice ql l.length cl] 27)).cell (p:=⟨w.heap.size,0,none⟩) ai6).trans (PG _ (Af _ _)).1);have Wt:=Hi (Cc ai0 jf);have mQ:=Hi (au.pushed NN NG Wd aoq ((Af w5.heap.size w5).alloc (Ac _) _) Az ajx (hat.imp (fun h=>h.symm) (fun h=>by rw[h];rfl)));clear Az ajx hat auz aaO ai0
     refine Sg _ _ (fun _=>Wt.out) ?_;try simp only[Act.put,np]
     refine eT (i:=9) (o:=⟨some 80,.nilCheck (.tmp 71),0,"wal.go:149",#[⟨0,.data⟩,⟨0,.phase⟩,⟨1,.phase⟩,⟨2,.phase⟩,⟨3,.phase⟩,⟨4,.phase⟩,⟨5,.phase⟩,⟨6,.phase⟩,⟨7,.phase⟩,⟨8,.phase⟩],none⟩) (by kernel_rfl) rfl (fun K4 hK4=>?_);go_simp;refine hK4 _ _ (fun _=>Wt.out) ?_;try simp only[Act.put,np]
     refine eT (i:=10) (o:=⟨some 81,.fieldAddr 207 (.tmp 80) 4,0,"wal.go:149",#[⟨9,.data⟩,⟨0,.phase⟩,⟨1,.phase⟩,⟨2,.phase⟩,⟨3,.phase⟩,⟨4,.phase⟩,⟨5,.phase⟩,⟨6,.phase⟩,⟨7,.phase⟩,⟨8,.phase⟩],none⟩) (by kernel_rfl) rfl (fun K5 hK5=>?_);go_simp;refine hK5 _ _ (fun _=>Wt.out) ?_;try simp only[Act.put,np]
     refine eT (i:=11) (o:=⟨none,.store 128 (.tmp 81) (.tmp 79),0,"wal.go:149",#[⟨10,.data⟩,⟨8,.data⟩,⟨8,.chain⟩,⟨0,.phase⟩,⟨1,.phase⟩,⟨2,.phase⟩,⟨3,.phase⟩,⟨4,.phase⟩,⟨5,.phase⟩,⟨6,.phase⟩,⟨7,.phase⟩,⟨8,.phase⟩],none⟩) (by kernel_rfl) rfl (fun K6 hK6=>?_);go_simp;refine hK6 _ _ (fun h=>absurd rfl h) ?_;try simp only[Act.put,np]
     refine aAu (by kernel_rfl) ?_ _;clear Mj FM Sg hK4 hK5 hK6 K1 K2 K3 K4 K5 K6;go_wp2_with fail;go_ret;have KY:=B5.size;refine sS HR rfl (Bl.upd (UA.below B5) mQ.2.1 (fun k hk=>au.apT (UA.below B5) k hk)) mQ.1 ?_ ?_ ?_
     ·exact((QQ.mono (fun i hi=>hi.elim .inl (fun e=>.inr (.inl e)))).trans (A7.of_below (F:=fun k=>fp k∨BD x (.slice qg L.groups.length cg) k) B5) (fun i hi=>.inl hi)).trans mQ.2.1 (fun i hi=>.inl (.inr hi))
     ·intro i hi;rcases Hy i hi with h|h
      ·exact .inl h
      ·exact .inr (Ap CL.size (Ap (by show W2.heap.size≤(W2.alloc _).heap.size;rw[Aq];omega) h))
     ·intro i hi;rcases mQ.2.2 i hi with h|h
      ·exact .inl h
      ·exact .inr (Ap Qk (Ap KY h))
   ·have Ad:(k != 0)=true:=(by simp[h0]);have HR:=Hi (Ew.trans (Aa h0));have UC:Hid (BZ w3 x b gv (L.fell k)):=Hi (by have:=NJ.out;rwa[Aa h0] at this);clear h0;go_wp2_with fail;go_ret;refine sS HR rfl Oq UC.out ?_ ?_ (fun _ h=>.inl h)
    ·exact((A7.of_below (F:=fun k=>fp k∨BD x gv k) CL).trans Gc (fun i hi=>.inl (hi.elim .inl (fun e=>.inr (.inl e)))))
    ·intro i hi;rcases Hy i hi with h|h
     ·exact .inl h
     ·exact .inr (Ap CL.size (Ap (by show W2.heap.size≤(W2.alloc _).heap.size;rw[Aq];omega) h))
theorem apV(hd:Bl w b D fp)(hl:BZ w x b gv L)(hx:Cg w a l)(Ve:∀ p,a=some p→l≠[]→¬ fp p.block∧¬ BD x gv p.block)(hlen:l.length≤1000000)(CB:rowLen l≤1000000)(GU:D.loose.length≤400000000)(O6:L.groups.length≤1000000):
  Calls prog 103 #[.pointer (some ⟨x,0,none⟩),.slice a l.length cap] w fun e w'=>Yu w x b gv fp (wappend D L l) e w':=by
 by_cases hf:L.fault=0
 ·cases hg:GQ l with
  |none=>exact afb hd hl hx (by unfold maxLen;omega) CB (.inr hg)
  |some s=>exact apX hd hl hx Ve hlen CB hf hg GU O6
 ·exact afb hd hl hx (by unfold maxLen;omega) CB (.inl hf)
theorem BZ.ayK{w:World}{x b:Nat}{gv:Value}{L:Bn}(h:BZ w x b gv L)(g:Nat)(hg:g < 18446744073709551616):BZ (((w.setCell ⟨x,0,none⟩ (.int .u64 (g:Int))).setCell ⟨x,1,none⟩ (.int .i64 0)).setCell ⟨x,5,none⟩ (.slice none 0 0)) x b (.slice none 0 0) { L with gen:=g,used:=0,groups:=[] }:=by
 have e1:=BU w x 0 _ _ (.int .u64 (g:Int)) h.struct;have e2:=BU _ x 1 _ _ (.int .i64 0) e1;have e3:=BU _ x 5 _ _ (.slice none 0 0) e2;exact⟨e3,JK.none _,hg,by have:=h.used;show 0+1≤L.n;omega,h.n⟩
theorem am6(hd:Bl w b D fp)(hl:BZ w x b gv L)(GU:D.loose.length≤400000000):
  Calls prog 58 #[.pointer (some ⟨x,0,none⟩)] w fun e w'=>Yu w x b gv fp (Dm D L) e w':=by
 have HD:=Hi hd;have HL:=Hi hl;have Ad:=(Af w.heap.size w).alloc (Ac _) (.cells #[.pointer (some ⟨x,0,none⟩)] 111);have HB1:=Hi Ad;have Ga:=Hi (hl.below Ad);by_cases hf:L.fault=0
 ·have HF:=Hi hf;have YI:Dm D L=if(doS L.L9 D).2=0 then((doS L.L9 D).1,L.TL,0) else((doS L.L9 D).1,L.fell (doS L.L9 D).2,(doS L.L9 D).2):=by
   unfold Dm;rw[Aa (by simp[hf])]
  have Xv:x < w.heap.size:=hl.lt x (.inl rfl);have YS:=hd.lt;have vN:=Hi (show ¬ (fp w.heap.size∨w.heap.size=x) from fun hk=>hk.elim (fun h=>by have:=YS _ h;omega) (fun e=>by omega));obtain⟨E,k,hr⟩:∃ E k,doS L.L9 D=(E,k):=⟨_,_,rfl⟩;have iV:Dm D L=if k=0 then(E,L.TL,0) else(E,L.fell k,k):=by rw[YI,hr]
  have BH:=RQ.of (hl.below Ad) (AJ w (.cells #[.pointer (some ⟨x,0,none⟩)] 111));have OT:=fun(nq:Nat)=>afY (w:=((w.alloc (.cells #[.pointer (some ⟨x,0,none⟩)] 111)).alloc (.cells #[.func (.func 133) #[] #[.pointer (some ⟨w.heap.size,0,none⟩)],.func (.func 135) #[.pointer (some ⟨b,0,none⟩)] #[]] 95)).drewN nq) (g:=(w.alloc (.cells #[.pointer (some ⟨x,0,none⟩)] 111)).heap.size) (n:=2) (cap:=2)
   ((hd.below Ad).below ((((Af _ _).alloc (Ac _) _).trans ((F6 _ nq).mono (by simp only[Aq];omega))))) (BH.Dl.below ((((Af _ _).alloc (Ac _) _).trans ((F6 _ nq).mono (by simp only[Aq];omega))))) (BH.below ((((Af _ _).alloc (Ac _) _).trans ((F6 _ nq).mono (by simp only[Aq];omega))))) (fun _ _ _ _ h hd hu=>h.upd hd hu) asb (fun i u hu=>(DF _ _ _ i).trans (by rw[←Dn];exact hu)) ⟨_,_,AJ _ _⟩ rfl (by decide) GU
  simp only[hr] at OT;rw[Aq] at OT;have Pw:=Hi OT;have Ew:=Hi iV;have Ev:=Hi BH;have c0:=Hf BH.box;have d2:=BH.Dl.cells.2.2.1;clear hd hl Ad hf YI YS hr iV BH OT;go_enter func58,ntmps58;go_wp2_with fail;refine(eQ Ga).mono ?_;rw[HF.out];rintro e w1⟨rfl,rfl⟩;go_wp2_with fail
  go_region_held3 (fun V=>V.cell? ⟨w.heap.size,0,none⟩=some (.pointer (some ⟨x,0,none⟩))∧V.cell? ⟨x,2,none⟩=some (.pointer (some ⟨b,0,none⟩)))
   (first|exact⟨c0,d2⟩|exact⟨c3,NJ.cells.2.2.1⟩|go_keep)
   (first
    |(go_at_call 132;refine(Pw 1).mono ?_;rintro e w3 ⟨rfl,bn,OQ,FW,CP,hs3⟩;have Xp:=(A7.of_below (F:=fun k=>fp k∨k=x) (((Af _ (w.alloc (.cells #[.pointer (some ⟨x,0,none⟩)] 111))).alloc (Ac _) _).trans ((F6 _ 1).mono (by simp only[Aq];omega)))).trans CP (fun i hi=>.inl hi);have c3:w3.cell? ⟨w.heap.size,0,none⟩=some (.pointer (some ⟨x,0,none⟩)):=(Xp.cell (p:=⟨w.heap.size,0,none⟩) (Ai Ev.box) vN).trans c0;have NJ:=Hi FW;have Oq:=Hi OQ;have Gc:=Hi ((A7.of_below (F:=fun k=>fp k∨k=x) HB1).trans Xp (fun i hi=>.inl hi));have Hy:=Hi hs3;clear OQ FW CP hs3 Xp))
  all_goals
   clear c0 d2;have AP:D6 fp bn w:=fun i hi=>by
    rcases Hy i hi with h|h
    ·exact .inl h
    ·exact .inr (Ap (by show w.heap.size≤((w.alloc _).alloc _).heap.size;rw[Aq,Aq];omega) h)
   have AR:=Hi AP;clear AP;by_cases h0:k=0
   ·subst h0;have HR:=Hi (Ew.trans (Ab rfl));have FW:BZ w3 x b gv L:=(by have:=NJ.out;rwa[Ab rfl] at this);obtain⟨d0,d1,_,_,_,d5,_,df⟩:=FW.cells;have df0:=df 0;have o9:=df 1;have RS:=df 5;have UC:=Hi FW;have e3:=adf L.gen;have Nl:(L.gen+1) % 18446744073709551616 < 18446744073709551616:=Nat.mod_lt _ (by decide);have ag:=Hi (Cc Nl (show L.TL={ L with gen:=(L.gen+1) % 18446744073709551616,used:=0,groups:=[] } from rfl));clear df FW Nl;generalize (L.gen+1) % 18446744073709551616=g at*;go_wp2_with fail;go_region;all_goals
     go_wp2_with fail;go_ret;have FX:A7 (fun i=>i=x) w3 (((w3.setCell ⟨x,0,none⟩ (.int .u64 (g:Int))).setCell ⟨x,1,none⟩ (.int .i64 0)).setCell ⟨x,5,none⟩ (.slice none 0 0)).drew:=((((A7.refl (fun i=>i=x) w3).setCell (p:=⟨x,0,none⟩) (.inl rfl) _).setCell (p:=⟨x,1,none⟩) (.inl rfl) _).setCell (p:=⟨x,5,none⟩) (.inl rfl) _).trans (A7.of_below (F:=fun i=>i=x) ((Af _ _).drew)) (fun i hi=>.inl hi);refine sS HR rfl (Oq.upd FX (fun i hi e=>UC.apart Oq (by rw[←e];exact hi))) (L:=L.TL) (EN:=.slice none 0 0) (by rw[ag.2];exact(UC.ayK g ag.1).below ((Af _ _).drew)) ?_ AR.out ?_
     ·exact(Gc.mono (fun i hi=>hi.elim .inl (fun e=>.inr (.inl e)))).trans FX (fun i hi=>.inl (.inr (.inl hi)))
     ·rintro i (hi|hi)
      ·exact .inl (.inl hi)
      ·simp[Value.ownBlock] at hi
   ·have Ad:(k != 0)=true:=(by simp[h0]);have HR:=Hi (Ew.trans (Aa h0));have UC:Hid (BZ w3 x b gv (L.fell k)):=Hi (by have:=NJ.out;rwa[Aa h0] at this);clear h0;go_wp2_with fail;go_ret;exact sS HR rfl Oq UC (Gc.mono (fun i hi=>hi.elim .inl (fun e=>.inr (.inl e)))) AR (fun _ h=>.inl h)
 ·have hR:Hid (Dm D L=(D,L,L.fault)):=Hi (by unfold Dm;rw[Ab hf]);have Bq:(L.fault == 0)=false:=by simp[hf]
  have A8:(L.fault != 0)=true:=by simp[hf]
  clear hd hl Ad hf;go_enter func58,ntmps58;go_wp2_with fail;refine(eQ Ga).mono ?_;rintro e w1⟨rfl,rfl⟩;go_wp2_with fail;go_ret;exact sU hR.out rfl HD HL HB1.out
end
end
end Go.Proofs.YtmbbhdebddbhoaaGreat
