/- WalOps2 -/
import Derived.OrdersHeld
import Derived.RegionTactic
import Derived.Test.YtkmninbcgipliaaGreatDoorQ5
set_option maxHeartbeats 4000000
set_option maxRecDepth 100000
set_option linter.all false
namespace Go.Proofs.YtkmninbcgipliaaGreatDoor
open Tryz
section
section
variable {P:Program}{ops:Array Oper}{Q:Exit→Act→World→Prop}{md:Region.Mode}{S:World→Prop}{z:Nat}
def UT(P:Program)(md:Region.Mode)(ops:Array Oper)(Q:Exit→Act→World→Prop)(S:World→Prop)(z:Nat):Nat→Array Bool→Act→World→Prop
 |0,listed,a,w=>Region.ready md ops listed=[]∧Q .normal a w
 |fuel+1,listed,a,w=>(Region.ready md ops listed=[]→Q .normal a w)∧
  ∀ i∈Region.ready md ops listed,wpOp P ops Q i (fun a' w'=>(i≠z→S w')∧UT P md ops Q S z fuel (listed.setIfInBounds i true) a' w') a w
theorem anT:∀ (fuel:Nat) (listed:Array Bool) (a:Act) (w:World),UT P md ops Q S z fuel listed a w→wpAny P md ops Q fuel listed a w
 |0,_,_,_,h=>h
 |fuel+1,_,_,_,h=>⟨h.1,fun i hi=>wpOp_mono (fun a' w' h'=>anT fuel _ a' w' h'.2) (h.2 i hi)⟩
def waits(md:Region.Mode)(ops:Array Oper)(z i:Nat):Bool:=match ops[z]? with
 |none=>false
 |some o=>o.after.any fun e=>Region.binds md e && e.on == i
theorem aB7{i:Nat}{o:Oper}(h:waits md ops z i=true)(ho:ops[z]?=some o)(hn:∀ e∈o.after,Region.binds md e=true→e.on≠i):False:=by
 unfold waits at h;rw[ho] at h;obtain⟨e,he,hb⟩:=Array.any_eq_true'.1 h;simp only[Bool.and_eq_true,beq_iff_eq] at hb;exact hn e he hb.1 hb.2
theorem anS{i:Nat}{oi:Oper}{v:Value}(hi:ops[i]?=some oi)(hz:waits md ops z i=true)(abe:∀ (j:Nat) (o:Oper) cs b,ops[j]?=some o→o.op≠.select cs b)
  (hQ:∀ c a w,Q (.panic c) (a.put oi.dst v) w→Q (.panic c) a w):
  ∀ (fuel:Nat) (listed:Array Bool) (a:Act) (w:World),
   (∀ j oj,ops[j]?=some oj→j≠i→listed.getD j true=false→(∀ e∈oj.after,Region.binds md e=true→e.on≠i)→oi.apart ops oj=true)→
   i∈Region.ready md ops listed→YieldsIf P ops S oi v a→S w→
   UT P md ops Q S z fuel (listed.setIfInBounds i true) (a.put oi.dst v) w→UT P md ops Q S z (fuel+1) listed a w
 |fuel,listed,a,w=>fun aii hr hy hS H=>by
  refine⟨fun h=>(by rw[h] at hr;cases hr),fun j hj=>?_⟩;by_cases cZ:j=i
  ·subst cZ;exact hy.wpOp hi hS ⟨fun _=>hS,H⟩
  ·obtain⟨aiD,oj,dJ,hall⟩:=mem_ready.1 hj;have aj8:∀ e∈oj.after,Region.binds md e=true→e.on≠i:=fun e he hb heq=>by
    have h1:=hall e he hb;have h0:=(mem_ready.1 hr).1;rw[heq] at h1;rcases Nat.lt_or_ge i listed.size with h'|h'
    ·simp[h'] at h0 h1;rw[h0] at h1;cases h1
    ·simp[Array.getElem?_eq_none h'] at h1
   have hjz:j≠z:=fun e=>by subst e;exact aB7 hz dJ aj8
   cases fuel with
   |zero=>
    have h2:=ready_mono hj cZ;rw[H.1] at h2;cases h2
   |succ fuel=>
    have h2:=wpOp_putIf dJ (aii j oj dJ cZ aiD aj8) (fun cs b=>abe i oi cs b hi) (fun cs b=>abe j oj cs b dJ) hQ hy (H.2 j (ready_mono hj cZ));refine wpOp_mono (fun a' w' h3=>⟨h3.2.1,anS hi hz abe hQ fuel (listed.setIfInBounds j true) a' w' (fun k ok hk qY Tq Cv=>?_) (ready_mono hr (Ne.symm cZ)) h3.1 (h3.2.1 hjz) ?_⟩) h2
    ·refine aii k ok hk qY ?_ Cv;by_cases Xw:j=k
     ·subst Xw;exact aiD
     ·rw[getD_set_ne true Xw] at Tq;exact Tq
    ·rw[Array.setIfInBounds_comm _ _ cZ];exact h3.2.2
theorem fK{i:Nat}{oi:Oper}{v:Value}{fuel:Nat}{listed:Array Bool}{a:Act}{w:World}(hi:ops[i]?=some oi)(hz:waits md ops z i=true)
  (hs:Region.noSelect ops=true)(hf:Region.free md ops listed i=true)(hr:(Region.ready md ops listed).contains i=true)
  (hQ:∀ c a w,Q (.panic c) (a.put oi.dst v) w→Q (.panic c) a w)(hy:YieldsIf P ops S oi v a)(hS:S w)
  (h:UT P md ops Q S z fuel (listed.setIfInBounds i true) (a.put oi.dst v) w):UT P md ops Q S z (fuel+1) listed a w:=
 anS hi hz (Region.noSelect_spec hs) hQ fuel listed a w (Region.free_spec hi hf) (by simpa using hr) hy hS h
theorem fJ{i:Nat}{o:Oper}{fuel:Nat}{listed:Array Bool}{a:Act}{w:World}(hr:Region.ready md ops listed=[i])(ho:ops[i]?=some o)
  (h:∀ K':Act→World→Prop,Shut (∀ a w,(i≠z→S w)→UT P md ops Q S z fuel (listed.setIfInBounds i true) a w→K' a w)→if Region.wanted o (yielded ops a.tmps)=true then Oper.wp P o a w K' Q else K' (a.put o.dst undef) w):
  UT P md ops Q S z (fuel+1) listed a w:=
 ⟨fun h0=>(by rw[hr] at h0;cases h0),fun j hj=>by
  rw[hr,FC] at hj;subst hj;exact wpOp_step ho (fun K' hK=>h K' (fun a w hS hW=>hK a w ⟨hS,hW⟩))⟩
theorem aBo{listed:Array Bool}{a:Act}{w:World}(hr:Region.ready md ops listed=[])(h:Q .normal a w):∀ fuel,UT P md ops Q S z fuel listed a w
 |0=>⟨hr,h⟩
 |_+1=>⟨fun _=>h,by rw[hr];simp⟩
theorem aBq{id:Nat}{a:Act}{w:World}(hm:P.follows .mixedOrders=true)(h:UT P .any ops Q S z ops.size (Array.replicate ops.size false) a w.drew):(Code.region id ops true).wp P Q a w:=
 wp_region_any hm (anT _ _ _ _ h)
end
end
section
open Go.RowKit Go.Maps
open Aq
def YP(w:World)(x b:Nat)(gv:Value)(fp:Nat→Prop)(r:A8×Bz×Int)(e:Ending)(w':World):Prop:=
 e=.returned (.int .i64 r.2.2)∧∃ fp' Fg,BI w' b r.1 fp'∧Cj w' x b Fg r.2.1∧A7 (fun k=>fp k∨BP x gv k) w w'∧Di fp fp' w∧Di (BP x gv) (BP x Fg) w
theorem tO{w w':World}{x b:Nat}{gv:Value}{fp:Nat→Prop}{D:A8}{L:Bz}{k:Int}{r:A8×Bz×Int}{e:Ending}(hr:r=(D,L,k))(he:e=.returned (.int .i64 k))(hd:BI w b D fp)(hl:Cj w x b gv L)(hb:Bw w w'):YP w x b gv fp r e w':=by
 subst hr;exact⟨he,fp,gv,hd.below hb,hl.below hb,A7.of_below hb,fun _ h=>.inl h,fun _ h=>.inl h⟩
theorem tN{w w':World}{x b:Nat}{gv Fg:Value}{fp fp':Nat→Prop}{D:A8}{L:Bz}{k:Int}{r:A8×Bz×Int}{e:Ending}(hr:r=(D,L,k))(he:e=.returned (.int .i64 k))(hd:BI w' b D fp')(hl:Cj w' x b Fg L)(hu:A7 (fun k=>fp k∨BP x gv k) w w')(hs:Di fp fp' w)(Lu:Di (BP x gv) (BP x Fg) w):YP w x b gv fp r e w':=by
 subst hr;exact⟨he,fp',Fg,hd,hl,hu,hs,Lu⟩
theorem Dv.upd{F:Nat→Prop}{w w':World}{a:Option Addr}{l:List (List UInt8)}(h:Dv w a l)(hu:A7 F w w')(hF:∀ p,a=some p→l≠[]→¬ F p.block):Dv w' a l:=fun i hi=>by
 obtain⟨p,rfl,hc⟩:=h i hi;have e:(p.add i).block=p.block:=by unfold Addr.add;split<;>rfl
 exact⟨p,rfl,(hu.cell (p:=p.add i) (D7 hc) (by rw[e];exact hF p rfl (fun e=>by subst e;simp at hi))).trans hc⟩
theorem Cj.apG{w:World}{x b:Nat}{gv:Value}{L:Bz}(h:Cj w x b gv L){b':Nat}{D:A8}{fp:Nat→Prop}(hd:BI w b' D fp)(k:Nat)(hk:fp k):¬ BP x gv k:=by
 rintro(rfl|hg)
 ·exact h.apart hd hk
 ·obtain⟨cs,h1,_⟩:=h.groups;have:=hd.kindOf hk (CB h1 hg)
  revert this;decide
theorem Cj.azv{w:World}{x b:Nat}{gv:Value}{L:Bz}(h:Cj w x b gv L)(u:Nat)(hu:u+1≤L.n):Cj (w.setCell ⟨x,1,none⟩ (.int .i64 (u:Int))) x b gv { L with used:=u }:=by
 have VU:A7 (fun i=>i=x) w (w.setCell ⟨x,1,none⟩ (.int .i64 (u:Int))):=(A7.refl (fun i=>i=x) w).setCell (p:=⟨x,1,none⟩) (.inl rfl) _;refine⟨Cf w x 1 _ _ _ h.struct,h.groups.upd VU (fun i hi e=>by subst e;exact Bf.ne hi ⟨_,_,h.struct⟩ (by decide) rfl) (fun g hg e=>h.ne (by rw[hg,e])),h.gen,hu,h.n⟩
section
variable {w:World}{x b:Nat}{gv:Value}{L:Bz}{D:A8}{fp:Nat→Prop}{l:List (List UInt8)}{a:Option Addr}{cap:Nat}
theorem aeX(hd:BI w b D fp)(hl:Cj w x b gv L)(hx:Dv w a l)(hlen:l.length≤maxLen)(DC:rowLen l≤1000000)(NJ:L.fault≠0∨Hu l=none):
  Calls prog 65 #[.pointer (some ⟨x,0,none⟩),.slice a l.length cap] w fun e w'=>YP w x b gv fp (Dw D L l) e w':=by
 have HD:=Hi hd;have HL:=Hi hl;have Gx:=Hi hlen;have Ai:=(Ah w.heap.size w).alloc (Ae _) (.cells #[.pointer (some ⟨x,0,none⟩)] 114);have HB1:=Hi Ai;have FR:=Hi (hl.below Ai);have Qj:=Hi (hx.below Ai);by_cases hf:L.fault=0
 ·have hg:Hu l=none:=NJ.resolve_left (fun h=>h hf);have hR:Hid (Dw D L l=(D,L,5)):=Hi (by unfold Dw;rw[Aa (by simp[hf]),hg]);have hV:Hid (JE l=([],5)):=Hi (by unfold JE;rw[hg]);have HF:=Hi hf;clear hd hl hx hlen NJ Ai hf hg
  go_in
  go_wp2_with fail;refine(fI FR).mono ?_;rw[HF.out];rintro e w1⟨rfl,rfl⟩;go_wp2_with fail;refine(bK l a cap _ Qj Gx (by omega)).mono ?_;rw[hV.out];rintro e w1⟨rfl,hb⟩;have HB:=Hi hb;clear hb;go_wp2;go_ret;exact tO hR.out rfl HD HL ((HB1.trans (HB.mono (by rw[Ar];omega))).alloc (Ay (HB1.size) HB.size) _)
 ·have hR:Hid (Dw D L l=(D,L,L.fault)):=Hi (by unfold Dw;rw[Ac hf]);have Bb:(L.fault == 0)=false:=by simp[hf]
  have Ad:(L.fault != 0)=true:=by simp[hf]
  clear hd hl hx hlen NJ Ai hf
  go_in
  go_wp2_with fail;refine(fI FR).mono ?_;rintro e w1⟨rfl,rfl⟩;go_wp2;go_ret;exact tO hR.out rfl HD HL HB1.out
theorem apK(hd:BI w b D fp)(hl:Cj w x b gv L)(hx:Dv w a l)(VE:∀ p,a=some p→l≠[]→¬ fp p.block∧¬ BP x gv p.block)(hlen:l.length≤1000000)(DC:rowLen l≤1000000)(hf:L.fault=0){s:List UInt8}(hg:Hu l=some s)(Hw:D.loose.length≤400000000)(Oy:L.groups.length≤1000000):
  Calls prog 65 #[.pointer (some ⟨x,0,none⟩),.slice a l.length cap] w fun e w'=>YP w x b gv fp (Dw D L l) e w':=by
 have HD:=Hi hd;have HL:=Hi hl;have mJ:=Hi VE;have HF:=Hi hf;have HX:=Hi hx;have Ai:=(Ah w.heap.size w).alloc (Ae _) (.cells #[.pointer (some ⟨x,0,none⟩)] 114);have HB1:=Hi Ai;have LV:=Hi (AP w (.cells #[.pointer (some ⟨x,0,none⟩)] 114));have FR:=Hi (hl.below Ai);have Qj:=Hi (hx.below Ai);have hV:Hid (JE l=(s,0)):=Hi (by unfold JE;rw[hg]);have hR:Dw D L l=if L.n -1 -L.used < s.length / 64 then(D,L,4) else
  if(Bt (L.acts s) D).2=0 then((Bt (L.acts s) D).1,L.grown l (s.length / 64),0) else((Bt (L.acts s) D).1,L.fell (Bt (L.acts s) D).2,(Bt (L.acts s) D).2):=by
  unfold Dw;rw[Aa (by simp[hf]),hg]
 have CZ:s.length≤1000068:=by have:=zN l;rw[hV.out] at this;have h2:s.length≤rowLen l+68:=this;omega
 have g1:=hl.used;have g2:=hl.n;have Gx:=Hi (show l.length≤maxLen by unfold maxLen;omega);clear hd hl VE Ai hf hg hx;by_cases T9:L.n -1 -L.used < s.length / 64
 ·have HR:=Hi (hR.trans (Ac T9));have hq:(L.n:Int) -1 -(L.used:Int) < (s.length:Int) / 64:=by omega
  have e1:IntKind.i64.wrap ((L.n:Int) -1)=(L.n:Int) -1:=Eh _ (by omega);have e2:IntKind.i64.wrap ((L.n:Int) -1 -(L.used:Int))=(L.n:Int) -1 -(L.used:Int):=Eh _ (by omega);clear hR T9
  go_in
  go_wp2_with fail;refine(fI FR).mono ?_;rw[HF.out];rintro e w1⟨rfl,rfl⟩;go_wp2_with fail;refine(bK l a cap _ Qj Gx (by omega)).mono ?_;rw[hV.out];rintro e w1⟨rfl,hb⟩;have HB:=Hi hb;have c0:=Ii ((hb.block w.heap.size (Ao LV)).trans LV);have dC:w.heap.size < w1.heap.size:=I9 (Ao LV) hb.size;obtain⟨d0,d1,d2,d3,d4,d5,d6,df⟩:=(FR.below hb).cells;have IK:x < w1.heap.size:=I9 (FR.lt x (.inl rfl)) hb.size;clear hb df d6 d5;go_wp2
  go_quiet (fail)
  go_wp2;go_ret;exact tO HR rfl HD HL ((((HB1.trans (HB.mono (by rw[Ar];omega))).alloc (by omega) _).alloc (by rw[Ar];omega) _).trans (FM _ _ |>.mono (by rw[Ar,Ar];omega)))
 ·have YB:=Hi (hR.trans (Aa T9));have hq:(s.length:Int) / 64≤(L.n:Int) -1 -(L.used:Int):=by omega
  have e1:IntKind.i64.wrap ((L.n:Int) -1)=(L.n:Int) -1:=Eh _ (by omega);have e2:IntKind.i64.wrap ((L.n:Int) -1 -(L.used:Int))=(L.n:Int) -1 -(L.used:Int):=Eh _ (by omega);have aiE:((s.length / 64:Nat):Int)=(s.length:Int) / 64:=by omega
  have HK:=Hi aiE;have hkn:L.used+s.length / 64+1≤L.n:=by omega
  clear hR T9 aiE
  go_in
  go_wp2_with fail;refine(fI FR).mono ?_;rw[HF.out];rintro e w1⟨rfl,rfl⟩;go_wp2_with fail;refine(bK l a cap _ Qj Gx (by omega)).mono ?_;rw[hV.out];rintro e w1⟨rfl,hb⟩;have HB:=Hi hb;have c0:=Ii ((hb.block w.heap.size (Ao LV)).trans LV);have dC:w.heap.size < w1.heap.size:=I9 (Ao LV) hb.size;have LY:=Hi (FR.below hb);obtain⟨d0,d1,d2,d3,d4,d5,d6,df⟩:=LY.cells;have IK:x < w1.heap.size:=LY.lt x (.inl rfl);clear hb df d6 d5;go_wp2
  go_quiet (fail)
  go_wp2_with fail;have BJ:Q7 (((w1.alloc (.cells #[.string (bs s)] 9)).alloc (.cells #[.int .i64 ((s.length:Int) / 64)] 3)).drewN nq) x b gv L w.heap.size w1.heap.size (w1.heap.size+1) s (s.length / 64):=by
   rw[←HK.out];have ba:Bw w1 (w1.alloc (.cells #[.string (bs s)] 9)):=(Ah _ _).alloc (Ae _) _;have bb:Below (w1.alloc (.cells #[.string (bs s)] 9)).heap.size (w1.alloc (.cells #[.string (bs s)] 9)) ((w1.alloc (.cells #[.string (bs s)] 9)).alloc (.cells #[.int .i64 ((s.length / 64:Nat):Int)] 3)):=(Ah _ _).alloc (Ae _) _;have Ad:Bw w1 (((w1.alloc (.cells #[.string (bs s)] 9)).alloc (.cells #[.int .i64 ((s.length / 64:Nat):Int)] 3)).drewN nq):=(ba.trans (bb.mono (by rw[Ar];omega))).trans ((FM _ nq).mono (by rw[Ar,Ar];omega));have MX:=AP w1 (.cells #[.string (bs s)] 9);have IZ:=AP (w1.alloc (.cells #[.string (bs s)] 9)) (.cells #[.int .i64 ((s.length / 64:Nat):Int)] 3);rw[Ar] at IZ;exact⟨LY.below Ad,(Ad.block w.heap.size dC).trans ((HB.block w.heap.size (Ao LV)).trans LV),(bb.block w1.heap.size (by rw[Ar];omega)).trans MX,IZ⟩
  have CY:Bw w (((w1.alloc (.cells #[.string (bs s)] 9)).alloc (.cells #[.int .i64 ((s.length:Int) / 64)] 3)).drewN nq):=(((HB1.trans (HB.mono (by rw[Ar];omega))).alloc (by omega) _).alloc (by rw[Ar];omega) _).trans ((FM _ nq).mono (by rw[Ar,Ar];omega));have Et:w1.heap.size+1 < (((w1.alloc (.cells #[.string (bs s)] 9)).alloc (.cells #[.int .i64 ((s.length:Int) / 64)] 3)).drewN nq).heap.size:=by
   show w1.heap.size+1 < ((w1.alloc _).alloc _).heap.size
   rw[Ar,Ar];omega
  have EL:=Hi BJ;have CL:=Hi CY;clear d0 d1 d2 d3 d4 c0 BJ CY FR LY HB1 HB LV Qj hV e1 e2 hq;generalize (((w1.alloc (.cells #[.string (bs s)] 9)).alloc (.cells #[.int .i64 ((s.length:Int) / 64)] 3)).drewN nq)=W2 at*;generalize w1.heap.size=s0 at*;obtain⟨c0,_,c2,_,d1,d2,_⟩:=EL.cells;have PH:=fun(nq:Nat)=>afT (w:=(W2.alloc (.cells #[.func (.func 145) #[] #[.pointer (some ⟨w.heap.size,0,none⟩),.pointer (some ⟨s0,0,none⟩)],.func (.func 143) #[.pointer (some ⟨b,0,none⟩)] #[],.func (.func 146) #[] #[.pointer (some ⟨w.heap.size,0,none⟩),.pointer (some ⟨s0+1,0,none⟩)],.func (.func 143) #[.pointer (some ⟨b,0,none⟩)] #[]] 129)).drewN nq) (g:=W2.heap.size) (n:=4) (cap:=4)
   ((HD.below CL).below ((((Ah _ W2).alloc (Ae _) _).trans ((FM _ nq).mono (by rw[Ar];omega))))) (EL.DZ.below ((((Ah _ W2).alloc (Ae _) _).trans ((FM _ nq).mono (by rw[Ar];omega))))) (EL.below ((((Ah _ W2).alloc (Ae _) _).trans ((FM _ nq).mono (by rw[Ar];omega))))) (fun _ _ _ _ h hd hu=>h.upd hd hu) (as0 (by omega)) (fun i u hu=>(E8 W2 _ _ i).trans (by rw[←Dx];exact hu)) ⟨_,_,AP W2 _⟩ rfl (by decide) Hw
  obtain⟨E,k,hr⟩:∃ E k,Bt (L.acts s) D=(E,k):=⟨_,_,rfl⟩;have jh:Dw D L l=if k=0 then(E,L.grown l (s.length / 64),0) else(E,L.fell k,k):=by rw[YB.out,hr]
  simp only[hr] at PH;have Qc:=Hi PH;have FD:=Hi jh;have XT:x < w.heap.size:=HL.lt x (.inl rfl);have Zd:=HD.lt;have HFW:=Hi Zd;have vY:=Hi (show ¬ (fp w.heap.size∨w.heap.size=x) from fun hk=>hk.elim (fun h=>by have:=Zd _ h;omega) (fun e=>by omega));have gF:=Hi (show ¬ (fp (s0+1)∨s0+1=x) from fun hk=>hk.elim (fun h=>by have:=Zd _ h;omega) (fun e=>by omega));clear PH hr jh Zd
  go_region_held3 (fun V=>V.cell? ⟨w.heap.size,0,none⟩=some (.pointer (some ⟨x,0,none⟩))∧V.cell? ⟨x,2,none⟩=some (.pointer (some ⟨b,0,none⟩)))
   (first|exact⟨c0,d2⟩|exact⟨c3,O9.cells.2.2.1⟩|go_keep)
   (first
    |(go_at_call 148;refine(Qc 1).mono ?_;rintro e w3 ⟨rfl,bG,PG,GV,Dk,QH⟩;have XL:=(A7.of_below (F:=fun k=>fp k∨k=x) (((Ah _ W2).alloc (Ae _) _).trans ((FM _ 1).mono (by rw[Ar];omega)))).trans Dk (fun i hi=>.inl hi);have c3:w3.cell? ⟨w.heap.size,0,none⟩=some (.pointer (some ⟨x,0,none⟩)):=(XL.cell (p:=⟨w.heap.size,0,none⟩) (Ao EL.box) vY).trans EL.cells.1;have k3:w3.cell? ⟨s0+1,0,none⟩=some (.int .i64 ((s.length / 64:Nat):Int)):=(XL.cell (p:=⟨s0+1,0,none⟩) (Ao EL.num) gF).trans EL.cells.2.2.1;have O9:=Hi GV;have OZ:=Hi PG;have M5:=Hi XL;have Jy:=Hi QH;clear PG GV Dk QH XL))
  all_goals
   clear c0 c2 d1 d2;have Sv:=Hi k3;clear k3;by_cases h0:k=0
   ·subst h0;have HR:=Hi (FD.trans (Ac rfl));have GV:Cj w3 x b gv L:=(by have:=O9.out;rwa[Ac rfl] at this);obtain⟨_,d1,_,_,_,d5,_,df⟩:=GV.cells;have oI:=df 1;have SG:=df 5;have Vb:=Hi GV;have k3:=Sv.out;have e3:IntKind.i64.wrap ((L.used:Int)+((s.length / 64:Nat):Int))=(L.used:Int)+((s.length / 64:Nat):Int):=Eh _ (by omega);clear df GV;generalize s.length / 64=kk at*;go_wp2;go_region;all_goals
     go_wp2_with fail;have KQ:=(Vb.azv (L.used+kk) (by omega)).below ((Ah _ (w3.setCell ⟨x,1,none⟩ (.int .i64 ((L.used+kk:Nat):Int)))).drew);rw[Int.natCast_add] at KQ;have Ur:BI (w3.setCell ⟨x,1,none⟩ (.int .i64 ((L.used:Int)+(kk:Int)))).drew b E bG:=(OZ.upd (F:=fun i=>i=x) ((A7.refl (fun i=>i=x) w3).setCell (p:=⟨x,1,none⟩) (.inl rfl) _) (fun i hi e=>Vb.apart OZ (by rw[←e];exact hi))).below ((Ah _ _).drew);have c4:(w3.setCell ⟨x,1,none⟩ (.int .i64 ((L.used:Int)+(kk:Int)))).drew.cell? ⟨w.heap.size,0,none⟩=some (.pointer (some ⟨x,0,none⟩)):=by
      rw[←c3];exact World.cell?_setCell_far _ _ _ _ (by show x≠w.heap.size;omega)
     have OG:A7 (fun k=>fp k∨k=x) w (w3.setCell ⟨x,1,none⟩ (.int .i64 ((L.used:Int)+(kk:Int)))).drew:=(((A7.of_below (F:=fun k=>fp k∨k=x) CL).trans M5 (fun i hi=>.inl hi)).setCell (p:=⟨x,1,none⟩) (.inl (.inr rfl)) _).trans (A7.of_below (F:=fun k=>fp k∨k=x) ((Ah _ _).drew)) (fun i hi=>.inl hi);have GD:=HX.upd OG (fun p hp hne hk=>hk.elim (mJ p hp hne).1 (fun e=>(mJ p hp hne).2 (.inl e)));have Vd:=Hi KQ;have V5:=Hi Ur;have U4:=Hi OG;have YK:=Hi GD;clear KQ Ur OG GD c3 k3 d1 d5 oI SG;generalize (w3.setCell ⟨x,1,none⟩ (.int .i64 ((L.used:Int)+(kk:Int)))).drew=w4 at*;obtain⟨cs,Gi,Gz,KO,Md⟩:=Vd.groups;obtain⟨qg,cg,rfl⟩:=Bp Gi;have ay:=Hi Gi;have Q9:=Hi Gz;have Ww:=Hi KO;have vR:=Hi Md;obtain⟨_,_,_,_,_,d5,_,df⟩:=Vd.cells;have SG:=df 5;obtain⟨i0,Bg,AX,AY,Ba⟩:=DI acD;have hne:=Vd.ne;have IK:=Vd.lt x (.inl rfl);have RH:=U4.size;have ahS:w.heap.size < w4.heap.size:=D7 c4;have av1:(Value.slice qg L.groups.length cg).ownBlock≠some w.heap.size:=fun e=>by
      have:=HL.lt _ (.inr e);omega
     clear df Gi Gz KO Md;have Va:=Hi (fun(V:World) (hb:Bw w4 V)=>(⟨(hb.cell (p:=⟨w.heap.size,0,none⟩) (D7 c4)).trans c4,(hb.cell (p:=⟨x,5,none⟩) IK).trans d5⟩:(fun V:World=>V.cell? ⟨w.heap.size,0,none⟩=some (.pointer (some ⟨x,0,none⟩))∧V.cell? ⟨x,5,none⟩=some (.slice qg L.groups.length cg)) V));have Yu:=Hi (Cr d5 SG);have B1:=Hi (show Bw w4 w4.drew from(Ah _ _).drew);clear c4 d5 SG;refine aBq (z:=11) (S:=(fun V:World=>V.cell? ⟨w.heap.size,0,none⟩=some (.pointer (some ⟨x,0,none⟩))∧V.cell? ⟨x,5,none⟩=some (.slice qg L.groups.length cg))) (by kernel_rfl) ?_;refine fK (i:=0) (oi:=⟨some 71,.load 114 (.tmp 2),114,"wal.go:149",#[],none⟩) (v:=?_) rfl (by kernel_rfl) (by kernel_rfl) (by kernel_rfl) (by kernel_rfl) (fun _ _ _ h=>h) (Or.inl ⟨by rfl,?_⟩) (Va _ B1) ?_
     rotate_left
     ·intro V hV;try dsimp only at hV
      go_simp;all_goals with_reducible rfl
     try simp only[Act.put,np]
     refine fK (i:=1) (oi:=⟨some 72,.load 114 (.tmp 2),114,"wal.go:149",#[],none⟩) (v:=?_) rfl (by kernel_rfl) (by kernel_rfl) (by kernel_rfl) (by kernel_rfl) (fun _ _ _ h=>h) (Or.inl ⟨by rfl,?_⟩) (Va _ B1) ?_
     rotate_left
     ·intro V hV;try dsimp only at hV
      go_simp;all_goals with_reducible rfl
     try simp only[Act.put,np]
     refine fK (i:=2) (oi:=⟨some 73,.nilCheck (.tmp 72),0,"wal.go:149",#[⟨1,.data⟩],none⟩) (v:=?_) rfl (by kernel_rfl) (by kernel_rfl) (by kernel_rfl) (by kernel_rfl) (fun _ _ _ h=>h) (Or.inl ⟨by rfl,?_⟩) (Va _ B1) ?_
     rotate_left
     ·intro V hV;try dsimp only at hV
      go_simp;all_goals with_reducible rfl
     try simp only[Act.put,np]
     refine fK (i:=3) (oi:=⟨some 74,.fieldAddr 224 (.tmp 73) 4,0,"wal.go:149",#[⟨2,.data⟩],none⟩) (v:=?_) rfl (by kernel_rfl) (by kernel_rfl) (by kernel_rfl) (by kernel_rfl) (fun _ _ _ h=>h) (Or.inl ⟨by rfl,?_⟩) (Va _ B1) ?_
     rotate_left
     ·intro V hV;try dsimp only at hV
      go_simp;all_goals with_reducible rfl
     try simp only[Act.put,np]
     refine fK (i:=4) (oi:=⟨some 75,.load 155 (.tmp 74),155,"wal.go:149",#[⟨3,.data⟩],none⟩) (v:=?_) rfl (by kernel_rfl) (by kernel_rfl) (by kernel_rfl) (by kernel_rfl) (fun _ _ _ h=>h) (Or.inl ⟨by rfl,?_⟩) (Va _ B1) ?_
     rotate_left
     ·intro V hV;try dsimp only at hV
      go_simp;all_goals with_reducible rfl
     try simp only[Act.put,np]
     refine fK (i:=5) (oi:=⟨some 76,.move (.tmp 1),61,"wal.go:149",#[],none⟩) (v:=?_) rfl (by kernel_rfl) (by kernel_rfl) (by kernel_rfl) (by kernel_rfl) (fun _ _ _ h=>h) (Or.inl ⟨by rfl,?_⟩) (Va _ B1) ?_
     rotate_left
     ·intro V hV;try dsimp only at hV
      go_simp;all_goals with_reducible rfl
     try simp only[Act.put,np]
     refine fJ (i:=6) (o:=⟨some 77,.call ⟨.value (.func 149),#[.tmp 76],#[61]⟩,61,"wal.go:149",#[⟨5,.data⟩],none⟩) (by kernel_rfl) rfl (fun K1 Il=>?_);go_simp
     go_at_call 149
     refine(an2 w4.drew a cap l (YK.below (Ah _ w4).drew) (by omega)).mono ?_;rintro e w5⟨lv,rfl,XH,Bo,dF⟩;have B5:=Hi (B1.trans (Bo.mono (Ae _)));obtain⟨ql,cl,rfl⟩:=Bp XH;have M3:=Hi (JA.D9 XH);have aom:=Hi (BH ay (ub B5) (fun _ _ f=>f));have aI:=Hi (Vd.below B5);have aon:=Hi (fun i (h:i < L.groups.length) (h':i < cs.length)=>(vR i h h').upd (ub B5) (fun _ _ f=>f));clear XH Bo dF;go_simp;refine Il _ _ (fun _=>Va _ B5) ?_;try simp only[Act.put,np]
     refine fJ (i:=7) (o:=⟨some 78,.buildSlice 155 1 #[(0,.tmp 77)],155,"wal.go:149",#[⟨6,.data⟩],none⟩) (by kernel_rfl) rfl (fun K2 Df=>?_);go_simp;refine Df _ _ (fun _=>Va _ (B5.alloc B5.size _)) ?_;try simp only[Act.put,np]
     refine fJ (i:=8) (o:=⟨some 79,.call ⟨.builtin .append,#[.tmp 75,.tmp 78],#[155,155]⟩,155,"wal.go:149",#[⟨4,.data⟩,⟨7,.data⟩,⟨6,.chain⟩],none⟩) (by kernel_rfl) rfl (fun K3 Pw=>?_);refine step_append_lies _ (by rfl) _ _ _ (by rfl) 0 61 i0 _ 1 24 underlying155 Bg AX AY Ba (by rfl) (by omega) (.slice qg L.groups.length cg) L.groups.length cs (by rfl) (aom.alloc _) ⟨w5.heap.size,0,none⟩ 1 1 [.slice ql l.length cl] (by rfl) (by rfl) (World.news_of_block (cs:=#[.slice ql l.length cl]) (t:=61) (fr:=(0,0)) (AP w5 _)) (fun u hu=>by rw[FC] at hu;subst hu;exact M3.one) (by omega) (by unfold maxLen;omega) (by omega) (AZ _) _ (by rfl) ?_;intro gg cap2 w6 ajd AJ hat auP;have aaP:=aI.ne;have jD:=(AJ.cell_far ⟨x,5,none⟩ (I9 IK (Ay B5.size (by rw[Ar];omega))) (Ne.symm aaP)).trans (((B5.alloc B5.size (.cells #[.slice ql l.length cl] 61)).cell (p:=⟨x,5,none⟩) IK).trans Yu.1);have hf6:=(AJ.frozen_far ⟨x,5,none⟩ (I9 IK (Ay B5.size (by rw[Ar];omega))) (Ne.symm aaP)).trans (((B5.alloc B5.size (.cells #[.slice ql l.length cl] 61)).frozen (p:=⟨x,5,none⟩) IK).trans Yu.2);have ahM:=(AJ.cell_far ⟨w.heap.size,0,none⟩ (I9 ahS (Ay B5.size (by rw[Ar];omega))) (Ne.symm av1)).trans (((B5.alloc B5.size (.cells #[.slice ql l.length cl] 61)).cell (p:=⟨w.heap.size,0,none⟩) ahS).trans (Va _ (Ah _ _)).1);have ig:=Hi (Cr ahM jD);have ny:=Hi (aI.pushed M3 Q9 Ww aon ((Ah w5.heap.size w5).alloc (Ae _) _) AJ ajd (hat.imp (fun h=>h.symm) (fun h=>by rw[h];rfl)));clear AJ ajd hat auP aaP ahM
     refine Pw _ _ (fun _=>ig.out) ?_;try simp only[Act.put,np]
     refine fJ (i:=9) (o:=⟨some 80,.nilCheck (.tmp 71),0,"wal.go:149",#[⟨0,.data⟩,⟨0,.phase⟩,⟨1,.phase⟩,⟨2,.phase⟩,⟨3,.phase⟩,⟨4,.phase⟩,⟨5,.phase⟩,⟨6,.phase⟩,⟨7,.phase⟩,⟨8,.phase⟩],none⟩) (by kernel_rfl) rfl (fun K4 jd=>?_);go_simp;refine jd _ _ (fun _=>ig.out) ?_;try simp only[Act.put,np]
     refine fJ (i:=10) (o:=⟨some 81,.fieldAddr 224 (.tmp 80) 4,0,"wal.go:149",#[⟨9,.data⟩,⟨0,.phase⟩,⟨1,.phase⟩,⟨2,.phase⟩,⟨3,.phase⟩,⟨4,.phase⟩,⟨5,.phase⟩,⟨6,.phase⟩,⟨7,.phase⟩,⟨8,.phase⟩],none⟩) (by kernel_rfl) rfl (fun K5 je=>?_);go_simp;refine je _ _ (fun _=>ig.out) ?_;try simp only[Act.put,np]
     refine fJ (i:=11) (o:=⟨none,.store 155 (.tmp 81) (.tmp 79),0,"wal.go:149",#[⟨10,.data⟩,⟨8,.data⟩,⟨8,.chain⟩,⟨0,.phase⟩,⟨1,.phase⟩,⟨2,.phase⟩,⟨3,.phase⟩,⟨4,.phase⟩,⟨5,.phase⟩,⟨6,.phase⟩,⟨7,.phase⟩,⟨8,.phase⟩],none⟩) (by kernel_rfl) rfl (fun K6 hK6=>?_);go_simp;refine hK6 _ _ (fun h=>absurd rfl h) ?_;try simp only[Act.put,np]
     refine aBo (by kernel_rfl) ?_ _;clear Il Df Pw jd je hK6 K1 K2 K3 K4 K5 K6;go_wp2;go_ret;have rU:=B5.size;refine tN HR rfl (BI.upd (V5.below B5) ny.2.1 (fun k hk=>aI.apG (V5.below B5) k hk)) ny.1 ?_ ?_ ?_
     ·exact((U4.mono (fun i hi=>hi.elim .inl (fun e=>.inr (.inl e)))).trans (A7.of_below (F:=fun k=>fp k∨BP x (.slice qg L.groups.length cg) k) B5) (fun i hi=>.inl hi)).trans ny.2.1 (fun i hi=>.inl (.inr hi))
     ·intro i hi;rcases Jy i hi with h|h
      ·exact .inl h
      ·exact .inr (Ay CL.size (Ay (by show W2.heap.size≤(W2.alloc _).heap.size;rw[Ar];omega) h))
     ·intro i hi;rcases ny.2.2 i hi with h|h
      ·exact .inl h
      ·exact .inr (Ay RH (Ay rU h))
   ·have Ai:(k != 0)=true:=(by simp[h0]);have HR:=Hi (FD.trans (Aa h0));have Vb:Hid (Cj w3 x b gv (L.fell k)):=Hi (by have:=O9.out;rwa[Aa h0] at this);clear h0;go_wp2;go_ret;refine tN HR rfl OZ Vb.out ?_ ?_ (fun _ h=>.inl h)
    ·exact((A7.of_below (F:=fun k=>fp k∨BP x gv k) CL).trans M5 (fun i hi=>.inl (hi.elim .inl (fun e=>.inr (.inl e)))))
    ·intro i hi;rcases Jy i hi with h|h
     ·exact .inl h
     ·exact .inr (Ay CL.size (Ay (by show W2.heap.size≤(W2.alloc _).heap.size;rw[Ar];omega) h))
theorem apI(hd:BI w b D fp)(hl:Cj w x b gv L)(hx:Dv w a l)(VE:∀ p,a=some p→l≠[]→¬ fp p.block∧¬ BP x gv p.block)(hlen:l.length≤1000000)(DC:rowLen l≤1000000)(Hw:D.loose.length≤400000000)(Oy:L.groups.length≤1000000):
  Calls prog 65 #[.pointer (some ⟨x,0,none⟩),.slice a l.length cap] w fun e w'=>YP w x b gv fp (Dw D L l) e w':=by
 by_cases hf:L.fault=0
 ·cases hg:Hu l with
  |none=>exact aeX hd hl hx (by unfold maxLen;omega) DC (.inr hg)
  |some s=>exact apK hd hl hx VE hlen DC hf hg Hw Oy
 ·exact aeX hd hl hx (by unfold maxLen;omega) DC (.inl hf)
theorem Cj.azs{w:World}{x b:Nat}{gv:Value}{L:Bz}(h:Cj w x b gv L)(g:Nat)(hg:g < 18446744073709551616):Cj (((w.setCell ⟨x,0,none⟩ (.int .u64 (g:Int))).setCell ⟨x,1,none⟩ (.int .i64 0)).setCell ⟨x,5,none⟩ (.slice none 0 0)) x b (.slice none 0 0) { L with gen:=g,used:=0,groups:=[] }:=by
 have e1:=Cf w x 0 _ _ (.int .u64 (g:Int)) h.struct;have e2:=Cf _ x 1 _ _ (.int .i64 0) e1;have e3:=Cf _ x 5 _ _ (.slice none 0 0) e2;exact⟨e3,Kv.none _,hg,by have:=h.used;show 0+1≤L.n;omega,h.n⟩
theorem am2(hd:BI w b D fp)(hl:Cj w x b gv L)(Hw:D.loose.length≤400000000):
  Calls prog 83 #[.pointer (some ⟨x,0,none⟩)] w fun e w'=>YP w x b gv fp (DR D L) e w':=by
 have HD:=Hi hd;have HL:=Hi hl;have Ai:=(Ah w.heap.size w).alloc (Ae _) (.cells #[.pointer (some ⟨x,0,none⟩)] 114);have HB1:=Hi Ai;have FR:=Hi (hl.below Ai);by_cases hf:L.fault=0
 ·have HF:=Hi hf;have YY:DR D L=if(Bt L.LB D).2=0 then((Bt L.LB D).1,L.Ud,0) else((Bt L.LB D).1,L.fell (Bt L.LB D).2,(Bt L.LB D).2):=by
   unfold DR;rw[Aa (by simp[hf])]
  have XT:x < w.heap.size:=hl.lt x (.inl rfl);have Zd:=hd.lt;have vY:=Hi (show ¬ (fp w.heap.size∨w.heap.size=x) from fun hk=>hk.elim (fun h=>by have:=Zd _ h;omega) (fun e=>by omega));obtain⟨E,k,hr⟩:∃ E k,Bt L.LB D=(E,k):=⟨_,_,rfl⟩;have jh:DR D L=if k=0 then(E,L.Ud,0) else(E,L.fell k,k):=by rw[YY,hr]
  have BJ:=SF.of (hl.below Ai) (AP w (.cells #[.pointer (some ⟨x,0,none⟩)] 114));have PH:=fun(nq:Nat)=>afT (w:=((w.alloc (.cells #[.pointer (some ⟨x,0,none⟩)] 114)).alloc (.cells #[.func (.func 166) #[] #[.pointer (some ⟨w.heap.size,0,none⟩)],.func (.func 143) #[.pointer (some ⟨b,0,none⟩)] #[]] 129)).drewN nq) (g:=(w.alloc (.cells #[.pointer (some ⟨x,0,none⟩)] 114)).heap.size) (n:=2) (cap:=2)
   ((hd.below Ai).below ((((Ah _ _).alloc (Ae _) _).trans ((FM _ nq).mono (by simp only[Ar];omega))))) (BJ.DZ.below ((((Ah _ _).alloc (Ae _) _).trans ((FM _ nq).mono (by simp only[Ar];omega))))) (BJ.below ((((Ah _ _).alloc (Ae _) _).trans ((FM _ nq).mono (by simp only[Ar];omega))))) (fun _ _ _ _ h hd hu=>h.upd hd hu) as2 (fun i u hu=>(E8 _ _ _ i).trans (by rw[←Dx];exact hu)) ⟨_,_,AP _ _⟩ rfl (by decide) Hw
  simp only[hr] at PH;rw[Ar] at PH;have Qc:=Hi PH;have FD:=Hi jh;have EL:=Hi BJ;have c0:=Ii BJ.box;have d2:=BJ.DZ.cells.2.2.1;clear hd hl Ai hf YY Zd hr jh BJ PH
  go_in
  go_wp2_with fail;refine(fI FR).mono ?_;rw[HF.out];rintro e w1⟨rfl,rfl⟩;go_wp2
  go_region_held3 (fun V=>V.cell? ⟨w.heap.size,0,none⟩=some (.pointer (some ⟨x,0,none⟩))∧V.cell? ⟨x,2,none⟩=some (.pointer (some ⟨b,0,none⟩)))
   (first|exact⟨c0,d2⟩|exact⟨c3,O9.cells.2.2.1⟩|go_keep)
   (first
    |(go_at_call 148;refine(Qc 1).mono ?_;rintro e w3 ⟨rfl,bG,PG,GV,Dk,QH⟩;have XL:=(A7.of_below (F:=fun k=>fp k∨k=x) (((Ah _ (w.alloc (.cells #[.pointer (some ⟨x,0,none⟩)] 114))).alloc (Ae _) _).trans ((FM _ 1).mono (by simp only[Ar];omega)))).trans Dk (fun i hi=>.inl hi);have c3:w3.cell? ⟨w.heap.size,0,none⟩=some (.pointer (some ⟨x,0,none⟩)):=(XL.cell (p:=⟨w.heap.size,0,none⟩) (Ao EL.box) vY).trans c0;have O9:=Hi GV;have OZ:=Hi PG;have M5:=Hi ((A7.of_below (F:=fun k=>fp k∨k=x) HB1).trans XL (fun i hi=>.inl hi));have Jy:=Hi QH;clear PG GV Dk QH XL))
  all_goals
   clear c0 d2;have Bl:Di fp bG w:=fun i hi=>by
    rcases Jy i hi with h|h
    ·exact .inl h
    ·exact .inr (Ay (by show w.heap.size≤((w.alloc _).alloc _).heap.size;rw[Ar,Ar];omega) h)
   have Bi:=Hi Bl;clear Bl;by_cases h0:k=0
   ·subst h0;have HR:=Hi (FD.trans (Ac rfl));have GV:Cj w3 x b gv L:=(by have:=O9.out;rwa[Ac rfl] at this);obtain⟨d0,d1,_,_,_,d5,_,df⟩:=GV.cells;have df0:=df 0;have oI:=df 1;have SG:=df 5;have Vb:=Hi GV;have e3:=ad2 L.gen;have Jl:(L.gen+1) % 18446744073709551616 < 18446744073709551616:=Nat.mod_lt _ (by decide);have HGM:=Hi (Cr Jl (show L.Ud={ L with gen:=(L.gen+1) % 18446744073709551616,used:=0,groups:=[] } from rfl));clear df GV Jl;generalize (L.gen+1) % 18446744073709551616=g at*;go_wp2;go_region;all_goals
     go_wp2;go_ret;have Lx:A7 (fun i=>i=x) w3 (((w3.setCell ⟨x,0,none⟩ (.int .u64 (g:Int))).setCell ⟨x,1,none⟩ (.int .i64 0)).setCell ⟨x,5,none⟩ (.slice none 0 0)).drew:=((((A7.refl (fun i=>i=x) w3).setCell (p:=⟨x,0,none⟩) (.inl rfl) _).setCell (p:=⟨x,1,none⟩) (.inl rfl) _).setCell (p:=⟨x,5,none⟩) (.inl rfl) _).trans (A7.of_below (F:=fun i=>i=x) ((Ah _ _).drew)) (fun i hi=>.inl hi);refine tN HR rfl (OZ.upd Lx (fun i hi e=>Vb.apart OZ (by rw[←e];exact hi))) (L:=L.Ud) (Fg:=.slice none 0 0) (by rw[HGM.2];exact(Vb.azs g HGM.1).below ((Ah _ _).drew)) ?_ Bi.out ?_
     ·exact(M5.mono (fun i hi=>hi.elim .inl (fun e=>.inr (.inl e)))).trans Lx (fun i hi=>.inl (.inr (.inl hi)))
     ·rintro i (hi|hi)
      ·exact .inl (.inl hi)
      ·simp[Value.ownBlock] at hi
   ·have Ai:(k != 0)=true:=(by simp[h0]);have HR:=Hi (FD.trans (Aa h0));have Vb:Hid (Cj w3 x b gv (L.fell k)):=Hi (by have:=O9.out;rwa[Aa h0] at this);clear h0;go_wp2;go_ret;exact tN HR rfl OZ Vb (M5.mono (fun i hi=>hi.elim .inl (fun e=>.inr (.inl e)))) Bi (fun _ h=>.inl h)
 ·have hR:Hid (DR D L=(D,L,L.fault)):=Hi (by unfold DR;rw[Ac hf]);have Bb:(L.fault == 0)=false:=by simp[hf]
  have Ad:(L.fault != 0)=true:=by simp[hf]
  clear hd hl Ai hf
  go_in
  go_wp2_with fail;refine(fI FR).mono ?_;rintro e w1⟨rfl,rfl⟩;go_wp2;go_ret;exact tO hR.out rfl HD HL HB1.out
