/- WalOps2 -/
import Derived.OrdersHeld
import Derived.RegionTactic
import Derived.Test.YtmbbhdebddbhoaaGreatQ14
set_option maxHeartbeats 4000000
set_option maxRecDepth 100000
set_option linter.all false
namespace Go.Proofs.YtmbbhdebddbhoaaGreat
open Tryz
section
section
variable {P:Program}{ops:Array Oper}{Q:Exit→Act→World→Prop}{md:Region.Mode}{S:World→Prop}{z:Nat}
def Ol(P:Program)(md:Region.Mode)(ops:Array Oper)(Q:Exit→Act→World→Prop)(S:World→Prop)(z:Nat):Nat→Array Bool→Act→World→Prop
 |0,listed,a,w=>Region.ready md ops listed=[]∧Q .normal a w
 |fuel+1,listed,a,w=>(Region.ready md ops listed=[]→Q .normal a w)∧
  ∀ i∈Region.ready md ops listed,wpOp P ops Q i (fun a' w'=>(i≠z→S w')∧Ol P md ops Q S z fuel (listed.setIfInBounds i true) a' w') a w
theorem xM:∀ (fuel:Nat) (listed:Array Bool) (a:Act) (w:World),Ol P md ops Q S z fuel listed a w→wpAny P md ops Q fuel listed a w
 |0,_,_,_,h=>h
 |fuel+1,_,_,_,h=>⟨h.1,fun i hi=>wpOp_mono (fun a' w' h'=>xM fuel _ a' w' h'.2) (h.2 i hi)⟩
def waits(md:Region.Mode)(ops:Array Oper)(z i:Nat):Bool:=match ops[z]? with
 |none=>false
 |some o=>o.after.any fun e=>Region.binds md e && e.on == i
theorem aio{i:Nat}{o:Oper}(h:waits md ops z i=true)(ho:ops[z]?=some o)(hn:∀ e∈o.after,Region.binds md e=true→e.on≠i):False:=by
 unfold waits at h;rw[ho] at h;obtain⟨e,he,hb⟩:=Array.any_eq_true'.1 h;simp only[Bool.and_eq_true,beq_iff_eq] at hb;exact hn e he hb.1 hb.2
theorem xN{i:Nat}{oi:Oper}{v:Value}(hi:ops[i]?=some oi)(hz:waits md ops z i=true)(azS:∀ (j:Nat) (o:Oper) cs b,ops[j]?=some o→o.op≠.select cs b)
  (hQ:∀ c a w,Q (.panic c) (a.put oi.dst v) w→Q (.panic c) a w):
  ∀ (fuel:Nat) (listed:Array Bool) (a:Act) (w:World),
   (∀ j oj,ops[j]?=some oj→j≠i→listed.getD j true=false→(∀ e∈oj.after,Region.binds md e=true→e.on≠i)→oi.apart ops oj=true)→
   i∈Region.ready md ops listed→YieldsIf P ops S oi v a→S w→
   Ol P md ops Q S z fuel (listed.setIfInBounds i true) (a.put oi.dst v) w→Ol P md ops Q S z (fuel+1) listed a w
 |fuel,listed,a,w=>fun aAB hr hy hS H=>by
  refine⟨fun h=>(by rw[h] at hr;cases hr),fun j hj=>?_⟩;by_cases hji:j=i
  ·subst hji;exact hy.wpOp hi hS ⟨fun _=>hS,H⟩
  ·obtain⟨aAM,oj,hoj,asD⟩:=mem_ready.1 hj;have aAY:∀ e∈oj.after,Region.binds md e=true→e.on≠i:=fun e he hb heq=>by
    have h1:=asD e he hb;have h0:=(mem_ready.1 hr).1;rw[heq] at h1;rcases Nat.lt_or_ge i listed.size with h'|h'
    ·simp[h'] at h0 h1;rw[h0] at h1;cases h1
    ·simp[Array.getElem?_eq_none h'] at h1
   have hjz:j≠z:=fun e=>by subst e;exact aio hz hoj aAY
   cases fuel with
   |zero=>
    have h2:=ready_mono hj hji;rw[H.1] at h2;cases h2
   |succ fuel=>
    have h2:=wpOp_putIf hoj (aAB j oj hoj hji aAM aAY) (fun cs b=>azS i oi cs b hi) (fun cs b=>azS j oj cs b hoj) hQ hy (H.2 j (ready_mono hj hji));refine wpOp_mono (fun a' w' h3=>⟨h3.2.1,xN hi hz azS hQ fuel (listed.setIfInBounds j true) a' w' (fun k ok hk hki hun hno=>?_) (ready_mono hr (Ne.symm hji)) h3.1 (h3.2.1 hjz) ?_⟩) h2
    ·refine aAB k ok hk hki ?_ hno;by_cases hjk:j=k
     ·subst hjk;exact aAM
     ·rw[getD_set_ne true hjk] at hun;exact hun
    ·rw[Array.setIfInBounds_comm _ _ hji];exact h3.2.2
theorem UF{i:Nat}{oi:Oper}{v:Value}{fuel:Nat}{listed:Array Bool}{a:Act}{w:World}(hi:ops[i]?=some oi)(hz:waits md ops z i=true)
  (hs:Region.noSelect ops=true)(hf:Region.free md ops listed i=true)(hr:(Region.ready md ops listed).contains i=true)
  (hQ:∀ c a w,Q (.panic c) (a.put oi.dst v) w→Q (.panic c) a w)(hy:YieldsIf P ops S oi v a)(hS:S w)
  (h:Ol P md ops Q S z fuel (listed.setIfInBounds i true) (a.put oi.dst v) w):Ol P md ops Q S z (fuel+1) listed a w:=
 xN hi hz (Region.noSelect_spec hs) hQ fuel listed a w (Region.free_spec hi hf) (by simpa using hr) hy hS h
theorem UG{i:Nat}{o:Oper}{fuel:Nat}{listed:Array Bool}{a:Act}{w:World}(hr:Region.ready md ops listed=[i])(ho:ops[i]?=some o)
  (h:∀ K':Act→World→Prop,Shut (∀ a w,(i≠z→S w)→Ol P md ops Q S z fuel (listed.setIfInBounds i true) a w→K' a w)→if Region.wanted o (yielded ops a.tmps)=true then Oper.wp P o a w K' Q else K' (a.put o.dst undef) w):
  Ol P md ops Q S z (fuel+1) listed a w:=
 ⟨fun h0=>(by rw[hr] at h0;cases h0),fun j hj=>by
  rw[hr,DT] at hj;subst hj;exact wpOp_step ho (fun K' hK=>h K' (fun a w hS hW=>hK a w ⟨hS,hW⟩))⟩
theorem aip{listed:Array Bool}{a:Act}{w:World}(hr:Region.ready md ops listed=[])(h:Q .normal a w):∀ fuel,Ol P md ops Q S z fuel listed a w
 |0=>⟨hr,h⟩
 |_+1=>⟨fun _=>h,by rw[hr];simp⟩
theorem aiq{id:Nat}{a:Act}{w:World}(hm:P.follows .mixedOrders=true)(h:Ol P .any ops Q S z ops.size (Array.replicate ops.size false) a w.drew):(Code.region id ops true).wp P Q a w:=
 wp_region_any hm (xM _ _ _ _ h)
end
end
section
open Go.RowKit Go.Maps
open Wal
def Sy(w:World)(x b:Nat)(gv:Value)(fp:Nat→Prop)(r:Dsk×AO×Int)(e:Ending)(w':World):Prop:=
 e=.returned (.int .i64 r.2.2)∧∃ fp' Dz,AU w' b r.1 fp'∧Bq w' x b Dz r.2.1∧A7 (fun k=>fp k∨Ba x gv k) w w'∧Cg fp fp' w∧Cg (Ba x gv) (Ba x Dz) w
theorem ZR{w w':World}{x b:Nat}{gv:Value}{fp:Nat→Prop}{D:Dsk}{L:AO}{k:Int}{r:Dsk×AO×Int}{e:Ending}(hr:r=(D,L,k))(he:e=.returned (.int .i64 k))(hd:AU w b D fp)(hl:Bq w x b gv L)(hb:Bw w w'):Sy w x b gv fp r e w':=by
 subst hr;exact⟨he,fp,gv,hd.below hb,hl.below hb,A7.of_below hb,fun _ h=>.inl h,fun _ h=>.inl h⟩
theorem ZT{w w':World}{x b:Nat}{gv Dz:Value}{fp fp':Nat→Prop}{D:Dsk}{L:AO}{k:Int}{r:Dsk×AO×Int}{e:Ending}(hr:r=(D,L,k))(he:e=.returned (.int .i64 k))(hd:AU w' b D fp')(hl:Bq w' x b Dz L)(hu:A7 (fun k=>fp k∨Ba x gv k) w w')(hs:Cg fp fp' w)(hs2:Cg (Ba x gv) (Ba x Dz) w):Sy w x b gv fp r e w':=by
 subst hr;exact⟨he,fp',Dz,hd,hl,hu,hs,hs2⟩
theorem BB.upd{F:Nat→Prop}{w w':World}{a:Option Addr}{l:List (List UInt8)}(h:BB w a l)(hu:A7 F w w')(hF:∀ p,a=some p→l≠[]→¬ F p.block):BB w' a l:=fun i hi=>by
 obtain⟨p,rfl,hc⟩:=h i hi;have e:(p.add i).block=p.block:=by unfold Addr.add;split<;>rfl
 exact⟨p,rfl,(hu.cell (p:=p.add i) (Bz hc) (by rw[e];exact hF p rfl (fun e=>by subst e;simp at hi))).trans hc⟩
theorem Bq.air{w:World}{x b:Nat}{gv:Value}{L:AO}(h:Bq w x b gv L){b':Nat}{D:Dsk}{fp:Nat→Prop}(hd:AU w b' D fp)(k:Nat)(hk:fp k):¬ Ba x gv k:=by
 rintro(rfl|hg)
 ·exact h.apart hd hk
 ·obtain⟨cs,h1,_⟩:=h.groups;have:=hd.kindOf hk (Bi h1 hg)
  revert this;decide
theorem Bq.ais{w:World}{x b:Nat}{gv:Value}{L:AO}(h:Bq w x b gv L)(u:Nat)(hu:u+1≤L.n):Bq (w.setCell ⟨x,1,none⟩ (.int .i64 (u:Int))) x b gv { L with used:=u }:=by
 have hu':A7 (fun i=>i=x) w (w.setCell ⟨x,1,none⟩ (.int .i64 (u:Int))):=(A7.refl (fun i=>i=x) w).setCell (p:=⟨x,1,none⟩) (.inl rfl) _;refine⟨Bh w x 1 _ _ _ h.struct,h.groups.upd hu' (fun i hi e=>by subst e;exact Ap.ne hi ⟨_,_,h.struct⟩ (by decide) rfl) (fun g hg e=>h.ne (by rw[hg,e])),h.gen,hu,h.n⟩
section
variable {w:World}{x b:Nat}{gv:Value}{L:AO}{D:Dsk}{fp:Nat→Prop}{l:List (List UInt8)}{a:Option Addr}{cap:Nat}
theorem xO(hd:AU w b D fp)(hl:Bq w x b gv L)(hx:BB w a l)(hlen:l.length≤maxLen)(asV:rowLen l≤1000000)(av2:L.fault≠0∨EU l=none):
  Calls prog 103 #[.pointer (some ⟨x,0,none⟩),.slice a l.length cap] w fun e w'=>Sy w x b gv fp (wappend D L l) e w':=by
 have HD:=Hi hd;have HL:=Hi hl;have atv:=Hi hlen;have hb1:=(Ad w.heap.size w).alloc (Ab _) (.cells #[.pointer (some ⟨x,0,none⟩)] 111);have HB1:=Hi hb1;have EA:=Hi (hl.below hb1);have Kt:=Hi (hx.below hb1);by_cases hf:L.fault=0
 ·have hg:EU l=none:=av2.resolve_left (fun h=>h hf);have hR:Hid (wappend D L l=(D,L,5)):=Hi (by unfold wappend;rw[Aa (by simp[hf]),hg]);have hV:Hid (Gi l=([],5)):=Hi (by unfold Gi;rw[hg]);have HF:=Hi hf;clear hd hl hx hlen av2 hb1 hf hg;go_enter func103,ntmps103;go_wp2_with fail;refine(Uw EA).mono ?_;rw[HF.out];rintro e w1⟨rfl,rfl⟩;go_wp2_with fail;refine(Ut l a cap _ Kt atv (by omega)).mono ?_;rw[hV.out];rintro e w1⟨rfl,hb⟩;have HB:=Hi hb;clear hb;go_wp2_with fail;go_ret;exact ZR hR.out rfl HD HL ((HB1.trans (HB.mono (by rw[Ai];omega))).alloc (Ah (HB1.size) HB.size) _)
 ·have hR:Hid (wappend D L l=(D,L,L.fault)):=Hi (by unfold wappend;rw[Ac hf]);have hb0:(L.fault == 0)=false:=by simp[hf]
  have hb2:(L.fault != 0)=true:=by simp[hf]
  clear hd hl hx hlen av2 hb1 hf;go_enter func103,ntmps103;go_wp2_with fail;refine(Uw EA).mono ?_;rintro e w1⟨rfl,rfl⟩;go_wp2_with fail;go_ret;exact ZR hR.out rfl HD HL HB1.out
theorem ait(hd:AU w b D fp)(hl:Bq w x b gv L)(hx:BB w a l)(hap:∀ p,a=some p→l≠[]→¬ fp p.block∧¬ Ba x gv p.block)(hlen:l.length≤1000000)(asV:rowLen l≤1000000)(hf:L.fault=0){s:List UInt8}(hg:EU l=some s)(EX:D.loose.length≤400000000)(hgl:L.groups.length≤1000000):
  Calls prog 103 #[.pointer (some ⟨x,0,none⟩),.slice a l.length cap] w fun e w'=>Sy w x b gv fp (wappend D L l) e w':=by
 have HD:=Hi hd;have HL:=Hi hl;have ZU:=Hi hap;have HF:=Hi hf;have HX:=Hi hx;have hb1:=(Ad w.heap.size w).alloc (Ab _) (.cells #[.pointer (some ⟨x,0,none⟩)] 111);have HB1:=Hi hb1;have Io:=Hi (Aq w (.cells #[.pointer (some ⟨x,0,none⟩)] 111));have EA:=Hi (hl.below hb1);have Kt:=Hi (hx.below hb1);have hV:Hid (Gi l=(s,0)):=Hi (by unfold Gi;rw[hg]);have hR:wappend D L l=if L.n -1 -L.used < s.length / 64 then(D,L,4) else
  if(doS (L.acts s) D).2=0 then((doS (L.acts s) D).1,L.grown l (s.length / 64),0) else((doS (L.acts s) D).1,L.fell (doS (L.acts s) D).2,(doS (L.acts s) D).2):=by
  unfold wappend;rw[Aa (by simp[hf]),hg]
 have hsl:s.length≤1000068:=by have:=iP l;rw[hV.out] at this;have h2:s.length≤rowLen l+68:=this;omega
 have g1:=hl.used;have g2:=hl.n;have atv:=Hi (show l.length≤maxLen by unfold maxLen;omega);clear hd hl hap hb1 hf hg hx;by_cases aw8:L.n -1 -L.used < s.length / 64
 ·have HR:=Hi (hR.trans (Ac aw8));have hq:(L.n:Int) -1 -(L.used:Int) < (s.length:Int) / 64:=by omega
  have e1:IntKind.i64.wrap ((L.n:Int) -1)=(L.n:Int) -1:=CZ _ (by omega);have e2:IntKind.i64.wrap ((L.n:Int) -1 -(L.used:Int))=(L.n:Int) -1 -(L.used:Int):=CZ _ (by omega);clear hR aw8;go_enter func103,ntmps103;go_wp2_with fail;refine(Uw EA).mono ?_;rw[HF.out];rintro e w1⟨rfl,rfl⟩;go_wp2_with fail;refine(Ut l a cap _ Kt atv (by omega)).mono ?_;rw[hV.out];rintro e w1⟨rfl,hb⟩;have HB:=Hi hb;have c0:=Fe ((hb.block w.heap.size (Ae Io)).trans Io);have UH:w.heap.size < w1.heap.size:=Di (Ae Io) hb.size;obtain⟨d0,d1,d2,d3,d4,d5,d6,df⟩:=(EA.below hb).cells;have hxl:x < w1.heap.size:=Di (EA.lt x (.inl rfl)) hb.size;clear hb df d6 d5;go_wp2_with fail
  go_quiet (fail)
  go_wp2_with fail;go_ret;exact ZR HR rfl HD HL ((((HB1.trans (HB.mono (by rw[Ai];omega))).alloc (by omega) _).alloc (by rw[Ai];omega) _).trans (DK _ _ |>.mono (by rw[Ai,Ai];omega)))
 ·have Sq:=Hi (hR.trans (Aa aw8));have hq:(s.length:Int) / 64≤(L.n:Int) -1 -(L.used:Int):=by omega
  have e1:IntKind.i64.wrap ((L.n:Int) -1)=(L.n:Int) -1:=CZ _ (by omega);have e2:IntKind.i64.wrap ((L.n:Int) -1 -(L.used:Int))=(L.n:Int) -1 -(L.used:Int):=CZ _ (by omega);have xP:((s.length / 64:Nat):Int)=(s.length:Int) / 64:=by omega
  have HK:=Hi xP;have hkn:L.used+s.length / 64+1≤L.n:=by omega
  clear hR aw8 xP;go_enter func103,ntmps103;go_wp2_with fail;refine(Uw EA).mono ?_;rw[HF.out];rintro e w1⟨rfl,rfl⟩;go_wp2_with fail;refine(Ut l a cap _ Kt atv (by omega)).mono ?_;rw[hV.out];rintro e w1⟨rfl,hb⟩;have HB:=Hi hb;have c0:=Fe ((hb.block w.heap.size (Ae Io)).trans Io);have UH:w.heap.size < w1.heap.size:=Di (Ae Io) hb.size;have HL2:=Hi (EA.below hb);obtain⟨d0,d1,d2,d3,d4,d5,d6,df⟩:=HL2.cells;have hxl:x < w1.heap.size:=HL2.lt x (.inl rfl);clear hb df d6 d5;go_wp2_with fail
  go_quiet (fail)
  go_wp2_with fail;have hcl:LD (((w1.alloc (.cells #[.string (bs s)] 9)).alloc (.cells #[.int .i64 ((s.length:Int) / 64)] 3)).drewN nq) x b gv L w.heap.size w1.heap.size (w1.heap.size+1) s (s.length / 64):=by
   rw[←HK.out];have ba:Bw w1 (w1.alloc (.cells #[.string (bs s)] 9)):=(Ad _ _).alloc (Ab _) _;have bb:Below (w1.alloc (.cells #[.string (bs s)] 9)).heap.size (w1.alloc (.cells #[.string (bs s)] 9)) ((w1.alloc (.cells #[.string (bs s)] 9)).alloc (.cells #[.int .i64 ((s.length / 64:Nat):Int)] 3)):=(Ad _ _).alloc (Ab _) _;have hb2:Bw w1 (((w1.alloc (.cells #[.string (bs s)] 9)).alloc (.cells #[.int .i64 ((s.length / 64:Nat):Int)] 3)).drewN nq):=(ba.trans (bb.mono (by rw[Ai];omega))).trans ((DK _ nq).mono (by rw[Ai,Ai];omega));have hs0:=Aq w1 (.cells #[.string (bs s)] 9);have hk0:=Aq (w1.alloc (.cells #[.string (bs s)] 9)) (.cells #[.int .i64 ((s.length / 64:Nat):Int)] 3);rw[Ai] at hk0;exact⟨HL2.below hb2,(hb2.block w.heap.size UH).trans ((HB.block w.heap.size (Ae Io)).trans Io),(bb.block w1.heap.size (by rw[Ai];omega)).trans hs0,hk0⟩
  have hbw:Bw w (((w1.alloc (.cells #[.string (bs s)] 9)).alloc (.cells #[.int .i64 ((s.length:Int) / 64)] 3)).drewN nq):=(((HB1.trans (HB.mono (by rw[Ai];omega))).alloc (by omega) _).alloc (by rw[Ai];omega) _).trans ((DK _ nq).mono (by rw[Ai,Ai];omega));have hn1:w1.heap.size+1 < (((w1.alloc (.cells #[.string (bs s)] 9)).alloc (.cells #[.int .i64 ((s.length:Int) / 64)] 3)).drewN nq).heap.size:=by
   show w1.heap.size+1 < ((w1.alloc _).alloc _).heap.size
   rw[Ai,Ai];omega
  have D6:=Hi hcl;have BM:=Hi hbw;clear d0 d1 d2 d3 d4 c0 hcl hbw EA HL2 HB1 HB Io Kt hV e1 e2 hq;generalize (((w1.alloc (.cells #[.string (bs s)] 9)).alloc (.cells #[.int .i64 ((s.length:Int) / 64)] 3)).drewN nq)=W2 at*;generalize w1.heap.size=s0 at*;obtain⟨c0,_,c2,_,d1,d2,_⟩:=D6.cells;have hdo:=fun(nq:Nat)=>xK (w:=(W2.alloc (.cells #[.func (.func 175) #[] #[.pointer (some ⟨w.heap.size,0,none⟩),.pointer (some ⟨s0,0,none⟩)],.func (.func 135) #[.pointer (some ⟨b,0,none⟩)] #[],.func (.func 176) #[] #[.pointer (some ⟨w.heap.size,0,none⟩),.pointer (some ⟨s0+1,0,none⟩)],.func (.func 135) #[.pointer (some ⟨b,0,none⟩)] #[]] 95)).drewN nq) (g:=W2.heap.size) (n:=4) (cap:=4)
   ((HD.below BM).below ((((Ad _ W2).alloc (Ab _) _).trans ((DK _ nq).mono (by rw[Ai];omega))))) (D6.Cy.below ((((Ad _ W2).alloc (Ab _) _).trans ((DK _ nq).mono (by rw[Ai];omega))))) (D6.below ((((Ad _ W2).alloc (Ab _) _).trans ((DK _ nq).mono (by rw[Ai];omega))))) (fun _ _ _ _ h hd hu=>h.upd hd hu) (aim (by omega)) (fun i u hu=>(CV W2 _ _ i).trans (by rw[←CB];exact hu)) ⟨_,_,Aq W2 _⟩ rfl (by decide) EX
  obtain⟨E,k,hr⟩:∃ E k,doS (L.acts s) D=(E,k):=⟨_,_,rfl⟩;have WU:wappend D L l=if k=0 then(E,L.grown l (s.length / 64),0) else(E,L.fell k,k):=by rw[Sq.out,hr]
  simp only[hr] at hdo;have LC:=Hi hdo;have HR1:=Hi WU;have QS:x < w.heap.size:=HL.lt x (.inl rfl);have hfw:=HD.lt;have ZV:=Hi hfw;have jF:=Hi (show ¬ (fp w.heap.size∨w.heap.size=x) from fun hk=>hk.elim (fun h=>by have:=hfw _ h;omega) (fun e=>by omega));have WV:=Hi (show ¬ (fp (s0+1)∨s0+1=x) from fun hk=>hk.elim (fun h=>by have:=hfw _ h;omega) (fun e=>by omega));clear hdo hr WU hfw
  go_region_held3 (fun V=>V.cell? ⟨w.heap.size,0,none⟩=some (.pointer (some ⟨x,0,none⟩))∧V.cell? ⟨x,2,none⟩=some (.pointer (some ⟨b,0,none⟩)))
   (first|exact⟨c0,d2⟩|exact⟨c3,JM.cells.2.2.1⟩|go_keep)
   (first
    |(go_at_call 132;refine(LC 1).mono ?_;rintro e w3 ⟨rfl,UI,hd3,hl3,hu3,hs3⟩;have QT:=(A7.of_below (F:=fun k=>fp k∨k=x) (((Ad _ W2).alloc (Ab _) _).trans ((DK _ 1).mono (by rw[Ai];omega)))).trans hu3 (fun i hi=>.inl hi);have c3:w3.cell? ⟨w.heap.size,0,none⟩=some (.pointer (some ⟨x,0,none⟩)):=(QT.cell (p:=⟨w.heap.size,0,none⟩) (Ae D6.box) jF).trans D6.cells.1;have k3:w3.cell? ⟨s0+1,0,none⟩=some (.int .i64 ((s.length / 64:Nat):Int)):=(QT.cell (p:=⟨s0+1,0,none⟩) (Ae D6.num) WV).trans D6.cells.2.2.1;have JM:=Hi hl3;have HD3:=Hi hd3;have EZ:=Hi QT;have Fz:=Hi hs3;clear hd3 hl3 hu3 hs3 QT))
  all_goals
   clear c0 c2 d1 d2;have F3:=Hi k3;clear k3;by_cases h0:k=0
   ·subst h0;have HR:=Hi (HR1.trans (Ac rfl));have hl3:Bq w3 x b gv L:=(by have:=JM.out;rwa[Ac rfl] at this);obtain⟨_,d1,_,_,_,d5,_,df⟩:=hl3.cells;have ZF:=df 1;have Nq:=df 5;have Pw:=Hi hl3;have k3:=F3.out;have e3:IntKind.i64.wrap ((L.used:Int)+((s.length / 64:Nat):Int))=(L.used:Int)+((s.length / 64:Nat):Int):=CZ _ (by omega);clear df hl3;generalize s.length / 64=kk at*;go_wp2_with fail;go_region;all_goals
     go_wp2_with fail;have hl4:=(Pw.ais (L.used+kk) (by omega)).below ((Ad _ (w3.setCell ⟨x,1,none⟩ (.int .i64 ((L.used+kk:Nat):Int)))).drew);rw[Int.natCast_add] at hl4;have hd4:AU (w3.setCell ⟨x,1,none⟩ (.int .i64 ((L.used:Int)+(kk:Int)))).drew b E UI:=(HD3.upd (F:=fun i=>i=x) ((A7.refl (fun i=>i=x) w3).setCell (p:=⟨x,1,none⟩) (.inl rfl) _) (fun i hi e=>Pw.apart HD3 (by rw[←e];exact hi))).below ((Ad _ _).drew);have c4:(w3.setCell ⟨x,1,none⟩ (.int .i64 ((L.used:Int)+(kk:Int)))).drew.cell? ⟨w.heap.size,0,none⟩=some (.pointer (some ⟨x,0,none⟩)):=by
      rw[←c3];exact World.cell?_setCell_far _ _ _ _ (by show x≠w.heap.size;omega)
     have Nz:A7 (fun k=>fp k∨k=x) w (w3.setCell ⟨x,1,none⟩ (.int .i64 ((L.used:Int)+(kk:Int)))).drew:=(((A7.of_below (F:=fun k=>fp k∨k=x) BM).trans EZ (fun i hi=>.inl hi)).setCell (p:=⟨x,1,none⟩) (.inl (.inr rfl)) _).trans (A7.of_below (F:=fun k=>fp k∨k=x) ((Ad _ _).drew)) (fun i hi=>.inl hi);have htx:=HX.upd Nz (fun p hp hne hk=>hk.elim (ZU p hp hne).1 (fun e=>(ZU p hp hne).2 (.inl e)));have Px:=Hi hl4;have HD4:=Hi hd4;have Mv:=Hi Nz;have S9:=Hi htx;clear hl4 hd4 Nz htx c3 k3 d1 d5 ZF Nq;generalize (w3.setCell ⟨x,1,none⟩ (.int .i64 ((L.used:Int)+(kk:Int)))).drew=w4 at*;obtain⟨cs,hc1,hc2,hc3,hc4⟩:=Px.groups;obtain⟨qg,cg,rfl⟩:=AA hc1;have QK:=Hi hc1;have JI:=Hi hc2;have QL:=Hi hc3;have iM:=Hi hc4;obtain⟨_,_,_,_,_,d5,_,df⟩:=Px.cells;have Nq:=df 5;obtain⟨i0,hi0,hz0,hz1,hz2⟩:=Cz iJ;have hne:=Px.ne;have hxl:=Px.lt x (.inl rfl);have hwl:=Mv.size;have aAs:w.heap.size < w4.heap.size:=Bz c4;have aC4:(Value.slice qg L.groups.length cg).ownBlock≠some w.heap.size:=fun e=>by
      have:=HL.lt _ (.inr e);omega
     clear df hc1 hc2 hc3 hc4;have JO:=Hi (fun(V:World) (hb:Bw w4 V)=>(⟨(hb.cell (p:=⟨w.heap.size,0,none⟩) (Bz c4)).trans c4,(hb.cell (p:=⟨x,5,none⟩) hxl).trans d5⟩:(fun V:World=>V.cell? ⟨w.heap.size,0,none⟩=some (.pointer (some ⟨x,0,none⟩))∧V.cell? ⟨x,5,none⟩=some (.slice qg L.groups.length cg)) V));have Ea:=Hi (BD d5 Nq);have B1:=Hi (show Bw w4 w4.drew from(Ad _ _).drew);clear c4 d5 Nq;refine aiq (z:=11) (S:=(fun V:World=>V.cell? ⟨w.heap.size,0,none⟩=some (.pointer (some ⟨x,0,none⟩))∧V.cell? ⟨x,5,none⟩=some (.slice qg L.groups.length cg))) (by kernel_rfl) ?_;refine UF (i:=0) (oi:=⟨some 71,.load 111 (.tmp 2),111,"wal.go:149",#[],none⟩) (v:=?_) rfl (by kernel_rfl) (by kernel_rfl) (by kernel_rfl) (by kernel_rfl) (fun _ _ _ h=>h) (Or.inl ⟨by rfl,?_⟩) (JO _ B1) ?_
     rotate_left
     ·intro V hV;try dsimp only at hV
      go_simp;all_goals with_reducible rfl
     try simp only[Act.put,np]
     refine UF (i:=1) (oi:=⟨some 72,.load 111 (.tmp 2),111,"wal.go:149",#[],none⟩) (v:=?_) rfl (by kernel_rfl) (by kernel_rfl) (by kernel_rfl) (by kernel_rfl) (fun _ _ _ h=>h) (Or.inl ⟨by rfl,?_⟩) (JO _ B1) ?_
     rotate_left
     ·intro V hV;try dsimp only at hV
      go_simp;all_goals with_reducible rfl
     try simp only[Act.put,np]
     refine UF (i:=2) (oi:=⟨some 73,.nilCheck (.tmp 72),0,"wal.go:149",#[⟨1,.data⟩],none⟩) (v:=?_) rfl (by kernel_rfl) (by kernel_rfl) (by kernel_rfl) (by kernel_rfl) (fun _ _ _ h=>h) (Or.inl ⟨by rfl,?_⟩) (JO _ B1) ?_
     rotate_left
     ·intro V hV;try dsimp only at hV
      go_simp;all_goals with_reducible rfl
     try simp only[Act.put,np]
     refine UF (i:=3) (oi:=⟨some 74,.fieldAddr 207 (.tmp 73) 4,0,"wal.go:149",#[⟨2,.data⟩],none⟩) (v:=?_) rfl (by kernel_rfl) (by kernel_rfl) (by kernel_rfl) (by kernel_rfl) (fun _ _ _ h=>h) (Or.inl ⟨by rfl,?_⟩) (JO _ B1) ?_
     rotate_left
     ·intro V hV;try dsimp only at hV
      go_simp;all_goals with_reducible rfl
     try simp only[Act.put,np]
     refine UF (i:=4) (oi:=⟨some 75,.load 128 (.tmp 74),128,"wal.go:149",#[⟨3,.data⟩],none⟩) (v:=?_) rfl (by kernel_rfl) (by kernel_rfl) (by kernel_rfl) (by kernel_rfl) (fun _ _ _ h=>h) (Or.inl ⟨by rfl,?_⟩) (JO _ B1) ?_
     rotate_left
     ·intro V hV;try dsimp only at hV
      go_simp;all_goals with_reducible rfl
     try simp only[Act.put,np]
     refine UF (i:=5) (oi:=⟨some 76,.move (.tmp 1),27,"wal.go:149",#[],none⟩) (v:=?_) rfl (by kernel_rfl) (by kernel_rfl) (by kernel_rfl) (by kernel_rfl) (fun _ _ _ h=>h) (Or.inl ⟨by rfl,?_⟩) (JO _ B1) ?_
     rotate_left
     ·intro V hV;try dsimp only at hV
      go_simp;all_goals with_reducible rfl
     try simp only[Act.put,np]
     refine UG (i:=6) (o:=⟨some 77,.call ⟨.value (.func 114),#[.tmp 76],#[27]⟩,27,"wal.go:149",#[⟨5,.data⟩],none⟩) (by kernel_rfl) rfl (fun K1 hK1=>?_);go_simp
     go_at_call 114
     refine(wN w4.drew a cap l (S9.below (Ad _ w4).drew) (by omega)).mono ?_;rintro e w5⟨lv,rfl,axe,hb5,Mw⟩;have B5:=Hi (B1.trans (hb5.mono (Ab _)));obtain⟨ql,cl,rfl⟩:=AA axe;have JK:=Hi (Gj.BU axe);have aiu:=Hi (AL QK (ub B5) (fun _ _ f=>f));have UJ:=Hi (Px.below B5);have aiv:=Hi (fun i (h:i < L.groups.length) (h':i < cs.length)=>(iM i h h').upd (ub B5) (fun _ _ f=>f));clear axe hb5 Mw;go_simp;refine hK1 _ _ (fun _=>JO _ B5) ?_;try simp only[Act.put,np]
     refine UG (i:=7) (o:=⟨some 78,.buildSlice 128 1 #[(0,.tmp 77)],128,"wal.go:149",#[⟨6,.data⟩],none⟩) (by kernel_rfl) rfl (fun K2 hK2=>?_);go_simp;refine hK2 _ _ (fun _=>JO _ (B5.alloc B5.size _)) ?_;try simp only[Act.put,np]
     refine UG (i:=8) (o:=⟨some 79,.call ⟨.builtin .append,#[.tmp 75,.tmp 78],#[128,128]⟩,128,"wal.go:149",#[⟨4,.data⟩,⟨7,.data⟩,⟨6,.chain⟩],none⟩) (by kernel_rfl) rfl (fun K3 hK3=>?_);refine step_append_lies _ (by rfl) _ _ _ (by rfl) 0 27 i0 _ 1 24 underlying128 hi0 hz0 hz1 hz2 (by rfl) (by omega) (.slice qg L.groups.length cg) L.groups.length cs (by rfl) (aiu.alloc _) ⟨w5.heap.size,0,none⟩ 1 1 [.slice ql l.length cl] (by rfl) (by rfl) (World.news_of_block (cs:=#[.slice ql l.length cl]) (t:=27) (fr:=(0,0)) (Aq w5 _)) (fun u hu=>by rw[DT] at hu;subst hu;exact JK.one) (by omega) (by unfold maxLen;omega) (by omega) (Ar _) _ (by rfl) ?_;intro gg cap2 w6 aB2 asx hat aiw;have azF:=UJ.ne;have hc6:=(asx.cell_far ⟨x,5,none⟩ (Di hxl (Ah B5.size (by rw[Ai];omega))) (Ne.symm azF)).trans (((B5.alloc B5.size (.cells #[.slice ql l.length cl] 27)).cell (p:=⟨x,5,none⟩) hxl).trans Ea.1);have hf6:=(asx.frozen_far ⟨x,5,none⟩ (Di hxl (Ah B5.size (by rw[Ai];omega))) (Ne.symm azF)).trans (((B5.alloc B5.size (.cells #[.slice ql l.length cl] 27)).frozen (p:=⟨x,5,none⟩) hxl).trans Ea.2);have xQ:=(asx.cell_far ⟨w.heap.size,0,none⟩ (Di aAs (Ah B5.size (by rw[Ai];omega))) (Ne.symm aC4)).trans (((B5.alloc B5.size (.cells #[.slice ql l.length cl] 27)).cell (p:=⟨w.heap.size,0,none⟩) aAs).trans (JO _ (Ad _ _)).1);have WR:=Hi (BD xQ hc6);have ZW:=Hi (UJ.pushed JK JI QL aiv ((Ad w5.heap.size w5).alloc (Ab _) _) asx aB2 (hat.imp (fun h=>h.symm) (fun h=>by rw[h];rfl)));clear asx aB2 hat aiw azF xQ
     refine hK3 _ _ (fun _=>WR.out) ?_;try simp only[Act.put,np]
     refine UG (i:=9) (o:=⟨some 80,.nilCheck (.tmp 71),0,"wal.go:149",#[⟨0,.data⟩,⟨0,.phase⟩,⟨1,.phase⟩,⟨2,.phase⟩,⟨3,.phase⟩,⟨4,.phase⟩,⟨5,.phase⟩,⟨6,.phase⟩,⟨7,.phase⟩,⟨8,.phase⟩],none⟩) (by kernel_rfl) rfl (fun K4 hK4=>?_);go_simp;refine hK4 _ _ (fun _=>WR.out) ?_;try simp only[Act.put,np]
     refine UG (i:=10) (o:=⟨some 81,.fieldAddr 207 (.tmp 80) 4,0,"wal.go:149",#[⟨9,.data⟩,⟨0,.phase⟩,⟨1,.phase⟩,⟨2,.phase⟩,⟨3,.phase⟩,⟨4,.phase⟩,⟨5,.phase⟩,⟨6,.phase⟩,⟨7,.phase⟩,⟨8,.phase⟩],none⟩) (by kernel_rfl) rfl (fun K5 xR=>?_);go_simp;refine xR _ _ (fun _=>WR.out) ?_;try simp only[Act.put,np]
     refine UG (i:=11) (o:=⟨none,.store 128 (.tmp 81) (.tmp 79),0,"wal.go:149",#[⟨10,.data⟩,⟨8,.data⟩,⟨8,.chain⟩,⟨0,.phase⟩,⟨1,.phase⟩,⟨2,.phase⟩,⟨3,.phase⟩,⟨4,.phase⟩,⟨5,.phase⟩,⟨6,.phase⟩,⟨7,.phase⟩,⟨8,.phase⟩],none⟩) (by kernel_rfl) rfl (fun K6 xS=>?_);go_simp;refine xS _ _ (fun h=>absurd rfl h) ?_;try simp only[Act.put,np]
     refine aip (by kernel_rfl) ?_ _;clear hK1 hK2 hK3 hK4 xR xS K1 K2 K3 K4 K5 K6;go_wp2_with fail;go_ret;have hs5:=B5.size;refine ZT HR rfl (AU.upd (HD4.below B5) ZW.2.1 (fun k hk=>UJ.air (HD4.below B5) k hk)) ZW.1 ?_ ?_ ?_
     ·exact((Mv.mono (fun i hi=>hi.elim .inl (fun e=>.inr (.inl e)))).trans (A7.of_below (F:=fun k=>fp k∨Ba x (.slice qg L.groups.length cg) k) B5) (fun i hi=>.inl hi)).trans ZW.2.1 (fun i hi=>.inl (.inr hi))
     ·intro i hi;rcases Fz i hi with h|h
      ·exact .inl h
      ·exact .inr (Ah BM.size (Ah (by show W2.heap.size≤(W2.alloc _).heap.size;rw[Ai];omega) h))
     ·intro i hi;rcases ZW.2.2 i hi with h|h
      ·exact .inl h
      ·exact .inr (Ah hwl (Ah hs5 h))
   ·have hb1:(k != 0)=true:=(by simp[h0]);have HR:=Hi (HR1.trans (Aa h0));have Pw:Hid (Bq w3 x b gv (L.fell k)):=Hi (by have:=JM.out;rwa[Aa h0] at this);clear h0;go_wp2_with fail;go_ret;refine ZT HR rfl HD3 Pw.out ?_ ?_ (fun _ h=>.inl h)
    ·exact((A7.of_below (F:=fun k=>fp k∨Ba x gv k) BM).trans EZ (fun i hi=>.inl (hi.elim .inl (fun e=>.inr (.inl e)))))
    ·intro i hi;rcases Fz i hi with h|h
     ·exact .inl h
     ·exact .inr (Ah BM.size (Ah (by show W2.heap.size≤(W2.alloc _).heap.size;rw[Ai];omega) h))
theorem aix(hd:AU w b D fp)(hl:Bq w x b gv L)(hx:BB w a l)(hap:∀ p,a=some p→l≠[]→¬ fp p.block∧¬ Ba x gv p.block)(hlen:l.length≤1000000)(asV:rowLen l≤1000000)(EX:D.loose.length≤400000000)(hgl:L.groups.length≤1000000):
  Calls prog 103 #[.pointer (some ⟨x,0,none⟩),.slice a l.length cap] w fun e w'=>Sy w x b gv fp (wappend D L l) e w':=by
 by_cases hf:L.fault=0
 ·cases hg:EU l with
  |none=>exact xO hd hl hx (by unfold maxLen;omega) asV (.inr hg)
  |some s=>exact ait hd hl hx hap hlen asV hf hg EX hgl
 ·exact xO hd hl hx (by unfold maxLen;omega) asV (.inl hf)
theorem Bq.aiy{w:World}{x b:Nat}{gv:Value}{L:AO}(h:Bq w x b gv L)(g:Nat)(hg:g < 18446744073709551616):Bq (((w.setCell ⟨x,0,none⟩ (.int .u64 (g:Int))).setCell ⟨x,1,none⟩ (.int .i64 0)).setCell ⟨x,5,none⟩ (.slice none 0 0)) x b (.slice none 0 0) { L with gen:=g,used:=0,groups:=[] }:=by
 have e1:=Bh w x 0 _ _ (.int .u64 (g:Int)) h.struct;have e2:=Bh _ x 1 _ _ (.int .i64 0) e1;have e3:=Bh _ x 5 _ _ (.slice none 0 0) e2;exact⟨e3,GY.none _,hg,by have:=h.used;show 0+1≤L.n;omega,h.n⟩
theorem xU(hd:AU w b D fp)(hl:Bq w x b gv L)(EX:D.loose.length≤400000000):
  Calls prog 58 #[.pointer (some ⟨x,0,none⟩)] w fun e w'=>Sy w x b gv fp (Cs D L) e w':=by
 have HD:=Hi hd;have HL:=Hi hl;have hb1:=(Ad w.heap.size w).alloc (Ab _) (.cells #[.pointer (some ⟨x,0,none⟩)] 111);have HB1:=Hi hb1;have EA:=Hi (hl.below hb1);by_cases hf:L.fault=0
 ·have HF:=Hi hf;have hR0:Cs D L=if(doS L.Hz D).2=0 then((doS L.Hz D).1,L.Ob,0) else((doS L.Hz D).1,L.fell (doS L.Hz D).2,(doS L.Hz D).2):=by
   unfold Cs;rw[Aa (by simp[hf])]
  have QS:x < w.heap.size:=hl.lt x (.inl rfl);have hfw:=hd.lt;have jF:=Hi (show ¬ (fp w.heap.size∨w.heap.size=x) from fun hk=>hk.elim (fun h=>by have:=hfw _ h;omega) (fun e=>by omega));obtain⟨E,k,hr⟩:∃ E k,doS L.Hz D=(E,k):=⟨_,_,rfl⟩;have WU:Cs D L=if k=0 then(E,L.Ob,0) else(E,L.fell k,k):=by rw[hR0,hr]
  have hcl:=Nv.of (hl.below hb1) (Aq w (.cells #[.pointer (some ⟨x,0,none⟩)] 111));have hdo:=fun(nq:Nat)=>xK (w:=((w.alloc (.cells #[.pointer (some ⟨x,0,none⟩)] 111)).alloc (.cells #[.func (.func 133) #[] #[.pointer (some ⟨w.heap.size,0,none⟩)],.func (.func 135) #[.pointer (some ⟨b,0,none⟩)] #[]] 95)).drewN nq) (g:=(w.alloc (.cells #[.pointer (some ⟨x,0,none⟩)] 111)).heap.size) (n:=2) (cap:=2)
   ((hd.below hb1).below ((((Ad _ _).alloc (Ab _) _).trans ((DK _ nq).mono (by simp only[Ai];omega))))) (hcl.Cy.below ((((Ad _ _).alloc (Ab _) _).trans ((DK _ nq).mono (by simp only[Ai];omega))))) (hcl.below ((((Ad _ _).alloc (Ab _) _).trans ((DK _ nq).mono (by simp only[Ai];omega))))) (fun _ _ _ _ h hd hu=>h.upd hd hu) ain (fun i u hu=>(CV _ _ _ i).trans (by rw[←CB];exact hu)) ⟨_,_,Aq _ _⟩ rfl (by decide) EX
  simp only[hr] at hdo;rw[Ai] at hdo;have LC:=Hi hdo;have HR1:=Hi WU;have D6:=Hi hcl;have c0:=Fe hcl.box;have d2:=hcl.Cy.cells.2.2.1;clear hd hl hb1 hf hR0 hfw hr WU hcl hdo;go_enter func58,ntmps58;go_wp2_with fail;refine(Uw EA).mono ?_;rw[HF.out];rintro e w1⟨rfl,rfl⟩;go_wp2_with fail
  go_region_held3 (fun V=>V.cell? ⟨w.heap.size,0,none⟩=some (.pointer (some ⟨x,0,none⟩))∧V.cell? ⟨x,2,none⟩=some (.pointer (some ⟨b,0,none⟩)))
   (first|exact⟨c0,d2⟩|exact⟨c3,JM.cells.2.2.1⟩|go_keep)
   (first
    |(go_at_call 132;refine(LC 1).mono ?_;rintro e w3 ⟨rfl,UI,hd3,hl3,hu3,hs3⟩;have QT:=(A7.of_below (F:=fun k=>fp k∨k=x) (((Ad _ (w.alloc (.cells #[.pointer (some ⟨x,0,none⟩)] 111))).alloc (Ab _) _).trans ((DK _ 1).mono (by simp only[Ai];omega)))).trans hu3 (fun i hi=>.inl hi);have c3:w3.cell? ⟨w.heap.size,0,none⟩=some (.pointer (some ⟨x,0,none⟩)):=(QT.cell (p:=⟨w.heap.size,0,none⟩) (Ae D6.box) jF).trans c0;have JM:=Hi hl3;have HD3:=Hi hd3;have EZ:=Hi ((A7.of_below (F:=fun k=>fp k∨k=x) HB1).trans QT (fun i hi=>.inl hi));have Fz:=Hi hs3;clear hd3 hl3 hu3 hs3 QT))
  all_goals
   clear c0 d2;have hst:Cg fp UI w:=fun i hi=>by
    rcases Fz i hi with h|h
    ·exact .inl h
    ·exact .inr (Ah (by show w.heap.size≤((w.alloc _).alloc _).heap.size;rw[Ai,Ai];omega) h)
   have HST:=Hi hst;clear hst;by_cases h0:k=0
   ·subst h0;have HR:=Hi (HR1.trans (Ac rfl));have hl3:Bq w3 x b gv L:=(by have:=JM.out;rwa[Ac rfl] at this);obtain⟨d0,d1,_,_,_,d5,_,df⟩:=hl3.cells;have wI:=df 0;have ZF:=df 1;have Nq:=df 5;have Pw:=Hi hl3;have e3:=jD L.gen;have hgm:(L.gen+1) % 18446744073709551616 < 18446744073709551616:=Nat.mod_lt _ (by decide);have UK:=Hi (BD hgm (show L.Ob={ L with gen:=(L.gen+1) % 18446744073709551616,used:=0,groups:=[] } from rfl));clear df hl3 hgm;generalize (L.gen+1) % 18446744073709551616=g at*;go_wp2_with fail;go_region;all_goals
     go_wp2_with fail;go_ret;have Et:A7 (fun i=>i=x) w3 (((w3.setCell ⟨x,0,none⟩ (.int .u64 (g:Int))).setCell ⟨x,1,none⟩ (.int .i64 0)).setCell ⟨x,5,none⟩ (.slice none 0 0)).drew:=((((A7.refl (fun i=>i=x) w3).setCell (p:=⟨x,0,none⟩) (.inl rfl) _).setCell (p:=⟨x,1,none⟩) (.inl rfl) _).setCell (p:=⟨x,5,none⟩) (.inl rfl) _).trans (A7.of_below (F:=fun i=>i=x) ((Ad _ _).drew)) (fun i hi=>.inl hi);refine ZT HR rfl (HD3.upd Et (fun i hi e=>Pw.apart HD3 (by rw[←e];exact hi))) (L:=L.Ob) (Dz:=.slice none 0 0) (by rw[UK.2];exact(Pw.aiy g UK.1).below ((Ad _ _).drew)) ?_ HST.out ?_
     ·exact(EZ.mono (fun i hi=>hi.elim .inl (fun e=>.inr (.inl e)))).trans Et (fun i hi=>.inl (.inr (.inl hi)))
     ·rintro i (hi|hi)
      ·exact .inl (.inl hi)
      ·simp[Value.ownBlock] at hi
   ·have hb1:(k != 0)=true:=(by simp[h0]);have HR:=Hi (HR1.trans (Aa h0));have Pw:Hid (Bq w3 x b gv (L.fell k)):=Hi (by have:=JM.out;rwa[Aa h0] at this);clear h0;go_wp2_with fail;go_ret;exact ZT HR rfl HD3 Pw (EZ.mono (fun i hi=>hi.elim .inl (fun e=>.inr (.inl e)))) HST (fun _ h=>.inl h)
 ·have hR:Hid (Cs D L=(D,L,L.fault)):=Hi (by unfold Cs;rw[Ac hf]);have hb0:(L.fault == 0)=false:=by simp[hf]
  have hb2:(L.fault != 0)=true:=by simp[hf]
  clear hd hl hb1 hf;go_enter func58,ntmps58;go_wp2_with fail;refine(Uw EA).mono ?_;rintro e w1⟨rfl,rfl⟩;go_wp2_with fail;go_ret;exact ZR hR.out rfl HD HL HB1.out
end
end
end Go.Proofs.YtmbbhdebddbhoaaGreat
