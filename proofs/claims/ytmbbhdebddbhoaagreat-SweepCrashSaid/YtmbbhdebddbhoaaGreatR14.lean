/- WalD -/
import Derived.Test.YtmbbhdebddbhoaaGreatR10
set_option maxHeartbeats 1000000
set_option maxRecDepth 100000
set_option linter.all false
namespace Go.Proofs.YtmbbhdebddbhoaaGreat
open Tryz
section
open Go.RowKit Go.Maps
open Wal
def VV(W:World)(b:Nat)(D:Dsk)(fp:Nat→Prop)(f:Dsk→Dsk×Int)(e:Ending)(W':World):Prop:=
 e=.returned (.int .i64 (f D).2)∧∃ fp',Bl W' b (f D).1 fp'∧A7 fp W W'∧D6 fp fp' W
structure adG(K:World→Prop)(b:Nat)(v:Value)(f:Dsk→Dsk×Int):Prop where
 more:∀ D,(f D).1.loose.length≤D.loose.length+1000000
 fn:∃ F recv Lt,v=.func (.func F) recv Lt∧(∀ args w,(callFunc F args).run prog w=.ok (.enter F args) w)∧
  ∀ W D fp,K W→Bl W b D fp→D.loose.length≤500000000→Calls prog F (recv++Lt) W (VV W b D fp f)
structure uU(K:World→Prop)(b:Nat)(vs:List Value)(fs:List (Dsk→Dsk×Int)):Prop where
 len:vs.length=fs.length
 each:∀ i (h:i < vs.length) (h':i < fs.length),adG K b vs[i] fs[i]
theorem Bl.kindOf{w:World}{b:Nat}{D:Dsk}{fp:Nat→Prop}(h:Bl w b D fp){k:Nat}(hk:fp k){t:TypeId}(hb:AA w k t):t=117∨t=195:=by
 obtain⟨m,lv,hI,rfl⟩:=h;obtain⟨cs,fr,hb⟩:=hb;rcases hk with rfl|rfl|hk
 ·rw[hI.struct] at hb;injection hb with hb
  injection hb with _ hb _
  exact .inl hb.symm
 ·obtain⟨kv,⟨_,D',⟨es,clock,hm,_⟩,_⟩,_⟩:=hI.base;rw[hm] at hb;injection hb with hb
  cases hb
 ·rcases hI.loose.2 with⟨e1,_⟩|⟨g,cap,cur,e1,_,hg,_⟩
  ·subst e1;simp[Value.ownBlock] at hk
  ·subst e1;simp[Value.ownBlock] at hk;subst hk;rw[hg] at hb;injection hb with hb
   injection hb with _ hb _
   exact .inr hb.symm
theorem ar7{fs:List (Dsk→Dsk×Int)}(h:fs=[])(E:Dsk):doS fs E=(E,0):=by subst h;rfl
theorem awt(a b c k:Nat)(h1:a≤b+1000000)(h2:b≤c+1000000*k):a≤c+1000000*(k+1):=by
 rw[Nat.mul_succ,←Nat.add_assoc];generalize 1000000*k=m at*;omega
def uT(w:World)(x b:Nat)(gv:Value)(L:Bn)(fp:Nat→Prop)(r:Dsk×Int)(e:Ending)(w':World):Prop:=
 e=.returned (.int .i64 r.2)∧∃ fp',Bl w' b r.1 fp'∧BZ w' x b gv (if r.2=0 then L else L.fell r.2)∧A7 (fun k=>fp k∨k=x) w w'∧D6 fp fp' w
theorem BZ.ui{w:World}{x b:Nat}{gv:Value}{L:Bn}(h:BZ w x b gv L)(k:Int):BZ (w.setCell ⟨x,6,none⟩ (.int .i64 k)) x b gv (L.fell k):=by
 have hu:A7 (fun i=>i=x) w (w.setCell ⟨x,6,none⟩ (.int .i64 k)):=(A7.refl (fun i=>i=x) w).setCell (p:=⟨x,6,none⟩) (.inl rfl) _;refine⟨BU w x 6 _ _ _ h.struct,h.groups.upd hu (fun i hi e=>by subst e;exact AA.ne hi ⟨_,_,h.struct⟩ (by decide) rfl) (fun g hg e=>h.ne (by rw[hg,e])),h.gen,h.used,h.n⟩
theorem BZ.apart{w:World}{x b:Nat}{gv:Value}{L:Bn}(h:BZ w x b gv L){b':Nat}{D:Dsk}{fp:Nat→Prop}(hd:Bl w b' D fp):¬ fp x:=fun hk=>by
 have:=hd.kindOf hk ⟨_,_,h.struct⟩
 revert this;decide
theorem afY{w:World}{x b g n cap:Nat}{gv:Value}{L:Bn}{D:Dsk}{fp:Nat→Prop}{K:World→Prop}{vs:List Value}{fs:List (Dsk→Dsk×Int)}
  (hd:Bl w b D fp)(hl:BZ w x b gv L)(hK:K w)(hKs:∀ W W' D fp,K W→Bl W b D fp→A7 fp W W'→K W')(hf:uU K b vs fs)(hv:∀ i u,vs[i]?=some u→w.cell? ⟨g,i,none⟩=some u)(hg:AA w g 95)(hn:vs.length=n)(R7:n≤5)(GU:D.loose.length≤400000000):
  Calls prog 132 #[.pointer (some ⟨x,0,none⟩),.slice (some ⟨g,0,none⟩) n cap] w fun e w'=>uT w x b gv L fp (doS fs D) e w':=by
 have HD:=Hi hd;have HL:=Hi hl;have HK:=Hi hK;have Jm:=Hi hKs;have HF:=Hi hf;have HV:=Hi hv;have HG:=Hi hg;have HN:=Hi hn;clear hd hl hK hKs hf hv hg hn;go_enter func132,ntmps132;go_wp2_with fail
 go_loopw [10] (fun i wr=>∃ (k:Nat) (E:Dsk) (fe:Nat→Prop),k≤n∧i=.int .i64 k∧Bl wr b E fe∧K wr∧A7 fp w wr∧D6 fp fe w∧E.loose.length≤D.loose.length+1000000*k∧doS fs D=doS (fs.drop k) E) (fun i _=>n -(intOf i).toNat)
 case atStart=>exact⟨0,D,fp,AB _,rfl,HD,HK,A7.refl _ _,fun _ h=>.inl h,by omega,by rw[List.drop_zero]⟩
 case round=>
  obtain⟨k,E,fe,hk,rfl,hE,hKr,hU,hS,WR,OT⟩:=hrel;have HE:=Hi hE;have PH:=Hi hKr;have HU:=Hi hU;have HS:=Hi hS;have Pw:=Hi OT;clear hE hKr hU hS OT;by_cases hlt:k < n
  ·have Jv:k < vs.length:=(by rw[HN.out];exact hlt);have YY:k < fs.length:=(by rw[←HF.len];exact Jv);obtain⟨aji,F,recv,Lt,hv,KJ,LB⟩:=HF.each k Jv YY;have bJ:=HV k _ (Cn Jv);have hc:wr.cell? ⟨g,k,none⟩=some (.func (.func F) recv Lt):=by
    rw[←hv,←bJ];exact HU.cell (p:=⟨g,k,none⟩) HG.lt (fun hk=>by have:=HD.kindOf hk HG.out;revert this;decide)
   have AP:doS (fs.drop k) E=if(fs[k] E).2=0 then doS (fs.drop (k+1)) (fs[k] E).1 else fs[k] E:=by
    rw[Qz YY,aY]
   have EC:=aji E;have BH:=LB wr E fe PH HE (by omega);generalize fs[k]=f at*;have Ev:=Hi BH;have AR:=Hi AP;clear bJ hv LB aji BH AP Jv YY;go_wp2_with fail;refine Ev.mono ?_;rintro e w1⟨rfl,zo,O0,F8,MB⟩;have Pt:=Hi O0;have Ty:=Hi (Jm _ _ _ _ PH HE F8);have Jo:=Hi (HU.trans F8 HS)
   have BF:=Hi (show D6 fp zo w from fun i hi=>by
    rcases MB i hi with h|h
    ·exact HS i h
    ·exact .inr (Ap HU.size h))
   clear O0 F8 MB hc;generalize f E=r at*;obtain⟨E1,e1⟩:=r;by_cases h0:e1=0
   ·subst h0;have RB:=Hi (show doS fs D=doS (fs.drop (k+1)) E1 by rw[Pw.out,AR.out];rfl);have Z6:E1.loose.length≤E.loose.length+1000000:=EC;have O9:=awt _ _ _ _ Z6 WR;have aoZ:=Hi O9;clear EC O9;go_wp2_with fail;go_roundw
    case rel=>exact⟨k+1,E1,zo,by omega,by go_num,Pt,Ty,Jo,BF,aoZ,RB⟩
    case measure=>simp[intOf];omega
   ·have Bq:(e1 == 0)=false:=(by simp[h0]);have Ad:(e1 != 0)=true:=(by simp[h0]);have RB:=Hi (show doS fs D=(E1,e1) by rw[Pw.out,AR.out,Aa h0]);have Ga:=Hi (HL.disk HD Jo);have H0:=Hi h0;obtain⟨c0,c1,c2,c3,c4,c5,c6,cf⟩:=Ga.cells;have cf6:=cf 6;clear h0 EC cf;go_wp2_with fail;go_ret;unfold uT;rw[RB.out];refine⟨rfl,zo,Pt.upd (F:=fun i=>i=x) ((A7.refl (fun i=>i=x) w1).setCell (p:=⟨x,6,none⟩) (.inl rfl) _) (fun i hi e=>Ga.apart Pt (by rw[←e];exact hi)),?_,(Jo.mono (fun i hi=>.inl hi)).setCell (p:=⟨x,6,none⟩) (.inl (.inr rfl)) _,BF.out⟩;rw[Aa (by exact H0.out)];exact Ga.ui e1
  ·obtain rfl:k=n:=(by omega);have Gx:fs.drop k=[]:=List.drop_eq_nil_of_le (by rw[←HF.len,HN.out];exact Ac _);have RB:=Hi (Pw.trans (ar7 Gx E));have Ga:=Hi (HL.disk HD HU);clear Gx;go_wp2_with fail;go_ret;unfold uT;rw[RB.out];exact⟨rfl,fe,HE,by rw[Ab rfl];exact Ga.out,HU.mono (fun i hi=>.inl hi),HS.out⟩
end
section
open Go.RowKit Go.Maps
open Wal
theorem Hf{w:World}{k:Nat}{v:Value}{t:TypeId}(h:w.heap[k]?=some (.cells #[v] t)):w.cell? ⟨k,0,none⟩=some v:=by rw[BA w _ _ _ _ _ h];rfl
theorem adf(g:Nat):IntKind.u64.wrap ((g:Int)+1)=(((g+1) % 18446744073709551616:Nat):Int):=by
 simp[IntKind.wrap,IntKind.bits,IntKind.signed]
structure Pq(W:World)(x b:Nat)(gv:Value)(L:Bn)(c0 s0 k0:Nat)(s:List UInt8)(k:Nat):Prop where
 Dl:BZ W x b gv L
 box:W.heap[c0]?=some (.cells #[.pointer (some ⟨x,0,none⟩)] 111)
 txt:W.heap[s0]?=some (.cells #[.string (bs s)] 9)
 num:W.heap[k0]?=some (.cells #[.int .i64 (k:Int)] 3)
theorem Pq.upd{W W':World}{x b:Nat}{gv:Value}{L:Bn}{c0 s0 k0:Nat}{s:List UInt8}{k:Nat}(h:Pq W x b gv L c0 s0 k0 s k){b':Nat}{D:Dsk}{fp:Nat→Prop}(hd:Bl W b' D fp)(hu:A7 fp W W'):Pq W' x b gv L c0 s0 k0 s k:=
 ⟨h.Dl.disk hd hu,(hu.block c0 (Ai h.box) (fun hk=>by have:=hd.kindOf hk ⟨_,_,h.box⟩;revert this;decide)).trans h.box,(hu.block s0 (Ai h.txt) (fun hk=>by have:=hd.kindOf hk ⟨_,_,h.txt⟩;revert this;decide)).trans h.txt,(hu.block k0 (Ai h.num) (fun hk=>by have:=hd.kindOf hk ⟨_,_,h.num⟩;revert this;decide)).trans h.num⟩
theorem Pq.below{W W':World}{x b:Nat}{gv:Value}{L:Bn}{c0 s0 k0:Nat}{s:List UInt8}{k:Nat}(h:Pq W x b gv L c0 s0 k0 s k)(hb:Bw W W'):Pq W' x b gv L c0 s0 k0 s k:=
 ⟨h.Dl.below hb,(hb.block c0 (Ai h.box)).trans h.box,(hb.block s0 (Ai h.txt)).trans h.txt,(hb.block k0 (Ai h.num)).trans h.num⟩
theorem Pq.cells{W:World}{x b:Nat}{gv:Value}{L:Bn}{c0 s0 k0:Nat}{s:List UInt8}{k:Nat}(h:Pq W x b gv L c0 s0 k0 s k):
  W.cell? ⟨c0,0,none⟩=some (.pointer (some ⟨x,0,none⟩))∧W.cell? ⟨s0,0,none⟩=some (.string (bs s))∧W.cell? ⟨k0,0,none⟩=some (.int .i64 (k:Int))∧
  W.cell? ⟨x,0,none⟩=some (.int .u64 (L.gen:Int))∧W.cell? ⟨x,1,none⟩=some (.int .i64 (L.used:Int))∧W.cell? ⟨x,2,none⟩=some (.pointer (some ⟨b,0,none⟩))∧W.cell? ⟨x,3,none⟩=some (.int .i64 (L.from_:Int)):=by
 obtain⟨c0,c1,c2,c3,_⟩:=h.Dl.cells;exact⟨Hf h.box,Hf h.txt,Hf h.num,c0,c1,c2,c3⟩
structure RQ(W:World)(x b:Nat)(gv:Value)(L:Bn)(c0:Nat):Prop where
 Dl:BZ W x b gv L
 box:W.heap[c0]?=some (.cells #[.pointer (some ⟨x,0,none⟩)] 111)
theorem RQ.of{W:World}{x b:Nat}{gv:Value}{L:Bn}{c0:Nat}(h:BZ W x b gv L)(h2:W.heap[c0]?=some (.cells #[.pointer (some ⟨x,0,none⟩)] 111)):RQ W x b gv L c0:=⟨h,h2⟩
theorem RQ.upd{W W':World}{x b:Nat}{gv:Value}{L:Bn}{c0:Nat}(h:RQ W x b gv L c0){b':Nat}{D:Dsk}{fp:Nat→Prop}(hd:Bl W b' D fp)(hu:A7 fp W W'):RQ W' x b gv L c0:=
 ⟨h.Dl.disk hd hu,(hu.block c0 (Ai h.box) (fun hk=>by have:=hd.kindOf hk ⟨_,_,h.box⟩;revert this;decide)).trans h.box⟩
theorem RQ.below{W W':World}{x b:Nat}{gv:Value}{L:Bn}{c0:Nat}(h:RQ W x b gv L c0)(hb:Bw W W'):RQ W' x b gv L c0:=
 ⟨h.Dl.below hb,(hb.block c0 (Ai h.box)).trans h.box⟩
section
variable {W:World}{x b:Nat}{gv:Value}{L:Bn}{c0 s0 k0:Nat}{s:List UInt8}{k:Nat}{D:Dsk}{fp:Nat→Prop}
theorem yh{f:Dsk→Dsk×Int}{e:Ending}{W':World}(he:e=.returned (.int .i64 (f D).2)){fp':Nat→Prop}(hd:Bl W' b (f D).1 fp')(hu:A7 fp W W')(hs:D6 fp fp' W):VV W b D fp f e W':=⟨he,fp',hd,hu,hs⟩
theorem aqA(h:Pq W x b gv L c0 s0 k0 s k)(hd:Bl W b D fp)(hs:s.length≤10000000)(hl:D.loose.length≤500000000):
  Calls prog 175 #[.pointer (some ⟨c0,0,none⟩),.pointer (some ⟨s0,0,none⟩)] W (VV W b D fp (fun D=>D.write ((L.from_+1+L.used:Nat):Int) s)):=by
 have g1:=h.Dl.used;have g2:=h.Dl.n;have HC:=Hi h;have HD:=Hi hd;have ai5:=fun(W':World) (hb:Bw W W')=>(h.below hb).cells
 have aAQ:=Hi ai5;have e1:IntKind.i64.wrap ((L.from_:Int)+1)=(L.from_:Int)+1:=Ei _ (by omega);have e2:IntKind.i64.wrap ((L.from_:Int)+1+(L.used:Int))=(L.from_:Int)+1+(L.used:Int):=Ei _ (by omega);have hat:((L.from_+1+L.used:Nat):Int)=(L.from_:Int)+1+(L.used:Int):=by omega
 have hw:=fun(W':World) (hb:Bw W W')=>lW (hd.below hb) ((L.from_:Int)+1+(L.used:Int)) s (by omega) (by omega) (by omega)
 have HW:=Hi hw;have IZ:=Hi hat;obtain⟨d0,d1,d2,d3,d4,d5,d6⟩:=h.cells;clear h hd ai5 hw hat;rw[IZ.out];go_enter func175,ntmps175;go_wp2_with fail
 go_region_held3 (fun V=>V.cell? ⟨c0,0,none⟩=some (.pointer (some ⟨x,0,none⟩))∧V.cell? ⟨s0,0,none⟩=some (.string (bs s))∧V.cell? ⟨x,1,none⟩=some (.int .i64 (L.used:Int))∧V.cell? ⟨x,2,none⟩=some (.pointer (some ⟨b,0,none⟩))∧V.cell? ⟨x,3,none⟩=some (.int .i64 (L.from_:Int)))
  (first|exact⟨d0,d1,d4,d5,d6⟩|exact⟨KA.cells.1,KA.cells.2.1,KA.cells.2.2.2.2.1,KA.cells.2.2.2.2.2.1,KA.cells.2.2.2.2.2.2⟩)
  (first
   |(go_at_call 134;refine(HW _ ((Af W.heap.size W).drew)).mono ?_;rintro e wa ⟨rfl,fpa,Q9,SK,Vv⟩;have KA:=Hi ((HC.below ((Af W.heap.size W).drew)).upd (HD.below ((Af W.heap.size W).drew)) SK);have JL:=Hi (Cc Q9 (Cc SK Vv));clear Q9 SK Vv))
 go_wp2_with fail;go_ret;exact yh rfl JL.1 ((A7.of_below (F:=fp) ((Af W.heap.size W).drew)).trans JL.2.1 (fun _ h=>.inl h)) JL.2.2
theorem aqy(h:Pq W x b gv L c0 s0 k0 s k)(hd:Bl W b D fp)(hk:k≤1000000)(hl:D.loose.length≤500000000):
  Calls prog 176 #[.pointer (some ⟨c0,0,none⟩),.pointer (some ⟨k0,0,none⟩)] W (VV W b D fp (fun D=>D.write (L.from_:Int) (Wal.mark L.gen (L.used+k)))):=by
 have g1:=h.Dl.used;have g2:=h.Dl.n;have g3:=h.Dl.gen;have HC:=Hi h;have HD:=Hi hd;have e2:IntKind.i64.wrap ((L.used:Int)+(k:Int))=(L.used:Int)+(k:Int):=Ei _ (by omega);have hm:=fun(W':World)=>kH L.gen (L.used+k) W' g3 (by omega)
 have EC:=Wal.Nu L.gen (L.used+k);have hw:=fun(W':World) (hb:Bw W W')=>lW (hd.below hb) (L.from_:Int) (Wal.mark L.gen (L.used+k)) (by omega) (by omega) (by omega)
 have qA:((L.used+k:Nat):Int)=(L.used:Int)+(k:Int):=by omega
 rw[qA] at hm;have HM:=Hi hm;have HW:=Hi hw;obtain⟨d0,d1,d2,d3,d4,d5,d6⟩:=h.cells;clear h hd hm hw EC qA g3;go_enter func176,ntmps176;go_wp2_with fail
 go_region_held3 (fun V=>V.cell? ⟨c0,0,none⟩=some (.pointer (some ⟨x,0,none⟩))∧V.cell? ⟨k0,0,none⟩=some (.int .i64 (k:Int))∧V.cell? ⟨x,0,none⟩=some (.int .u64 (L.gen:Int))∧V.cell? ⟨x,1,none⟩=some (.int .i64 (L.used:Int))∧V.cell? ⟨x,2,none⟩=some (.pointer (some ⟨b,0,none⟩))∧V.cell? ⟨x,3,none⟩=some (.int .i64 (L.from_:Int)))
  (first|exact⟨d0,d2,d3,d4,d5,d6⟩|exact⟨KM.cells.1,KM.cells.2.2.1,KM.cells.2.2.2.1,KM.cells.2.2.2.2.1,KM.cells.2.2.2.2.2.1,KM.cells.2.2.2.2.2.2⟩|exact⟨KA.cells.1,KA.cells.2.2.1,KA.cells.2.2.2.1,KA.cells.2.2.2.2.1,KA.cells.2.2.2.2.2.1,KA.cells.2.2.2.2.2.2⟩)
  (first
   |(go_at_call 128;refine(HM _).mono ?_;rintro e wm ⟨rfl,OO⟩;have Rv:=Hi (((Af W.heap.size W).drew).trans OO);have KM:=Hi (HC.below Rv);clear OO)
   |(go_at_call 134;refine(HW _ Rv).mono ?_;rintro e wa ⟨rfl,fpa,Q9,SK,Vv⟩;have KA:=Hi (KM.upd (HD.below Rv) SK);have JL:=Hi (Cc Q9 (Cc SK Vv));clear Q9 SK Vv))
 go_wp2_with fail;go_ret;refine yh rfl JL.1 ((A7.of_below (F:=fp) Rv).trans JL.2.1 (fun _ h=>.inl h)) (fun i hi=>?_);rcases JL.2.2 i hi with h|h
 ·exact .inl h
 ·exact .inr (Ap Rv.size h)
theorem aqz(h:RQ W x b gv L c0)(hd:Bl W b D fp)(hl:D.loose.length≤500000000):
  Calls prog 133 #[.pointer (some ⟨c0,0,none⟩)] W (VV W b D fp (fun D=>D.write (L.from_:Int) (Wal.mark ((L.gen+1) % 18446744073709551616) 0))):=by
 have g2:=h.Dl.n;have g3:(L.gen+1) % 18446744073709551616 < 18446744073709551616:=Nat.mod_lt _ (by decide);have HC:=Hi h;have HD:=Hi hd;have e2:IntKind.u64.wrap ((L.gen:Int)+1)=(((L.gen+1) % 18446744073709551616:Nat):Int):=adf L.gen;have d0:=Hf h.box;obtain⟨d3,_,d5,d6,_⟩:=h.Dl.cells;have HE:=Hi e2;generalize (L.gen+1) % 18446744073709551616=g at*;have hm:=fun(W':World)=>kH g 0 W' g3 (by decide)
 have EC:=Wal.Nu g 0;have hw:=fun(W':World) (hb:Bw W W')=>lW (hd.below hb) (L.from_:Int) (Wal.mark g 0) (by omega) (by omega) (by omega)
 have HM:=Hi hm;have HW:=Hi hw;clear h hd hm hw EC g3;go_enter func133,ntmps133;go_wp2_with fail
 go_region_held3 (fun V=>V.cell? ⟨c0,0,none⟩=some (.pointer (some ⟨x,0,none⟩))∧V.cell? ⟨x,0,none⟩=some (.int .u64 (L.gen:Int))∧V.cell? ⟨x,2,none⟩=some (.pointer (some ⟨b,0,none⟩))∧V.cell? ⟨x,3,none⟩=some (.int .i64 (L.from_:Int)))
  (first|exact⟨d0,d3,d5,d6⟩|exact⟨Hf KM.box,KM.Dl.cells.1,KM.Dl.cells.2.2.1,KM.Dl.cells.2.2.2.1⟩|exact⟨Hf KA.box,KA.Dl.cells.1,KA.Dl.cells.2.2.1,KA.Dl.cells.2.2.2.1⟩)
  (first
   |(go_at_call 128;refine(HM _).mono ?_;rintro e wm ⟨rfl,OO⟩;have Rv:=Hi (((Af W.heap.size W).drew).trans OO);have KM:=Hi (HC.below Rv);clear OO)
   |(go_at_call 134;refine(HW _ Rv).mono ?_;rintro e wa ⟨rfl,fpa,Q9,SK,Vv⟩;have KA:=Hi (KM.upd (HD.below Rv) SK);have JL:=Hi (Cc Q9 (Cc SK Vv));clear Q9 SK Vv))
 go_wp2_with fail;go_ret;refine yh rfl JL.1 ((A7.of_below (F:=fp) Rv).trans JL.2.1 (fun _ h=>.inl h)) (fun i hi=>?_);rcases JL.2.2 i hi with h|h
 ·exact .inl h
 ·exact .inr (Ap Rv.size h)
end
theorem as9{x b:Nat}{gv:Value}{L:Bn}{c0 s0 k0:Nat}{s:List UInt8}(hs:s.length≤10000000):
  uU (fun W=>Pq W x b gv L c0 s0 k0 s (s.length / 64)) b
   [.func (.func 175) #[] #[.pointer (some ⟨c0,0,none⟩),.pointer (some ⟨s0,0,none⟩)],.func (.func 135) #[.pointer (some ⟨b,0,none⟩)] #[],.func (.func 176) #[] #[.pointer (some ⟨c0,0,none⟩),.pointer (some ⟨k0,0,none⟩)],.func (.func 135) #[.pointer (some ⟨b,0,none⟩)] #[]] (L.acts s):=by
 have Gx:adG (fun W=>Pq W x b gv L c0 s0 k0 s (s.length / 64)) b (.func (.func 135) #[.pointer (some ⟨b,0,none⟩)] #[]) Dsk.flush:=
  ⟨fun D=>by have:=Dsk.TP D;omega,_,_,_,rfl,enters_of func135 (by kernel_rfl) rfl,fun W D fp _ hd hl=>oP hd (by omega)⟩
 refine⟨rfl,fun i h h'=>?_⟩
 match i,h with
 |0,_=>exact⟨fun D=>by have:=Dsk.Te D ((L.from_+1+L.used:Nat):Int) s;show(D.write ((L.from_+1+L.used:Nat):Int) s).1.loose.length≤_;omega,_,_,_,rfl,enters_of func175 (by kernel_rfl) rfl,fun W D fp hK hd hl=>aqA hK hd hs hl⟩
 |1,_=>exact Gx
 |2,_=>exact⟨fun D=>by have:=Dsk.Te D (L.from_:Int) (Wal.mark L.gen (L.used+s.length / 64));rw[Wal.Nu] at this;show(D.write (L.from_:Int) (Wal.mark L.gen (L.used+s.length / 64))).1.loose.length≤_;omega,_,_,_,rfl,enters_of func176 (by kernel_rfl) rfl,fun W D fp hK hd hl=>aqy hK hd (by omega) hl⟩
 |3,_=>exact Gx
theorem asb{x b:Nat}{gv:Value}{L:Bn}{c0:Nat}:
  uU (fun W=>RQ W x b gv L c0) b
   [.func (.func 133) #[] #[.pointer (some ⟨c0,0,none⟩)],.func (.func 135) #[.pointer (some ⟨b,0,none⟩)] #[]] L.L9:=by
 refine⟨rfl,fun i h h'=>?_⟩
 match i,h with
 |0,_=>exact⟨fun D=>by have:=Dsk.Te D (L.from_:Int) (Wal.mark ((L.gen+1) % 18446744073709551616) 0);rw[Wal.Nu] at this;show(D.write (L.from_:Int) (Wal.mark ((L.gen+1) % 18446744073709551616) 0)).1.loose.length≤_;omega,_,_,_,rfl,enters_of func133 (by kernel_rfl) rfl,fun W D fp hK hd hl=>aqz hK hd hl⟩
 |1,_=>exact⟨fun D=>by have:=Dsk.TP D;show D.flush.1.loose.length≤_;omega,_,_,_,rfl,enters_of func135 (by kernel_rfl) rfl,fun W D fp _ hd hl=>oP hd (by omega)⟩
end
end Go.Proofs.YtmbbhdebddbhoaaGreat
