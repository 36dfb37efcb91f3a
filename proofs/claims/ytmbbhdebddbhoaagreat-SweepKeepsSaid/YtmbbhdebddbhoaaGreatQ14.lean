/- WalD -/
import Derived.Test.YtmbbhdebddbhoaaGreatQ10
set_option maxHeartbeats 1000000
set_option maxRecDepth 100000
set_option linter.all false
namespace Go.Proofs.YtmbbhdebddbhoaaGreat
open Tryz
section
open Go.RowKit Go.Maps
open Wal
def QR(W:World)(b:Nat)(D:Dsk)(fp:Nat→Prop)(f:Dsk→Dsk×Int)(e:Ending)(W':World):Prop:=
 e=.returned (.int .i64 (f D).2)∧∃ fp',AU W' b (f D).1 fp'∧A7 fp W W'∧Cg fp fp' W
structure xJ(K:World→Prop)(b:Nat)(v:Value)(f:Dsk→Dsk×Int):Prop where
 more:∀ D,(f D).1.loose.length≤D.loose.length+1000000
 fn:∃ F recv Im,v=.func (.func F) recv Im∧(∀ args w,(callFunc F args).run prog w=.ok (.enter F args) w)∧
  ∀ W D fp,K W→AU W b D fp→D.loose.length≤500000000→Calls prog F (recv++Im) W (QR W b D fp f)
structure jA(K:World→Prop)(b:Nat)(vs:List Value)(fs:List (Dsk→Dsk×Int)):Prop where
 len:vs.length=fs.length
 each:∀ i (h:i < vs.length) (h':i < fs.length),xJ K b vs[i] fs[i]
theorem AU.kindOf{w:World}{b:Nat}{D:Dsk}{fp:Nat→Prop}(h:AU w b D fp){k:Nat}(hk:fp k){t:TypeId}(hb:Ap w k t):t=117∨t=195:=by
 obtain⟨m,lv,hI,rfl⟩:=h;obtain⟨cs,fr,hb⟩:=hb;rcases hk with rfl|rfl|hk
 ·rw[hI.struct] at hb;injection hb with hb
  injection hb with _ hb _
  exact .inl hb.symm
 ·obtain⟨kv,⟨_,D',⟨es,clock,hm,_⟩,_⟩,_⟩:=hI.base;rw[hm] at hb;injection hb with hb
  cases hb
 ·rcases hI.loose.2 with⟨e1,_⟩|⟨g,cap,cur,e1,_,hg,_⟩
  ·subst e1;simp[Value.ownBlock] at hk
  ·subst e1;simp[Value.ownBlock] at hk;subst hk;rw[hg] at hb;injection hb with hb
   injection hb with _ hb _
   exact .inr hb.symm
theorem aie{fs:List (Dsk→Dsk×Int)}(h:fs=[])(E:Dsk):doS fs E=(E,0):=by subst h;rfl
theorem aif(a b c k:Nat)(h1:a≤b+1000000)(h2:b≤c+1000000*k):a≤c+1000000*(k+1):=by
 rw[Nat.mul_succ,←Nat.add_assoc];generalize 1000000*k=m at*;omega
def jB(w:World)(x b:Nat)(gv:Value)(L:AO)(fp:Nat→Prop)(r:Dsk×Int)(e:Ending)(w':World):Prop:=
 e=.returned (.int .i64 r.2)∧∃ fp',AU w' b r.1 fp'∧Bq w' x b gv (if r.2=0 then L else L.fell r.2)∧A7 (fun k=>fp k∨k=x) w w'∧Cg fp fp' w
theorem Bq.ZQ{w:World}{x b:Nat}{gv:Value}{L:AO}(h:Bq w x b gv L)(k:Int):Bq (w.setCell ⟨x,6,none⟩ (.int .i64 k)) x b gv (L.fell k):=by
 have hu:A7 (fun i=>i=x) w (w.setCell ⟨x,6,none⟩ (.int .i64 k)):=(A7.refl (fun i=>i=x) w).setCell (p:=⟨x,6,none⟩) (.inl rfl) _;refine⟨Bh w x 6 _ _ _ h.struct,h.groups.upd hu (fun i hi e=>by subst e;exact Ap.ne hi ⟨_,_,h.struct⟩ (by decide) rfl) (fun g hg e=>h.ne (by rw[hg,e])),h.gen,h.used,h.n⟩
theorem Bq.apart{w:World}{x b:Nat}{gv:Value}{L:AO}(h:Bq w x b gv L){b':Nat}{D:Dsk}{fp:Nat→Prop}(hd:AU w b' D fp):¬ fp x:=fun hk=>by
 have:=hd.kindOf hk ⟨_,_,h.struct⟩
 revert this;decide
theorem xK{w:World}{x b g n cap:Nat}{gv:Value}{L:AO}{D:Dsk}{fp:Nat→Prop}{K:World→Prop}{vs:List Value}{fs:List (Dsk→Dsk×Int)}
  (hd:AU w b D fp)(hl:Bq w x b gv L)(hK:K w)(hKs:∀ W W' D fp,K W→AU W b D fp→A7 fp W W'→K W')(hf:jA K b vs fs)(hv:∀ i u,vs[i]?=some u→w.cell? ⟨g,i,none⟩=some u)(hg:Ap w g 95)(hn:vs.length=n)(Mw:n≤5)(EX:D.loose.length≤400000000):
  Calls prog 132 #[.pointer (some ⟨x,0,none⟩),.slice (some ⟨g,0,none⟩) n cap] w fun e w'=>jB w x b gv L fp (doS fs D) e w':=by
 have HD:=Hi hd;have HL:=Hi hl;have HK:=Hi hK;have Gy:=Hi hKs;have HF:=Hi hf;have HV:=Hi hv;have HG:=Hi hg;have HN:=Hi hn;clear hd hl hK hKs hf hv hg hn;go_enter func132,ntmps132;go_wp2_with fail
 go_loopw [10] (fun i wr=>∃ (k:Nat) (E:Dsk) (fe:Nat→Prop),k≤n∧i=.int .i64 k∧AU wr b E fe∧K wr∧A7 fp w wr∧Cg fp fe w∧E.loose.length≤D.loose.length+1000000*k∧doS fs D=doS (fs.drop k) E) (fun i _=>n -(intOf i).toNat)
 case atStart=>exact⟨0,D,fp,Ar _,rfl,HD,HK,A7.refl _ _,fun _ h=>.inl h,by omega,by rw[List.drop_zero]⟩
 case round=>
  obtain⟨k,E,fe,hk,rfl,hE,hKr,hU,hS,hEl,hdo⟩:=hrel;have HE:=Hi hE;have LB:=Hi hKr;have HU:=Hi hU;have HS:=Hi hS;have LC:=Hi hdo;clear hE hKr hU hS hdo;by_cases hlt:k < n
  ·have Gz:k < vs.length:=(by rw[HN.out];exact hlt);have Sv:k < fs.length:=(by rw[←HF.len];exact Gz);obtain⟨aAU,F,recv,Im,hv,auy,auL⟩:=HF.each k Gz Sv;have hc0:=HV k _ (BP Gz);have hc:wr.cell? ⟨g,k,none⟩=some (.func (.func F) recv Im):=by
    rw[←hv,←hc0];exact HU.cell (p:=⟨g,k,none⟩) HG.lt (fun hk=>by have:=HD.kindOf hk HG.out;revert this;decide)
   have hst:doS (fs.drop k) E=if(fs[k] E).2=0 then doS (fs.drop (k+1)) (fs[k] E).1 else fs[k] E:=by
    rw[Na Sv,Uv]
   have DU:=aAU E;have hcl:=auL wr E fe LB HE (by omega);generalize fs[k]=f at*;have D6:=Hi hcl;have HST:=Hi hst;clear hc0 hv auL aAU hcl hst Gz Sv;go_wp2_with fail;refine D6.mono ?_;rintro e w1⟨rfl,jC,hd1,hu1,hs1⟩;have HD1:=Hi hd1;have Oj:=Hi (Gy _ _ _ _ LB HE hu1);have Gx:=Hi (HU.trans hu1 HS)
   have Bb:=Hi (show Cg fp jC w from fun i hi=>by
    rcases hs1 i hi with h|h
    ·exact HS i h
    ·exact .inr (Ah HU.size h))
   clear hd1 hu1 hs1 hc;generalize f E=r at*;obtain⟨E1,e1⟩:=r;by_cases h0:e1=0
   ·subst h0;have Nu:=Hi (show doS fs D=doS (fs.drop (k+1)) E1 by rw[LC.out,HST.out];rfl);have Sw:E1.loose.length≤E.loose.length+1000000:=DU;have avn:=aif _ _ _ _ Sw hEl;have aih:=Hi avn;clear DU avn;go_wp2_with fail;go_roundw
    case rel=>exact⟨k+1,E1,jC,by omega,by go_num,HD1,Oj,Gx,Bb,aih,Nu⟩
    case measure=>simp[intOf];omega
   ·have hb0:(e1 == 0)=false:=(by simp[h0]);have hb1:(e1 != 0)=true:=(by simp[h0]);have Nu:=Hi (show doS fs D=(E1,e1) by rw[LC.out,HST.out,Aa h0]);have EA:=Hi (HL.disk HD Gx);have H0:=Hi h0;obtain⟨c0,c1,c2,c3,c4,c5,c6,cf⟩:=EA.cells;have cf6:=cf 6;clear h0 DU cf;go_wp2_with fail;go_ret;unfold jB;rw[Nu.out];refine⟨rfl,jC,HD1.upd (F:=fun i=>i=x) ((A7.refl (fun i=>i=x) w1).setCell (p:=⟨x,6,none⟩) (.inl rfl) _) (fun i hi e=>EA.apart HD1 (by rw[←e];exact hi)),?_,(Gx.mono (fun i hi=>.inl hi)).setCell (p:=⟨x,6,none⟩) (.inl (.inr rfl)) _,Bb.out⟩;rw[Aa (by exact H0.out)];exact EA.ZQ e1
  ·obtain rfl:k=n:=(by omega);have hfl:fs.drop k=[]:=List.drop_eq_nil_of_le (by rw[←HF.len,HN.out];exact Ab _);have Nu:=Hi (LC.trans (aie hfl E));have EA:=Hi (HL.disk HD HU);clear hfl;go_wp2_with fail;go_ret;unfold jB;rw[Nu.out];exact⟨rfl,fe,HE,by rw[Ac rfl];exact EA.out,HU.mono (fun i hi=>.inl hi),HS.out⟩
end
section
open Go.RowKit Go.Maps
open Wal
theorem Fe{w:World}{k:Nat}{v:Value}{t:TypeId}(h:w.heap[k]?=some (.cells #[v] t)):w.cell? ⟨k,0,none⟩=some v:=by rw[AY w _ _ _ _ _ h];rfl
theorem jD(g:Nat):IntKind.u64.wrap ((g:Int)+1)=(((g+1) % 18446744073709551616:Nat):Int):=by
 simp[IntKind.wrap,IntKind.bits,IntKind.signed]
structure LD(W:World)(x b:Nat)(gv:Value)(L:AO)(c0 s0 k0:Nat)(s:List UInt8)(k:Nat):Prop where
 Cy:Bq W x b gv L
 box:W.heap[c0]?=some (.cells #[.pointer (some ⟨x,0,none⟩)] 111)
 txt:W.heap[s0]?=some (.cells #[.string (bs s)] 9)
 num:W.heap[k0]?=some (.cells #[.int .i64 (k:Int)] 3)
theorem LD.upd{W W':World}{x b:Nat}{gv:Value}{L:AO}{c0 s0 k0:Nat}{s:List UInt8}{k:Nat}(h:LD W x b gv L c0 s0 k0 s k){b':Nat}{D:Dsk}{fp:Nat→Prop}(hd:AU W b' D fp)(hu:A7 fp W W'):LD W' x b gv L c0 s0 k0 s k:=
 ⟨h.Cy.disk hd hu,(hu.block c0 (Ae h.box) (fun hk=>by have:=hd.kindOf hk ⟨_,_,h.box⟩;revert this;decide)).trans h.box,(hu.block s0 (Ae h.txt) (fun hk=>by have:=hd.kindOf hk ⟨_,_,h.txt⟩;revert this;decide)).trans h.txt,(hu.block k0 (Ae h.num) (fun hk=>by have:=hd.kindOf hk ⟨_,_,h.num⟩;revert this;decide)).trans h.num⟩
theorem LD.below{W W':World}{x b:Nat}{gv:Value}{L:AO}{c0 s0 k0:Nat}{s:List UInt8}{k:Nat}(h:LD W x b gv L c0 s0 k0 s k)(hb:Bw W W'):LD W' x b gv L c0 s0 k0 s k:=
 ⟨h.Cy.below hb,(hb.block c0 (Ae h.box)).trans h.box,(hb.block s0 (Ae h.txt)).trans h.txt,(hb.block k0 (Ae h.num)).trans h.num⟩
theorem LD.cells{W:World}{x b:Nat}{gv:Value}{L:AO}{c0 s0 k0:Nat}{s:List UInt8}{k:Nat}(h:LD W x b gv L c0 s0 k0 s k):
  W.cell? ⟨c0,0,none⟩=some (.pointer (some ⟨x,0,none⟩))∧W.cell? ⟨s0,0,none⟩=some (.string (bs s))∧W.cell? ⟨k0,0,none⟩=some (.int .i64 (k:Int))∧
  W.cell? ⟨x,0,none⟩=some (.int .u64 (L.gen:Int))∧W.cell? ⟨x,1,none⟩=some (.int .i64 (L.used:Int))∧W.cell? ⟨x,2,none⟩=some (.pointer (some ⟨b,0,none⟩))∧W.cell? ⟨x,3,none⟩=some (.int .i64 (L.from_:Int)):=by
 obtain⟨c0,c1,c2,c3,_⟩:=h.Cy.cells;exact⟨Fe h.box,Fe h.txt,Fe h.num,c0,c1,c2,c3⟩
structure Nv(W:World)(x b:Nat)(gv:Value)(L:AO)(c0:Nat):Prop where
 Cy:Bq W x b gv L
 box:W.heap[c0]?=some (.cells #[.pointer (some ⟨x,0,none⟩)] 111)
theorem Nv.of{W:World}{x b:Nat}{gv:Value}{L:AO}{c0:Nat}(h:Bq W x b gv L)(h2:W.heap[c0]?=some (.cells #[.pointer (some ⟨x,0,none⟩)] 111)):Nv W x b gv L c0:=⟨h,h2⟩
theorem Nv.upd{W W':World}{x b:Nat}{gv:Value}{L:AO}{c0:Nat}(h:Nv W x b gv L c0){b':Nat}{D:Dsk}{fp:Nat→Prop}(hd:AU W b' D fp)(hu:A7 fp W W'):Nv W' x b gv L c0:=
 ⟨h.Cy.disk hd hu,(hu.block c0 (Ae h.box) (fun hk=>by have:=hd.kindOf hk ⟨_,_,h.box⟩;revert this;decide)).trans h.box⟩
theorem Nv.below{W W':World}{x b:Nat}{gv:Value}{L:AO}{c0:Nat}(h:Nv W x b gv L c0)(hb:Bw W W'):Nv W' x b gv L c0:=
 ⟨h.Cy.below hb,(hb.block c0 (Ae h.box)).trans h.box⟩
section
variable {W:World}{x b:Nat}{gv:Value}{L:AO}{c0 s0 k0:Nat}{s:List UInt8}{k:Nat}{D:Dsk}{fp:Nat→Prop}
theorem jE{f:Dsk→Dsk×Int}{e:Ending}{W':World}(he:e=.returned (.int .i64 (f D).2)){fp':Nat→Prop}(hd:AU W' b (f D).1 fp')(hu:A7 fp W W')(hs:Cg fp fp' W):QR W b D fp f e W':=⟨he,fp',hd,hu,hs⟩
theorem aij(h:LD W x b gv L c0 s0 k0 s k)(hd:AU W b D fp)(hs:s.length≤10000000)(hl:D.loose.length≤500000000):
  Calls prog 175 #[.pointer (some ⟨c0,0,none⟩),.pointer (some ⟨s0,0,none⟩)] W (QR W b D fp (fun D=>D.write ((L.from_+1+L.used:Nat):Int) s)):=by
 have g1:=h.Cy.used;have g2:=h.Cy.n;have HC:=Hi h;have HD:=Hi hd;have aAr:=fun(W':World) (hb:Bw W W')=>(h.below hb).cells
 have ar8:=Hi aAr;have e1:IntKind.i64.wrap ((L.from_:Int)+1)=(L.from_:Int)+1:=CZ _ (by omega);have e2:IntKind.i64.wrap ((L.from_:Int)+1+(L.used:Int))=(L.from_:Int)+1+(L.used:Int):=CZ _ (by omega);have hat:((L.from_+1+L.used:Nat):Int)=(L.from_:Int)+1+(L.used:Int):=by omega
 have hw:=fun(W':World) (hb:Bw W W')=>Ws (hd.below hb) ((L.from_:Int)+1+(L.used:Int)) s (by omega) (by omega) (by omega)
 have HW:=Hi hw;have HAT:=Hi hat;obtain⟨d0,d1,d2,d3,d4,d5,d6⟩:=h.cells;clear h hd aAr hw hat;rw[HAT.out];go_enter func175,ntmps175;go_wp2_with fail
 go_region_held3 (fun V=>V.cell? ⟨c0,0,none⟩=some (.pointer (some ⟨x,0,none⟩))∧V.cell? ⟨s0,0,none⟩=some (.string (bs s))∧V.cell? ⟨x,1,none⟩=some (.int .i64 (L.used:Int))∧V.cell? ⟨x,2,none⟩=some (.pointer (some ⟨b,0,none⟩))∧V.cell? ⟨x,3,none⟩=some (.int .i64 (L.from_:Int)))
  (first|exact⟨d0,d1,d4,d5,d6⟩|exact⟨KA.cells.1,KA.cells.2.1,KA.cells.2.2.2.2.1,KA.cells.2.2.2.2.2.1,KA.cells.2.2.2.2.2.2⟩)
  (first
   |(go_at_call 134;refine(HW _ ((Ad W.heap.size W).drew)).mono ?_;rintro e wa ⟨rfl,xL,LF,Nw,hsa⟩;have KA:=Hi ((HC.below ((Ad W.heap.size W).drew)).upd (HD.below ((Ad W.heap.size W).drew)) Nw);have Ha:=Hi (BD LF (BD Nw hsa));clear LF Nw hsa))
 go_wp2_with fail;go_ret;exact jE rfl Ha.1 ((A7.of_below (F:=fp) ((Ad W.heap.size W).drew)).trans Ha.2.1 (fun _ h=>.inl h)) Ha.2.2
theorem aik(h:LD W x b gv L c0 s0 k0 s k)(hd:AU W b D fp)(hk:k≤1000000)(hl:D.loose.length≤500000000):
  Calls prog 176 #[.pointer (some ⟨c0,0,none⟩),.pointer (some ⟨k0,0,none⟩)] W (QR W b D fp (fun D=>D.write (L.from_:Int) (Wal.mark L.gen (L.used+k)))):=by
 have g1:=h.Cy.used;have g2:=h.Cy.n;have g3:=h.Cy.gen;have HC:=Hi h;have HD:=Hi hd;have e2:IntKind.i64.wrap ((L.used:Int)+(k:Int))=(L.used:Int)+(k:Int):=CZ _ (by omega);have hm:=fun(W':World)=>WB L.gen (L.used+k) W' g3 (by omega)
 have DU:=Wal.Je L.gen (L.used+k);have hw:=fun(W':World) (hb:Bw W W')=>Ws (hd.below hb) (L.from_:Int) (Wal.mark L.gen (L.used+k)) (by omega) (by omega) (by omega)
 have ayV:((L.used+k:Nat):Int)=(L.used:Int)+(k:Int):=by omega
 rw[ayV] at hm;have HM:=Hi hm;have HW:=Hi hw;obtain⟨d0,d1,d2,d3,d4,d5,d6⟩:=h.cells;clear h hd hm hw DU ayV g3;go_enter func176,ntmps176;go_wp2_with fail
 go_region_held3 (fun V=>V.cell? ⟨c0,0,none⟩=some (.pointer (some ⟨x,0,none⟩))∧V.cell? ⟨k0,0,none⟩=some (.int .i64 (k:Int))∧V.cell? ⟨x,0,none⟩=some (.int .u64 (L.gen:Int))∧V.cell? ⟨x,1,none⟩=some (.int .i64 (L.used:Int))∧V.cell? ⟨x,2,none⟩=some (.pointer (some ⟨b,0,none⟩))∧V.cell? ⟨x,3,none⟩=some (.int .i64 (L.from_:Int)))
  (first|exact⟨d0,d2,d3,d4,d5,d6⟩|exact⟨KM.cells.1,KM.cells.2.2.1,KM.cells.2.2.2.1,KM.cells.2.2.2.2.1,KM.cells.2.2.2.2.2.1,KM.cells.2.2.2.2.2.2⟩|exact⟨KA.cells.1,KA.cells.2.2.1,KA.cells.2.2.2.1,KA.cells.2.2.2.2.1,KA.cells.2.2.2.2.2.1,KA.cells.2.2.2.2.2.2⟩)
  (first
   |(go_at_call 128;refine(HM _).mono ?_;rintro e wm ⟨rfl,KE⟩;have Ny:=Hi (((Ad W.heap.size W).drew).trans KE);have KM:=Hi (HC.below Ny);clear KE)
   |(go_at_call 134;refine(HW _ Ny).mono ?_;rintro e wa ⟨rfl,xL,LF,Nw,hsa⟩;have KA:=Hi (KM.upd (HD.below Ny) Nw);have Ha:=Hi (BD LF (BD Nw hsa));clear LF Nw hsa))
 go_wp2_with fail;go_ret;refine jE rfl Ha.1 ((A7.of_below (F:=fp) Ny).trans Ha.2.1 (fun _ h=>.inl h)) (fun i hi=>?_);rcases Ha.2.2 i hi with h|h
 ·exact .inl h
 ·exact .inr (Ah Ny.size h)
theorem ail(h:Nv W x b gv L c0)(hd:AU W b D fp)(hl:D.loose.length≤500000000):
  Calls prog 133 #[.pointer (some ⟨c0,0,none⟩)] W (QR W b D fp (fun D=>D.write (L.from_:Int) (Wal.mark ((L.gen+1) % 18446744073709551616) 0))):=by
 have g2:=h.Cy.n;have g3:(L.gen+1) % 18446744073709551616 < 18446744073709551616:=Nat.mod_lt _ (by decide);have HC:=Hi h;have HD:=Hi hd;have e2:IntKind.u64.wrap ((L.gen:Int)+1)=(((L.gen+1) % 18446744073709551616:Nat):Int):=jD L.gen;have d0:=Fe h.box;obtain⟨d3,_,d5,d6,_⟩:=h.Cy.cells;have HE:=Hi e2;generalize (L.gen+1) % 18446744073709551616=g at*;have hm:=fun(W':World)=>WB g 0 W' g3 (by decide)
 have DU:=Wal.Je g 0;have hw:=fun(W':World) (hb:Bw W W')=>Ws (hd.below hb) (L.from_:Int) (Wal.mark g 0) (by omega) (by omega) (by omega)
 have HM:=Hi hm;have HW:=Hi hw;clear h hd hm hw DU g3;go_enter func133,ntmps133;go_wp2_with fail
 go_region_held3 (fun V=>V.cell? ⟨c0,0,none⟩=some (.pointer (some ⟨x,0,none⟩))∧V.cell? ⟨x,0,none⟩=some (.int .u64 (L.gen:Int))∧V.cell? ⟨x,2,none⟩=some (.pointer (some ⟨b,0,none⟩))∧V.cell? ⟨x,3,none⟩=some (.int .i64 (L.from_:Int)))
  (first|exact⟨d0,d3,d5,d6⟩|exact⟨Fe KM.box,KM.Cy.cells.1,KM.Cy.cells.2.2.1,KM.Cy.cells.2.2.2.1⟩|exact⟨Fe KA.box,KA.Cy.cells.1,KA.Cy.cells.2.2.1,KA.Cy.cells.2.2.2.1⟩)
  (first
   |(go_at_call 128;refine(HM _).mono ?_;rintro e wm ⟨rfl,KE⟩;have Ny:=Hi (((Ad W.heap.size W).drew).trans KE);have KM:=Hi (HC.below Ny);clear KE)
   |(go_at_call 134;refine(HW _ Ny).mono ?_;rintro e wa ⟨rfl,xL,LF,Nw,hsa⟩;have KA:=Hi (KM.upd (HD.below Ny) Nw);have Ha:=Hi (BD LF (BD Nw hsa));clear LF Nw hsa))
 go_wp2_with fail;go_ret;refine jE rfl Ha.1 ((A7.of_below (F:=fp) Ny).trans Ha.2.1 (fun _ h=>.inl h)) (fun i hi=>?_);rcases Ha.2.2 i hi with h|h
 ·exact .inl h
 ·exact .inr (Ah Ny.size h)
end
theorem aim{x b:Nat}{gv:Value}{L:AO}{c0 s0 k0:Nat}{s:List UInt8}(hs:s.length≤10000000):
  jA (fun W=>LD W x b gv L c0 s0 k0 s (s.length / 64)) b
   [.func (.func 175) #[] #[.pointer (some ⟨c0,0,none⟩),.pointer (some ⟨s0,0,none⟩)],.func (.func 135) #[.pointer (some ⟨b,0,none⟩)] #[],.func (.func 176) #[] #[.pointer (some ⟨c0,0,none⟩),.pointer (some ⟨k0,0,none⟩)],.func (.func 135) #[.pointer (some ⟨b,0,none⟩)] #[]] (L.acts s):=by
 have hfl:xJ (fun W=>LD W x b gv L c0 s0 k0 s (s.length / 64)) b (.func (.func 135) #[.pointer (some ⟨b,0,none⟩)] #[]) Dsk.flush:=
  ⟨fun D=>by have:=Dsk.Oa D;omega,_,_,_,rfl,enters_of func135 (by kernel_rfl) rfl,fun W D fp _ hd hl=>Ze hd (by omega)⟩
 refine⟨rfl,fun i h h'=>?_⟩
 match i,h with
 |0,_=>exact⟨fun D=>by have:=Dsk.Ng D ((L.from_+1+L.used:Nat):Int) s;show(D.write ((L.from_+1+L.used:Nat):Int) s).1.loose.length≤_;omega,_,_,_,rfl,enters_of func175 (by kernel_rfl) rfl,fun W D fp hK hd hl=>aij hK hd hs hl⟩
 |1,_=>exact hfl
 |2,_=>exact⟨fun D=>by have:=Dsk.Ng D (L.from_:Int) (Wal.mark L.gen (L.used+s.length / 64));rw[Wal.Je] at this;show(D.write (L.from_:Int) (Wal.mark L.gen (L.used+s.length / 64))).1.loose.length≤_;omega,_,_,_,rfl,enters_of func176 (by kernel_rfl) rfl,fun W D fp hK hd hl=>aik hK hd (by omega) hl⟩
 |3,_=>exact hfl
theorem ain{x b:Nat}{gv:Value}{L:AO}{c0:Nat}:
  jA (fun W=>Nv W x b gv L c0) b
   [.func (.func 133) #[] #[.pointer (some ⟨c0,0,none⟩)],.func (.func 135) #[.pointer (some ⟨b,0,none⟩)] #[]] L.Hz:=by
 refine⟨rfl,fun i h h'=>?_⟩
 match i,h with
 |0,_=>exact⟨fun D=>by have:=Dsk.Ng D (L.from_:Int) (Wal.mark ((L.gen+1) % 18446744073709551616) 0);rw[Wal.Je] at this;show(D.write (L.from_:Int) (Wal.mark ((L.gen+1) % 18446744073709551616) 0)).1.loose.length≤_;omega,_,_,_,rfl,enters_of func133 (by kernel_rfl) rfl,fun W D fp hK hd hl=>ail hK hd hl⟩
 |1,_=>exact⟨fun D=>by have:=Dsk.Oa D;show D.flush.1.loose.length≤_;omega,_,_,_,rfl,enters_of func135 (by kernel_rfl) rfl,fun W D fp _ hd hl=>Ze hd (by omega)⟩
end
end Go.Proofs.YtmbbhdebddbhoaaGreat
