/- Builder DiskWalks -/
import Derived.Test.YtmbbhdebddbhoaaGreatR1
import Derived.Lib.Builder
import Derived.Lib.UnsafeStr
import Derived.Laws.Externs
import Derived.Maps.AppendAt
import Derived.BigQuiet
import Derived.Deep.QuietTactic
import Derived.WalkSpells
set_option maxHeartbeats 1000000
set_option maxRecDepth 100000
set_option linter.all false
namespace Go.Proofs.YtmbbhdebddbhoaaGreat
open Tryz
section
open Go.RowKit Go.Maps
def DL(w:World)(b:Nat)(l:List UInt8)(fp:Nat→Prop):Prop:=
 ∃ p v,w.heap[b]?=some (.cells #[.pointer p,v] 234)∧(p=none∨p=some ⟨b,0,none⟩)∧w.ownsRow 0 5 1 v l.length (BV l)∧v.ownBlock≠some b∧(l=[]→v=.slice none 0 0)∧fp=fun k=>k=b∨v.ownBlock=some k
theorem DL.made(w:World):DL (w.alloc (.cells #[.pointer none,.slice none 0 0] 234)) w.heap.size [] (fun k=>k=w.heap.size∨(Value.slice none 0 0).ownBlock=some k):=
 ⟨none,.slice none 0 0,AJ w _,.inl rfl,⟨by rw[ML];rfl,.inl ⟨rfl,rfl⟩⟩,by simp[Value.ownBlock],fun _=>rfl,rfl⟩
theorem DL.lt{w:World}{b:Nat}{l:List UInt8}{fp:Nat→Prop}(h:DL w b l fp):∀ k,fp k→k < w.heap.size:=by
 obtain⟨p,v,h1,_,h3,_,_,rfl⟩:=h;rintro k (rfl|hk)
 ·exact(CR.1 h1).1
 ·exact ZB h3 hk
theorem DL.own{w:World}{b:Nat}{l:List UInt8}{fp:Nat→Prop}(h:DL w b l fp):fp b:=by
 obtain⟨p,v,_,_,_,_,_,rfl⟩:=h;exact .inl rfl
theorem DL.upd{F:Nat→Prop}{w w':World}{b:Nat}{l:List UInt8}{fp:Nat→Prop}(h:DL w b l fp)(hu:A7 F w w')(hF:∀ k,fp k→¬ F k):DL w' b l fp:=by
 obtain⟨p,v,h1,h2,h3,h4,h5,rfl⟩:=h;exact⟨p,v,by rw[hu.block b (CR.1 h1).1 (hF b (.inl rfl))];exact h1,h2,Bh h3 hu (fun g hg=>hF g (.inr hg)),h4,h5,rfl⟩
theorem aqd:∃ j,prog.info? 234=some j∧j.size=2:=by
 have h:(prog.info? 234).map (·.size)=some 2:=by kernel_rfl
 exact Tg.1 h
theorem aqc:liesAt prog prog.depth 234 (2 / prog.cellsOf 234) 0 234 1=true:=by kernel_rfl
theorem aU:(prog.info? 5).map (fun i=>(i.zero,i.size,i.bytes))=some (some (.int .u8 0),1,1):=by kernel_rfl
theorem yO(b:Nat)(p:Option Addr)(v:Value)(w:World)(hb:w.heap[b]?=some (.cells #[.pointer p,v] 234))(hp:p=none∨p=some ⟨b,0,none⟩):
  Calls prog 207 #[.pointer (some ⟨b,0,none⟩)] w fun e w'=>e=.returned (.tuple #[])∧w'.heap[b]?=some (.cells #[.pointer (some ⟨b,0,none⟩),v] 234)∧A7 (fun k=>k=b) w w':=by
 obtain⟨j,hj,hjs⟩:=aqd;have c0:w.cell? ⟨b,0,none⟩=some (.pointer p):=by rw[Lib.cell_of_heap hb];rfl
 rcases hp with rfl|rfl
 ·have hf:=Lib.frozen_of_heap hb 0;have Nq:w.shape? b=some (234,2):=by simp[World.shape?,hb]
  go_enter func207,ntmps207;go_wp2_with fail;rw[Lib.run_to_unsafe w ⟨b,0,none⟩ underlying231 underlying302 hj (by rw[hjs];decide) Nq (Nat.zero_lt_succ 1)];simp only[Result.andThen];rw[Oper.upon_value];go_wp2_with fail;rw[run_callFunc_extern func237 (by kernel_rfl) (by kernel_rfl) (by kernel_rfl) (e:=Extern.AbiNoEscape.same) (by kernel_rfl)];rw[Lib.run_noEscape];simp only[Result.andThen];rw[Oper.upon_value];go_wp2_with fail;rw[Lib.run_from_unsafe w ⟨b,0,none⟩ underlying302 underlying231 hj Nq aqc];simp only[Result.andThen];rw[Oper.upon_value];go_wp2_with fail
  go_end0
  exact⟨rfl,BU w b 0 _ _ _ hb,(A7.refl (fun k=>k=b) w).setCell (p:=⟨b,0,none⟩) (.inl rfl) _⟩
 ·go_enter func207,ntmps207;go_wp2_with fail;rw[Lib.run_neq_ptr_same w _ underlying231 hj];go_wp2_with fail
  go_end0
  exact⟨rfl,hb,A7.refl _ _⟩
theorem afl{w:World}{b:Nat}{l:List UInt8}{fp:Nat→Prop}(h:DL w b l fp)(g off c:Nat)(k:List UInt8)(hk:∀ i,(hi:i < k.length)→w.cell? ⟨g,off+i,none⟩=some (.int .u8 (k[i].toNat:Int)))
  (hg:¬ fp g)(hlen:l.length+k.length≤1099511627776)(n:Nat)(hn:k.length=n):
  Calls prog 185 #[.pointer (some ⟨b,0,none⟩),.slice (some ⟨g,off,none⟩) n c] w fun e w'=>e=.returned (.tuple #[.int .i64 (n:Int),.nilIface])∧∃ fp',DL w' b (l++k) fp'∧A7 fp w w'∧D6 fp fp' w:=by
 obtain⟨p,v,hb,hp,hown,hne,Xi,rfl⟩:=h;have mO:=Hi Xi;clear Xi;obtain⟨i0,hi,AQ,AU,AV⟩:=Du aU;have QZ:g≠b:=fun e=>hg (.inl e)
 have HK:=Hi hk;clear hk;subst hn;go_enter func185,ntmps185;go_wp2_with fail;refine(yO b p v _ hb hp).mono ?_;rintro e w1⟨rfl,Ad,F8⟩;have jb:b < w.heap.size:=(CR.1 hb).1;have Kj:w1.ownsRow 0 5 1 v l.length (BV l):=Bh hown F8 (fun q hq e=>hne (by rw[hq,e]));have c1:w1.cell? ⟨b,1,none⟩=some v:=by rw[Lib.cell_of_heap Ad];rfl
 have Xh:∀ j u,(BV k)[j]?=some u→w1.cell? ((⟨g,off,none⟩:Addr).add j)=some u:=by
  intro j u hj;have Ju:j < k.length:=by
   have:=(Uw.1 hj).1;rwa[ML] at this
  have e:(⟨g,off,none⟩:Addr).add j=⟨g,off+j,none⟩:=by unfold Addr.add;split<;>simp_all
  have hc:=HK j Ju;rw[e,F8.cell (p:=⟨g,off+j,none⟩) (BS hc) QZ,hc];rw[lK k j Ju] at hj;exact hj
 go_wp2_with (at_builtin;refine wpList_append_own_at _ rfl _ _ 232 rfl 0 5 i0 (.int .u8 0) 1 1 underlying232 hi AQ AU AV rfl (by decide) _ _ _ rfl Kj ⟨g,off,none⟩ k.length c (BV k) rfl (by rw[ML,Nat.mul_one]) Xh (lL k) ?c3 ?c4 ?c5 ?_)
 case c3=>unfold maxLen;omega
 case c4=>omega
 case c5=>omega
 intro v' w2 BB Az Vs hat;have MW:=Hi Vs;clear Vs;have A8:w2.heap[b]?=some (.cells #[.pointer (some ⟨b,0,none⟩),v] 234):=by
  rw[Az.block b (DK jb F8.size) (fun e=>hne e.symm)];exact Ad
 have d1:w2.cell? ⟨b,1,none⟩=some v:=by rw[Lib.cell_of_heap A8];rfl
 have f1:w2.frozen? ⟨b,1,none⟩=false:=Lib.frozen_of_heap A8 1;have Jd:v'.ownBlock≠some b:=by
  rcases hat with hat|hat
  ·rw[hat];exact hne
  ·rw[hat];intro e;have:=G7 e;have:=F8.size;omega
 have Ya:Hid (l++k=[]→v'=.slice none 0 0):=Hi (fun e=>by
  obtain⟨e1,e2⟩:=List.append_eq_nil_iff.1 e;exact MW.2 ⟨mO e1,e2⟩)
 obtain⟨ao,n',cap,rfl⟩:∃ ao n' cap,v'=.slice ao n' cap:=by
  rcases BB.2 with⟨hv,_⟩|⟨g,cap,cur,hv,_⟩
  ·exact⟨_,_,_,hv⟩
  ·exact⟨_,_,_,hv⟩
 clear c1 Xh;go_wp2_with fail;go_ret2;have Ep:A7 (fun k=>k=b∨v.ownBlock=some k) w w2:=(F8.mono (fun i e=>Or.inl e)).trans (A7.of_grownBy (F:=fun k=>k=b∨v.ownBlock=some k) Az (fun q e=>.inr e)) (fun i e=>.inl e);have CP:=Ep.setCell (p:=⟨b,1,none⟩) (.inl (.inl rfl)) (.slice ao n' cap);refine⟨rfl,fun q=>q=b∨(Value.slice ao n' cap).ownBlock=some q,⟨some ⟨b,0,none⟩,.slice ao n' cap,BU w2 b 1 _ _ _ A8,.inr rfl,?_,Jd,Ya.out,rfl⟩,CP,?_⟩
 ·rw[Au,ZP];exact Bh BB ((A7.refl (fun q=>q=b) w2).setCell (p:=⟨b,1,none⟩) (.inl rfl) _) (fun q hq e=>Jd (by rw[hq,e]))
 ·rintro q (rfl|hq)
  ·exact .inl (.inl rfl)
  ·rcases hat with hat|hat
   ·exact .inl (.inr (by rw[←hat];exact hq))
   ·rw[hat] at hq;have:=G7 hq;exact .inr (by have:=F8.size;omega)
theorem WG{w:World}{b:Nat}{l:List UInt8}{fp:Nat→Prop}(h:DL w b l fp):
  Calls prog 161 #[.pointer (some ⟨b,0,none⟩)] w fun e w'=>e=.returned (.string (bs l))∧A7 fp w w':=by
 obtain⟨p,v,hb,hp,hown,hne,Vs,rfl⟩:=h;have WZ:w.drew.heap[b]?=some (.cells #[.pointer p,v] 234):=hb;have c1:w.drew.cell? ⟨b,1,none⟩=some v:=by rw[Lib.cell_of_heap WZ];rfl
 rcases hown.2 with⟨rfl,h0⟩|⟨g,cap,cur,rfl,_,hg,hnc,QX,Dv,av6⟩
 ·obtain rfl:l=[]:=by simpa using h0
  have hUS:(Builtin.unsafeString_ #[275,3] 9 #[.pointer none,.int .i64 0]).run prog w.drew=.ok (.string .empty) w.drew:=Lib.run_unsafeString_none _ _ _ _ _;have hSD:(Builtin.unsafeSliceData_ #[232] 275 #[.slice none 0 0]).run prog w.drew=.ok (.pointer none) w.drew:=rfl;clear hp hne hown;go_enter func161,ntmps161;go_wp2_with fail;go_region;all_goals (go_wp2;go_ret;exact⟨rfl,(A7.refl _ _).drew⟩)
 ·by_cases h0:l=[]
  ·have:=Vs h0;simp at this
  ·have LD:l.length≠0:=(by simpa using h0);have hSD:(Builtin.unsafeSliceData_ #[232] 275 #[.slice (some ⟨g,0,none⟩) l.length cap]).run prog w.drew=.ok (.pointer (some ⟨g,0,none⟩)) w.drew:=Lib.run_unsafeSliceData_row _ _ _ _ _ _ (by omega);have hUS:(Builtin.unsafeString_ #[275,3] 9 #[.pointer (some ⟨g,0,none⟩),.int .i64 l.length]).run prog w.drew=.ok (.string (bs l)) (w.drew.freeze ⟨g,0,none⟩ l.length):=by
    refine Lib.run_unsafeString_row w.drew 275 3 9 5 underlying275 (by kernel_rfl) g cur.size (by have Sn:w.drew.heap[g]?=some (.cells cur 5 (0,0)):=hg;simp[World.shape?,Sn]) l h0 (by omega) (by unfold maxLen at QX;omega) ?_;intro j x hx;have Ju:=(Uw.1 hx).1;have:=hown.cells (g:=g) rfl j (.int .u8 x.toNat) (by rw[lK l j Ju];rw[Cn Ju] at hx;rw[G7 hx]);exact this
   have hfz:A7 (fun k=>k=b∨(Value.slice (some ⟨g,0,none⟩) l.length cap).ownBlock=some k) w (w.drew.freeze ⟨g,0,none⟩ l.length):=by
    refine((A7.refl _ w).drew).trans (G:=fun k=>k=g) ?_ (fun i e=>.inl (.inr (by rw[e];rfl)));unfold World.freeze;split
    ·exact A7.refl _ _
    ·refine⟨rfl,rfl,rfl,by simp,fun k _ hF=>?_⟩;simp only[Array.getElem?_modify];rw[Aa (fun e=>hF e.symm)]
   have HF:=Hi hfz;clear hp hne hown hfz;go_enter func161,ntmps161;go_wp2_with fail;go_region;all_goals (go_wp2;go_ret;exact⟨rfl,HF⟩)
theorem Em.cells{w:World}{b m:Nat}{lv:Value}{D:Dsk}(h:Em w b m lv D):
  w.cell? ⟨b,0,none⟩=some (.int .i64 (D.n:Int))∧w.cell? ⟨b,1,none⟩=some (.map (some m))∧w.cell? ⟨b,2,none⟩=some lv∧w.cell? ⟨b,3,none⟩=some (.int .i64 D.left)∧w.cell? ⟨b,4,none⟩=some (.bool D.down)∧∀ j,w.frozen? ⟨b,j,none⟩=false:=by
 refine⟨?_,?_,?_,?_,?_,fun j=>CJ w b j _ _ h.struct⟩<;>rw[BA w b _ _ _ _ h.struct]<;>rfl
theorem awM(n:Nat)(w:World)(h1:1≤n)(h2:n≤16384):
  Calls prog 62 #[.int .i64 n] w fun e w'=>∃ b fp,e=.returned (.tuple #[.pointer (some ⟨b,0,none⟩),.int .i64 0])∧Bl w' b (Dsk.new n) fp∧Bw w w'∧∀ k,fp k→w.heap.size≤k:=by
 have KR:=@run_makeMap prog;go_enter func62,ntmps62;go_wp2_with fail;go_ret2;refine⟨w.heap.size+1,PT (w.heap.size+1) w.heap.size (.slice none 0 0),?_,⟨w.heap.size,.slice none 0 0,⟨?_,?_,?_,?_,?_,?_,?_⟩,rfl⟩,?_,?_⟩
 ·rfl
 ·exact heap_alloc2_new w _ _
 ·exact(N7.made w n).kept (heap_alloc_old _ _ (by simp))
 ·exact⟨by simp[Dsk.new,akL],.inl ⟨rfl,rfl⟩⟩
 ·omega
 ·simp[Value.ownBlock]
 ·simp[Value.ownBlock]
 ·exact Dsk.BM.new h1 h2
 ·exact((Af _ _).alloc (Ac _) _).alloc (by simp) _
 ·rintro k (rfl|rfl|hk)
  ·omega
  ·exact Ac _
  ·simp[Value.ownBlock] at hk
theorem XP{w:World}{b m:Nat}{lv:Value}{D:Dsk}(h:Em w b m lv D):Calls prog 183 #[.pointer (some ⟨b,0,none⟩)] w fun e w'=>e=.returned (.int .i64 D.up)∧w=w':=by
 obtain⟨c0,c1,c2,c3,c4,cf⟩:=h.cells;obtain⟨n,f,l,q,d⟩:=D;simp only at c4;clear c0 c1 c2 c3 cf;cases d
 ·go_enter func183,ntmps183;go_wp2_with fail;go_ret;exact⟨rfl,rfl⟩
 ·go_enter func183,ntmps183;go_wp2_with fail;go_ret;exact⟨rfl,rfl⟩
theorem abG{w:World}{b m:Nat}{lv:Value}{D:Dsk}(h:Em w b m lv D)(at_ n:Int)(_h1: -9223372036854775808≤at_)(_h2:at_≤9223372036854775807)(_h3: -9223372036854775808≤n)(_h4:n≤9223372036854775807):
  Calls prog 184 #[.pointer (some ⟨b,0,none⟩),.int .i64 at_,.int .i64 n] w fun e w'=>e=.returned (.bool (D.inside at_ n))∧w=w':=by
 obtain⟨c0,_,_,_,_,_⟩:=h.cells;have hN:=h.fine.n2;generalize Sj:D.n=N at*;have HN:=Hi Sj;clear Sj;by_cases a1:0≤at_
 ·have d1:decide (0≤at_)=true:=by simpa using a1
  by_cases a2:0≤n
  ·have d2:decide (0≤n)=true:=(by simpa using a2);by_cases a3:at_≤(N:Int)
   ·have d3:decide (at_≤(N:Int))=true:=(by simpa using a3);by_cases a4:n≤(N:Int) -at_
    ·have d4:decide (n≤(N:Int) -at_)=true:=(by simpa using a4);have HI:Hid (D.inside at_ n=true):=Hi (by unfold Dsk.inside;rw[HN.out,d1,d2,d3,d4];rfl);go_enter func184,ntmps184;go_wp2_with fail;go_ret;rw[HI.out];exact⟨rfl,rfl⟩
    ·have d4:decide (n≤(N:Int) -at_)=false:=(by simpa using a4);have HI:Hid (D.inside at_ n=false):=Hi (by unfold Dsk.inside;rw[HN.out,d1,d2,d3,d4];rfl);go_enter func184,ntmps184;go_wp2_with fail;go_ret;rw[HI.out];exact⟨rfl,rfl⟩
   ·have d3:decide (at_≤(N:Int))=false:=(by simpa using a3);have HI:Hid (D.inside at_ n=false):=Hi (by unfold Dsk.inside;rw[HN.out,d1,d2,d3];rfl);go_enter func184,ntmps184;go_wp2_with fail;go_ret;rw[HI.out];exact⟨rfl,rfl⟩
  ·have d2:decide (0≤n)=false:=(by simpa using a2);have HI:Hid (D.inside at_ n=false):=Hi (by unfold Dsk.inside;rw[d1,d2];rfl);go_enter func184,ntmps184;go_wp2_with fail;go_ret;rw[HI.out];exact⟨rfl,rfl⟩
 ·have d1:decide (0≤at_)=false:=by simpa using a1
  have HI:Hid (D.inside at_ n=false):=Hi (by unfold Dsk.inside;rw[d1];rfl);go_enter func184,ntmps184;go_wp2_with fail;go_ret;rw[HI.out];exact⟨rfl,rfl⟩
theorem XJ{w:World}{b:Nat}{D:Dsk}{fp:Nat→Prop}(h:Bl w b D fp):Calls prog 51 #[.pointer (some ⟨b,0,none⟩)] w fun e w'=>e=.returned (.int .i64 (D.n:Int))∧w=w':=by
 obtain⟨m,lv,h,rfl⟩:=h;obtain⟨c0,_,_,_,_,_⟩:=h.cells;go_enter func51,ntmps51;go_wp2_with fail;go_ret;exact⟨rfl,rfl⟩
theorem Em.set{w:World}{b m:Nat}{lv:Value}{D D':Dsk}(h:Em w b m lv D)(i:Nat)(v:Value)
  (hs:(#[.int .i64 (D.n:Int),.map (some m),lv,.int .i64 D.left,.bool D.down]:Array Value).setIfInBounds i v=#[.int .i64 (D'.n:Int),.map (some m),lv,.int .i64 D'.left,.bool D'.down])
  (hn:D'.n=D.n)(hb:D'.base=D.base)(hl:D'.loose=D.loose)(hf:D'.BM):Em (w.setCell ⟨b,i,none⟩ v) b m lv D':=by
 have hu:A7 (fun k=>k=b) w (w.setCell ⟨b,i,none⟩ v):=(A7.refl (fun k=>k=b) w).setCell (p:=⟨b,i,none⟩) (.inl rfl) v;refine⟨?_,?_,?_,h.mb,h.lb,h.lm,hf⟩
 ·rw[←hs];exact BU w b i _ _ v h.struct
 ·rw[hn,hb];exact h.base.kept (hu.block m h.base.lt h.mb)
 ·rw[hl];exact Bh h.loose hu (fun g hg e=>h.lb (by rw[hg,e]))
theorem agV{w:World}{b:Nat}{D:Dsk}{fp:Nat→Prop}(h:Bl w b D fp)(n:Int)(hn:n≤9223372036854775807):
  Calls prog 16 #[.pointer (some ⟨b,0,none⟩),.int .i64 n] w fun e w'=>e=.returned (.int .i64 0)∧Bl w' b (D.PX n) fp∧A7 fp w w':=by
 obtain⟨m,lv,hd,rfl⟩:=h;obtain⟨_,_,_,c3,_,cf⟩:=hd.cells;have hf3:=cf 3;clear cf;go_enter func16,ntmps16;go_wp2_with fail
 ·have hlt:n < -1:=by assumption
  go_ret;exact⟨rfl,⟨m,lv,hd.set 3 _ (by simp[Dsk.PX];omega) rfl rfl rfl (hd.fine.PX hn),rfl⟩,(A7.refl _ w).setCell (p:=⟨b,3,none⟩) (.inl (.inl rfl)) _⟩
 ·have IL: -1≤n:=by assumption
  go_ret;exact⟨rfl,⟨m,lv,hd.set 3 _ (by simp[Dsk.PX];omega) rfl rfl rfl (hd.fine.PX hn),rfl⟩,(A7.refl _ w).setCell (p:=⟨b,3,none⟩) (.inl (.inl rfl)) _⟩
end
end Go.Proofs.YtmbbhdebddbhoaaGreat
