/- FilCommit -/
import Derived.Test.YtkmninbcgipliaaGreatDoorQ6
set_option maxHeartbeats 8000000
set_option maxRecDepth 100000
set_option linter.all false
namespace Go.Proofs.YtkmninbcgipliaaGreatDoor
open Tryz
open Go.RowKit
open Go.Maps
section
open Af
theorem CG.aqt{w:World}{m:Nat}{F:M}(h:CG w m F):∃ es clock,w.heap[m]?=some (.map es clock)∧CG (w.alloc (.map es clock)) w.heap.size F:=by
 obtain⟨hu,kv,hp,⟨hn,D,⟨es,clock,hb,G,hs,hD⟩,rest⟩⟩:=h;exact⟨es,clock,hb,hu,kv,hp,⟨hn,D,⟨es,clock,(MapKept.heap_alloc w _).1,G,hs,hD⟩,rest⟩⟩
theorem aru(w:World)(p:Option Nat):(binOp .eql 113 (.map p) (.map none)).run prog w=.ok (.bool p.isNone) w:=by
 have h:∀ d,(Op.equalIn (d+1) 113 (.map p) (.map none)).run prog w=.ok p.isNone w:=fun d=>by
  cases p<;>simp[Op.equalIn,GK underlying113]
 simp only[binOp];simp[show Op.equal 113 (.map p) (.map none)=Op.equalIn (9999+1) 113 (.map p) (.map none) from rfl,h 9999]
theorem arz(w:World)(m:Nat)(es:Array MapEntry)(clock:Nat)(hb:w.heap[m]?=some (.map es clock)):
  Calls prog 55 #[.map (some m)] w fun e w'=>e=.returned (.map (some w.heap.size))∧w'=w.alloc (.map es clock):=by
 have hq:=fun w=>aru w (some m)
 have auo:(Extern.MapsClone.clone #[.iface 113 (.map (some m))]).run prog w=.ok (.iface 113 (.map (some w.heap.size))) (w.alloc (.map es clock)):=by
  have e:Extern.MapsClone.clone #[.iface 113 (.map (some m))]=(getObj m >>= fun o=>match o with
    | .map entries clock=>(newObj (.map entries clock) >>= fun n=>pure (.iface 113 (.map (some n))))
    |_=>stuck "maps.clone: a map expected"):=rfl
  rw[e];simp[MapKept.run_getObj_map hb,Result.andThen,go_sem]
 have hta:∀ W,(Instr.typeAssert (.iface 113 (.map (some w.heap.size))) 20 113 false).run prog W=.ok (.map (some w.heap.size)) W:=fun W=>by
  simp[Instr.typeAssert,GK underlying113,go_sem,Result.andThen]
 go_in
 have K7:=run_callFunc_extern (P:=prog) func133 (by kernel_rfl) (by kernel_rfl) (by kernel_rfl) (e:=Extern.MapsClone.clone) (by kernel_rfl) #[.iface 113 (.map (some m))] w;rw[auo] at K7;simp only[Result.andThen] at K7;go_wp2;go_ret;exact⟨rfl,rfl⟩
theorem arw(name data:T)(gone:Bool)(w:World)(hn:name.length≤maxLen)(hd:data.length≤maxLen):
  Calls prog 53 #[.agg #[.string (bs name),.string (bs data),.bool gone]] w fun e w'=>e=.returned (.bool (!Am.may ⟨name,data,gone⟩))∧Bw w w':=by
 have HM:=Hi (fun(V:World)=>pq name data gone V hn hd);generalize Am.may ⟨name,data,gone⟩=s at*
 go_in
 go_wp2_with fail;refine(HM _).mono ?_;rintro e w1⟨rfl,hb⟩;have HB:=Hi hb;clear hb;go_wp2;go_ret;exact⟨rfl,((Ah w.heap.size w).alloc (Ae _) _).trans (HB.mono (by simp))⟩
def UH(l:List Am):Int:=match l.findIdx? (fun c=>!Am.may c) with
 |some i=>(i:Int)
 |none=> -1
theorem avH{l:List Am}{k:Nat}(hk:k < l.length)(h:Am.may l[k]=false)(hn:∀ j (hj:j < k),Am.may (l[j]'(by omega))=true):UH l=(k:Int):=by
 have:l.findIdx? (fun c=>!Am.may c)=some k:=List.findIdx?_eq_some_iff_getElem.2 ⟨hk,by simp[h],fun j hj=>by simp[hn j hj]⟩;unfold UH;rw[this]
theorem avG{l:List Am}(hn:∀ j (hj:j < l.length),Am.may l[j]=true):UH l= -1:=by
 have:l.findIdx? (fun c=>!Am.may c)=none:=List.findIdx?_eq_none_iff.2 fun x hx=>by
  obtain⟨i,hi,rfl⟩:=List.getElem_of_mem hx;simp[hn i hi]
 unfold UH;rw[this]
theorem avF(l:List Am):decide (0≤UH l)= !(l.all Am.may):=by
 unfold UH;cases h:l.findIdx? (fun c=>!Am.may c) with
 |none=>
  have:=List.findIdx?_eq_none_iff.1 h;have e:l.all Am.may=true:=Mr.2 fun x hx=>by simpa using this x hx
  rw[e];rfl
 |some i=>
  obtain⟨hi,h1,_⟩:=List.findIdx?_eq_some_iff_getElem.1 h;have e:l.all Am.may=false:=List.all_eq_false.2 ⟨_,Dc hi,by simpa using h1⟩;rw[e];simp
theorem arR{w:World}{a:Option Addr}{cap:Nat}{l:List Am}(hL:Ew w a l)(hlen:l.length≤1000000)(hok:∀ c∈l,c.name.length≤maxLen∧c.data.length≤maxLen):
  Calls prog 132 #[.slice a l.length cap,.func (.func 53) #[] #[]] w fun e w'=>e=.returned (.int .i64 (UH l))∧Bw w w':=by
 have HL:=Hi hL;have ME:=Hi hok;clear hL hok
 go_in
 go_wp2
 go_loopw [5,8] (fun _ i wr=>∃ k:Nat,k≤l.length∧i=.int .i64 k∧Bw w wr∧∀ j (hj:j < k),(h:j < l.length)→Am.may l[j]=true) (fun _ i _=>l.length -(intOf i).toNat)
 case atStart=>exact⟨0,AZ _,rfl,Ah _ _,fun j hj=>by omega⟩
 case round=>
  obtain⟨k,hk,rfl,hb,Cv⟩:=hrel;have DJ:=Hi Cv;clear Cv;by_cases hlt:k < l.length
  ·obtain⟨q,Cx,hq,-⟩:=HL.index cap k hlt;have Fp:=hq.below hb;obtain⟨c0,c1,c2⟩:=Fp.cells;have DV:=ME _ (Dc hlt);have EL:=Hi (fun(V:World)=>arw l[k].name l[k].data l[k].gone V DV.1 DV.2);have Sr:=Hi (show Am.may l[k]=false→UH l=(k:Int) from fun h=>avH hlt h (fun j hj=>DJ j hj (by omega)))
   have Dh:=Hi (show Am.may l[k]=true→∀ j (hj:j < k+1),(h:j < l.length)→Am.may l[j]=true from fun h j hj h'=>by
    by_cases e:j=k
    ·subst e;exact h
    ·exact DJ j (by omega) h')
   generalize l[k]=x at*;obtain⟨cn,cd,cg⟩:=x;simp only at c0 c1 c2 DV EL;have HB:=Hi hb;clear hq Fp hb;go_wp2_with fail;refine(EL _).mono ?_;rintro e w1⟨rfl,Ai⟩;have HB1:=bH HB Ai;clear Ai;generalize Am.may ⟨cn,cd,cg⟩=s at*;cases s with
   |false=>
    have gQ:=Hi (Sr rfl);clear Sr Dh;go_wp2;go_ret;exact⟨by rw[gQ.out];rfl,HB1⟩
   |true=>
    have HN:=Hi (Dh rfl);clear Sr Dh;go_wp2;go_roundw
    case rel=>exact⟨k+1,by omega,by go_num,HB1,HN⟩
    case measure=>simp[intOf];omega
  ·obtain rfl:k=l.length:=(by omega);have HN:=Hi (show UH l= -1 from avG (fun j hj=>DJ j hj hj));have HB:=Hi hb;clear hb;go_wp2;go_ret;exact⟨by rw[HN.out];rfl,HB⟩
theorem ag3{w:World}{a:Option Addr}{cap:Nat}{l:List Am}(hL:Ew w a l)(hlen:l.length≤1000000)(hok:∀ c∈l,c.name.length≤maxLen∧c.data.length≤maxLen):
  Calls prog 52 #[.slice a l.length cap,.func (.func 53) #[] #[]] w fun e w'=>e=.returned (.bool (!(l.all Am.may)))∧Bw w w':=by
 have HI:=Hi (arR (cap:=cap) hL hlen hok);have HE:=Hi (avF l);clear hL hok;generalize UH l=i at*
 go_in
 go_wp2_with fail;refine HI.mono ?_;rintro e w1⟨rfl,hb⟩;have HB:=Hi hb;clear hb;go_wp2;go_ret;exact⟨by rw[←HE.out];rfl,HB⟩
end
section
open Af
def Fe{σ:Type}:List (σ→σ×Int)→σ→σ×Int
 |[],s=>(s,0)
 |f :: l,s=>if(f s).2=0 then Fe l (f s).1 else f s
theorem aqX{σ:Type}{fs:List (σ→σ×Int)}(h:fs=[])(s:σ):Fe fs s=(s,0):=by subst h;rfl
structure adE{σ:Type}(I:Nat→σ→World→Prop)(J:σ→World→Prop)(vs:List Value)(fs:List (σ→σ×Int)):Prop where
 len:vs.length=fs.length
 each:∀ i (h:i < vs.length) (h':i < fs.length),∃ F recv JC,vs[i]=.func (.func F) recv JC∧(∀ args w,(callFunc F args).run prog w=.ok (.enter F args) w)∧
  ∀ s W,I i s W→Calls prog F (recv++JC) W fun e W'=>e=.returned (.int .i64 (fs[i] s).2)∧((fs[i] s).2=0→I (i+1) (fs[i] s).1 W')∧((fs[i] s).2≠0→J (fs[i] s).1 W')
theorem ag5{σ:Type}{w:World}{y g n cap:Nat}{I:Nat→σ→World→Prop}{J:σ→World→Prop}{vs:List Value}{fs:List (σ→σ×Int)}{s0:σ}
  (hI:I 0 s0 w)(hf:adE I J vs fs)(hv:∀ k s W,I k s W→∀ i u,vs[i]?=some u→W.cell? ⟨g,i,none⟩=some u)(hn:vs.length=n)(dF:n≤5)(hJ:∀ s W,J s W→(∃ v,W.cell? ⟨y,6,none⟩=some v)∧W.frozen? ⟨y,6,none⟩=false):
  Calls prog 63 #[.pointer (some ⟨y,0,none⟩),.slice (some ⟨g,0,none⟩) n cap] w fun e w'=>e=.returned (.int .i64 (Fe fs s0).2)∧((Fe fs s0).2=0→I n (Fe fs s0).1 w')∧((Fe fs s0).2≠0→∃ W,J (Fe fs s0).1 W∧w'=W.setCell ⟨y,6,none⟩ (.int .i64 (Fe fs s0).2)):=by
 have HI:=Hi hI;have HF:=Hi hf;have HV:=Hi hv;have HN:=Hi hn;have HJ:=Hi hJ;clear hI hf hv hn hJ
 go_in
 go_wp2
 go_loopw [10] (fun i wr=>∃ (k:Nat) (s:σ),k≤n∧i=.int .i64 k∧I k s wr∧Fe fs s0=Fe (fs.drop k) s) (fun i _=>n -(intOf i).toNat)
 case atStart=>exact⟨0,s0,AZ _,rfl,HI,by rw[List.drop_zero]⟩
 case round=>
  obtain⟨k,s,hk,rfl,hIr,PH⟩:=hrel;have wH:=Hi hIr;have Qc:=Hi PH;clear hIr PH;by_cases hlt:k < n
  ·have MR:k < vs.length:=(by rw[HN.out];exact hlt);have Zj:k < fs.length:=(by rw[←HF.len];exact MR);obtain⟨F,recv,JC,hv,NL,K7⟩:=HF.each k MR Zj;have hc:wr.cell? ⟨g,k,none⟩=some (.func (.func F) recv JC):=by
    rw[←hv];exact HV k s wr wH k _ (Ei MR)
   have Bl:Fe (fs.drop k) s=if(fs[k] s).2=0 then Fe (fs.drop (k+1)) (fs[k] s).1 else fs[k] s:=by
    rw[QY Zj];rfl
   have BJ:=K7 s wr wH.out;generalize fs[k]=f at*;generalize f s=r at*;obtain⟨s1,e1⟩:=r;have EL:=Hi BJ;have Bi:=Hi Bl;clear hv K7 BJ Bl MR Zj;go_wp2_with fail;refine EL.mono ?_;rintro e w1⟨rfl,h1,h2⟩;have H1:=Hi h1;have H2:=Hi h2;clear h1 h2 hc;by_cases h0:e1=0
   ·subst h0;have Sl:=Hi (show Fe fs s0=Fe (fs.drop (k+1)) s1 by rw[Qc.out,Bi.out];rfl);have HI1:=Hi (H1 rfl);clear H1 H2;go_wp2;go_roundw
    case rel=>exact⟨k+1,s1,by omega,by go_num,HI1,Sl⟩
    case measure=>simp[intOf];omega
   ·have Ai:(e1 != 0)=true:=(by simp[h0]);have Sl:=Hi (show Fe fs s0=(s1,e1) by rw[Qc.out,Bi.out,Aa h0]);have HJ1:=Hi (H2 h0);obtain⟨⟨v6,c6⟩,cf6⟩:=HJ _ _ HJ1.out;have H0:=Hi h0;clear h0 H1 H2;go_wp2;go_ret;rw[Sl.out];exact⟨rfl,fun h=>absurd h H0.out,fun _=>⟨w1,HJ1,rfl⟩⟩
  ·obtain rfl:k=n:=(by omega);have IE:fs.drop k=[]:=List.drop_eq_nil_of_le (by rw[←HF.len,HN.out];exact Ae _);have Sl:=Hi (Qc.trans (aqX IE s));clear IE;go_wp2;go_ret;rw[Sl.out];exact⟨rfl,fun _=>wH.out,fun h=>absurd rfl h⟩
end
section
open Af
structure KI(V:World)(y b m x c2 c5:Nat)(gv:Value)(fp:Nat→Prop)(F:St)(s:T)(D:A8):Prop where
 disk:BI V b D fp
 IX:Dg V y b m x gv F
 c2:V.heap[c2]?=some (.cells #[.pointer (some ⟨y,0,none⟩)] 42)
 c5:V.heap[c5]?=some (.cells #[.string (bs s)] 9)
 ap:¬ fp m
section
variable {V W:World}{y b m x c2 c5:Nat}{gv:Value}{fp fp':Nat→Prop}{F:St}{s:T}{D D':A8}
theorem KI.below(h:KI V y b m x c2 c5 gv fp F s D)(hb:Bw V W):KI W y b m x c2 c5 gv fp F s D:=
 ⟨h.disk.below hb,h.IX.below hb,(hb.block c2 (Ao h.c2)).trans h.c2,(hb.block c5 (Ao h.c5)).trans h.c5,h.ap⟩
theorem X4{V:World}{y b m x b':Nat}{gv:Value}{fp:Nat→Prop}{F:St}{D:A8}(hd:BI V b' D fp)(hf:Dg V y b m x gv F)(ap:¬ fp m)(k:Nat)(hk:Vy y m x gv k):¬ fp k:=by
 rcases hk with rfl|rfl|hk
 ·exact fun e=>hd.Dp _ e (by decide) (by decide) hf.blk
 ·exact ap
 ·intro e;rcases hf.DZ.kind hk with h|h
  ·exact hd.Dp _ e (by decide) (by decide) h
  ·exact hd.Dp _ e (by decide) (by decide) h
theorem KI.yX(h:KI V y b m x c2 c5 gv fp F s D)(hd:BI W b D' fp')(hu:A7 fp V W)(hs:Di fp fp' V):KI W y b m x c2 c5 gv fp' F s D':=
 ⟨hd,h.IX.upd hu (fun k hk e=>h.disk.Dp k e (by decide) (by decide) hk) (X4 h.disk h.IX h.ap),
  (hu.block c2 (Ao h.c2) (fun e=>h.disk.Dp _ e (by decide) (by decide) ⟨_,_,h.c2⟩)).trans h.c2,
  (hu.block c5 (Ao h.c5) (fun e=>h.disk.Dp _ e (by decide) (by decide) ⟨_,_,h.c5⟩)).trans h.c5,
  fun e=>(hs m e).elim h.ap (fun e2=>by have:=h.IX.map.lt;omega)⟩
theorem KI.reads(h:KI V y b m x c2 c5 gv fp F s D):V.cell? ⟨c2,0,none⟩=some (.pointer (some ⟨y,0,none⟩))∧V.cell? ⟨c5,0,none⟩=some (.string (bs s))∧V.cell? ⟨y,0,none⟩=some (.pointer (some ⟨b,0,none⟩))∧V.cell? ⟨y,1,none⟩=some (.int .i64 (F.log:Int))∧V.cell? ⟨y,2,none⟩=some (.int .i64 (F.size:Int))∧V.cell? ⟨y,3,none⟩=some (.int .i64 (F.AL:Int))∧V.cell? ⟨y,5,none⟩=some (.pointer (some ⟨x,0,none⟩)):=by
 obtain⟨c0,c1,c2',c3,c4,c5',c6,_⟩:=h.IX.cells;exact⟨Ii h.c2,Ii h.c5,c0,c1,c2',c3,c5'⟩
theorem awe(h:KI V y b m x c2 c5 gv fp F s D)(hs:s.length≤1000000)(Hw:D.loose.length≤500000000):
  Calls prog 136 #[.pointer (some ⟨c2,0,none⟩),.pointer (some ⟨c5,0,none⟩)] V (Wt V b D fp fun E=>E.write ((CS F.log F.size F.AL:Nat):Int) (Aq.pad (A9.le 4 s.length++s))):=by
 have HL:=Hi h;obtain⟨f1,f2,f3,f4⟩:=h.IX.fits;have Gp:(Aq.pad (A9.le 4 s.length++s)).length≤1000128:=by rw[Aq.RN,Az,A9.BV];omega
 have Ct:CS F.log F.size F.AL≤40000:=by unfold CS;have:F.AL*F.size≤1*F.size:=Nat.mul_le_mul_right _ f4;omega
 have AR:=Hi (Ah V.heap.size V);have Dt:=Hi ((Ah V.heap.size V).drew);have Ve:=Hi (h.below Dt);have HW:=Hi (fun(W:World) (h:KI W y b m x c2 c5 gv fp F s D)=>mg h.disk ((CS F.log F.size F.AL:Nat):Int) (Aq.pad (A9.le 4 s.length++s)) (by omega) (by omega) (by omega));have aof:=Hi (fun(W:World)=>ag0 (.pointer (some ⟨b,0,none⟩)) F.log F.size F.AL W f1 f2 f4);have aoW:=Hi (fun(W:World)=>pz s.length W (by omega));have HWH:=Hi (fun(W:World)=>pF (A9.le 4 s.length++s) W (by rw[Az,A9.BV];omega));have bR:∀ W,(binOp .add 9 (.string (bs (A9.le 4 s.length))) (.string (bs s))).run prog W=.ok (.string (bs (A9.le 4 s.length++s))) W:=fun W=>by
  have h4:=A9.BV 4 s.length;simp[go_sem,Op.stringOp,h4];omega
 have aCs:∀ W,(Op.stringOp .add (bs (A9.le 4 s.length)) (bs s)).run prog W=.ok (.string (bs (A9.le 4 s.length++s))) W:=fun W=>by
  have h4:=A9.BV 4 s.length;simp[go_sem,Op.stringOp,h4];omega
 have h4:=A9.BV 4 s.length;have DC:(4:Int)+(s.length:Int)≤9223372036854775807:=by omega
 generalize Aq.pad (A9.le 4 s.length++s)=P at*;generalize CS F.log F.size F.AL=B at*;obtain⟨d0,d1,d2,d3,d4,d5,d6⟩:=h.reads;clear h
 go_in
 go_wp2
 go_region_held3 (fun W=>W.cell? ⟨c2,0,none⟩=some (.pointer (some ⟨y,0,none⟩))∧W.cell? ⟨c5,0,none⟩=some (.string (bs s))∧W.cell? ⟨y,0,none⟩=some (.pointer (some ⟨b,0,none⟩))∧W.cell? ⟨y,1,none⟩=some (.int .i64 (F.log:Int))∧W.cell? ⟨y,2,none⟩=some (.int .i64 (F.size:Int))∧W.cell? ⟨y,3,none⟩=some (.int .i64 (F.AL:Int))∧W.cell? ⟨y,5,none⟩=some (.pointer (some ⟨x,0,none⟩)))
  (first|exact Ve.reads|exact FR.reads|exact LY.reads|exact O9.reads|exact Vd.reads)
  (first
   |(go_at_call 138;refine(aof _).mono ?_;rintro e W1 ⟨rfl,Ai⟩;have FR:=Hi (Ve.below Ai);have HB1:=bH Dt Ai;clear Ai)
   |(go_at_call 140;refine(aoW _).mono ?_;rintro e W2 ⟨rfl,Ad⟩;have LY:=Hi (FR.below Ad);have Ak:=bH HB1 Ad;clear Ad)
   |(go_at_call 139;refine(HWH _).mono ?_;rintro e W3 ⟨rfl,Aw⟩;have O9:=Hi (LY.below Aw);have AA:=bH Ak Aw;clear Aw)
   |(go_at_call 137;refine(HW _ O9).mono ?_;rintro e W4 ⟨rfl,Pt,Ur,OG,UB⟩;have Vd:=Hi (O9.yX Ur OG UB);have V5:=Hi Ur;have U4:=Hi OG;have YG:=Hi UB;clear Ur OG UB))
 all_goals
  go_wp2;go_ret;exact⟨rfl,Pt,V5,(A7.of_below (F:=fp) AA).trans U4 (fun i hi=>.inl hi),fun i hi=>(YG i hi).elim .inl (fun e=>.inr (Ay AA.size e))⟩
theorem awf(h:KI V y b m x c2 c5 gv fp F s D)(Hw:D.loose.length≤500000000):
  Calls prog 141 #[.pointer (some ⟨c2,0,none⟩)] V (Wt V b D fp fun E=>E.write ((0:Nat):Int) (Af.mark F.AL ((F.w.gen+1) % 18446744073709551616))):=by
 have HL:=Hi h;obtain⟨f1,f2,f3,f4⟩:=h.IX.fits;have Jl:(F.w.gen+1) % 18446744073709551616 < 18446744073709551616:=Nat.mod_lt _ (by decide);have FX:=Af.NY F.AL ((F.w.gen+1) % 18446744073709551616);have Dt:=Hi ((Ah V.heap.size V).drew);have Ve:=Hi (h.below Dt);have HW:=Hi (fun(W:World) (h:KI W y b m x c2 c5 gv fp F s D)=>mg h.disk ((0:Nat):Int) (Af.mark F.AL ((F.w.gen+1) % 18446744073709551616)) (by omega) (by omega) (by omega));have U0:=Hi (fun(W:World)=>agl F.AL ((F.w.gen+1) % 18446744073709551616) W f4 Jl);have TU:=Hi (fun(W:World) (h:KI W y b m x c2 c5 gv fp F s D)=>anH h.IX.DZ);have e3:=ad2 F.w.gen;generalize Af.mark F.AL ((F.w.gen+1) % 18446744073709551616)=P at*;generalize (F.w.gen+1) % 18446744073709551616=G at*;obtain⟨d0,d1,d2,d3,d4,d5,d6⟩:=h.reads;clear h
 go_in
 go_wp2
 go_region_held3 (fun W=>W.cell? ⟨c2,0,none⟩=some (.pointer (some ⟨y,0,none⟩))∧W.cell? ⟨c5,0,none⟩=some (.string (bs s))∧W.cell? ⟨y,0,none⟩=some (.pointer (some ⟨b,0,none⟩))∧W.cell? ⟨y,1,none⟩=some (.int .i64 (F.log:Int))∧W.cell? ⟨y,2,none⟩=some (.int .i64 (F.size:Int))∧W.cell? ⟨y,3,none⟩=some (.int .i64 (F.AL:Int))∧W.cell? ⟨y,5,none⟩=some (.pointer (some ⟨x,0,none⟩)))
  (first|exact Ve.reads|exact FR.reads|exact LY.reads|exact Vd.reads)
  (first
   |(go_at_call 80;refine(TU _ Ve).mono ?_;rintro e W1 ⟨rfl,rfl⟩;have FR:=Ve)
   |(go_at_call 142;refine(U0 _).mono ?_;rintro e W2 ⟨rfl,Ad⟩;have LY:=Hi (FR.below Ad);have Ak:=bH Dt Ad;clear Ad)
   |(go_at_call 137;refine(HW _ LY).mono ?_;rintro e W4 ⟨rfl,Pt,Ur,OG,UB⟩;have Vd:=Hi (LY.yX Ur OG UB);have V5:=Hi Ur;have U4:=Hi OG;have YG:=Hi UB;clear Ur OG UB))
 all_goals
  go_wp2;go_ret;exact⟨rfl,Pt,V5,(A7.of_below (F:=fp) Ak).trans U4 (fun i hi=>.inl hi),fun i hi=>(YG i hi).elim .inl (fun e=>.inr (Ay Ak.size e))⟩
theorem aqu{c6 cap:Nat}{a:Option Addr}{l:List T}(hd:BI V b D fp)(hf:Dg V y b m x gv F)(ap:¬ fp m)(h2:V.heap[c2]?=some (.cells #[.pointer (some ⟨y,0,none⟩)] 42))(h6:V.heap[c6]?=some (.cells #[.slice a l.length cap] 61))(jD:¬ BP x gv c6)
  (hx:Dv V a l)(VE:∀ p,a=some p→l≠[]→¬ fp p.block∧¬ BP x gv p.block)(hlen:l.length≤1000000)(DC:rowLen l≤1000000)(Hw:D.loose.length≤400000000)(Oy:F.w.groups.length≤1000000):
  Calls prog 64 #[.pointer (some ⟨c2,0,none⟩),.pointer (some ⟨c6,0,none⟩)] V fun e w'=>YP V x b gv fp (Dw D F.w l) e w':=by
 have Dt:=Hi ((Ah V.heap.size V).drew);have HA:=Hi (apI (cap:=cap) (hd.below Dt) (hf.DZ.below Dt) (hx.below Dt) VE hlen DC Hw Oy);obtain⟨_,_,_,_,_,d5,_⟩:=hf.cells;have c2':=Ii h2;have c6':=Ii h6
 have HK:=Hi (fun(W:World) (hu:A7 (fun k=>fp k∨BP x gv k) V.drew W)=>(by
  refine⟨(hu.cell (p:=⟨c2,0,none⟩) (Ao h2) ?_).trans c2',(hu.cell (p:=⟨c6,0,none⟩) (Ao h6) ?_).trans c6',(hu.cell (p:=⟨y,5,none⟩) (hf.lt y (.inl rfl)) ?_).trans d5⟩
  ·rintro(e|e)
   ·exact hd.Dp _ e (by decide) (by decide) ⟨_,_,h2⟩
   ·rcases hf.DZ.kind e with h|h
    ·exact Bf.ne ⟨_,_,h2⟩ h (by decide) rfl
    ·exact Bf.ne ⟨_,_,h2⟩ h (by decide) rfl
  ·rintro(e|e)
   ·exact hd.Dp _ e (by decide) (by decide) ⟨_,_,h6⟩
   ·exact jD e
  ·rintro(e|e)
   ·exact X4 hd hf ap y (.inl rfl) e
   ·exact hf.XY.2.1 e:W.cell? ⟨c2,0,none⟩=some (.pointer (some ⟨y,0,none⟩))∧W.cell? ⟨c6,0,none⟩=some (.slice a l.length cap)∧W.cell? ⟨y,5,none⟩=some (.pointer (some ⟨x,0,none⟩))))
 clear hd hf hx VE h2 h6
 go_in
 go_wp2
 go_region_held3 (fun W=>W.cell? ⟨c2,0,none⟩=some (.pointer (some ⟨y,0,none⟩))∧W.cell? ⟨c6,0,none⟩=some (.slice a l.length cap)∧W.cell? ⟨y,5,none⟩=some (.pointer (some ⟨x,0,none⟩)))
  (first|exact HK _ (A7.refl _ _)|exact HK _ MI)
  (first
   |(go_at_call 65;refine HA.mono ?_;rintro e W1 ⟨rfl,ET,Ey,g1,g2,g3,g4,g5⟩;have MI:=Hi g3;have HG:=Hi (Cr g1 (Cr g2 (Cr g4 g5)));clear g1 g2 g3 g4 g5))
 all_goals
  go_wp2;go_ret;exact⟨rfl,ET,Ey,HG.1,HG.2.1,(A7.of_below (F:=fun k=>fp k∨BP x gv k) Dt).trans MI (fun i hi=>.inl hi),HG.2.2.1,HG.2.2.2⟩
end
end
section
open Af
def QL(F:St)(s:T):List (A8×Bz→(A8×Bz)×Int):=
 [fun E=>(((E.1.write ((CS F.log F.size F.AL:Nat):Int) (Aq.pad (A9.le 4 s.length++s))).1,E.2),(E.1.write ((CS F.log F.size F.AL:Nat):Int) (Aq.pad (A9.le 4 s.length++s))).2),
  fun E=>((E.1.flush.1,E.2),E.1.flush.2),
  fun E=>(((E.1.write ((0:Nat):Int) (Af.mark F.AL ((E.2.gen+1) % 18446744073709551616))).1,E.2),(E.1.write ((0:Nat):Int) (Af.mark F.AL ((E.2.gen+1) % 18446744073709551616))).2),
  fun E=>((E.1.flush.1,E.2),E.1.flush.2),
  fun E=>(((DR E.1 E.2).1,(DR E.1 E.2).2.1),(DR E.1 E.2).2.2)]
def akc(F:St)(r:(A8×Bz)×Int):St:={ F with AL:=1 -F.AL,w:=r.1.2,fault:=if r.2=0 then F.fault else r.2 }
theorem aqY(f1 f2 f4:A8→A8×Int)(f3:Bz→A8→A8×Int)(D:A8)(L:Bz):
  Fe [fun E:A8×Bz=>(((f1 E.1).1,E.2),(f1 E.1).2),fun E=>(((f2 E.1).1,E.2),(f2 E.1).2),fun E=>(((f3 E.2 E.1).1,E.2),(f3 E.2 E.1).2),fun E=>(((f4 E.1).1,E.2),(f4 E.1).2),fun E=>(((DR E.1 E.2).1,(DR E.1 E.2).2.1),(DR E.1 E.2).2.2)] (D,L)=
  if(Bt [f1,f2,f3 L,f4] D).2=0 then(((DR (Bt [f1,f2,f3 L,f4] D).1 L).1,(DR (Bt [f1,f2,f3 L,f4] D).1 L).2.1),(DR (Bt [f1,f2,f3 L,f4] D).1 L).2.2) else(((Bt [f1,f2,f3 L,f4] D).1,L),(Bt [f1,f2,f3 L,f4] D).2):=by
 by_cases h1:(f1 D).2=0
 ·by_cases h2:(f2 (f1 D).1).2=0
  ·by_cases h3:(f3 L (f2 (f1 D).1).1).2=0
   ·by_cases h4:(f4 (f3 L (f2 (f1 D).1).1).1).2=0
    ·by_cases h5:(DR (f4 (f3 L (f2 (f1 D).1).1).1).1 L).2.2=0
     ·simp[Bt,Fe,h1,h2,h3,h4,h5]
     ·simp[Bt,Fe,h1,h2,h3,h4,h5]
    ·simp[Bt,Fe,h1,h2,h3,h4]
   ·simp[Bt,Fe,h1,h2,h3]
  ·simp[Bt,Fe,h1,h2]
 ·simp[Bt,Fe,h1]
theorem akd(D:A8)(F:St)(m:M):OJ D F m=((Fe (QL { F with AL:=1 -F.AL } (Af.bytes m)) (D,F.w)).1.1,
  { akc F (Fe (QL { F with AL:=1 -F.AL } (Af.bytes m)) (D,F.w)) with m:=if(Fe (QL { F with AL:=1 -F.AL } (Af.bytes m)) (D,F.w)).2=0 then m else F.m },
  (Fe (QL { F with AL:=1 -F.AL } (Af.bytes m)) (D,F.w)).2):=by
 have e:Fe (QL { F with AL:=1 -F.AL } (Af.bytes m)) (D,F.w)=if(Bt (I1 F m) D).2=0 then(((DR (Bt (I1 F m) D).1 F.w).1,(DR (Bt (I1 F m) D).1 F.w).2.1),(DR (Bt (I1 F m) D).1 F.w).2.2) else(((Bt (I1 F m) D).1,F.w),(Bt (I1 F m) D).2):=
  aqY (fun E=>E.write ((CS F.log F.size (1 -F.AL):Nat):Int) (Qn m)) A8.flush A8.flush (fun L E=>E.write ((0:Nat):Int) (Af.mark (1 -F.AL) ((L.gen+1) % 18446744073709551616))) D F.w
 rw[e];unfold OJ akc;by_cases h1:(Bt (I1 F m) D).2=0
 ·by_cases h2:(DR (Bt (I1 F m) D).1 F.w).2.2=0
  ·simp[h1,h2]
  ·simp[h1,h2]
 ·simp[h1]
theorem KI.aBg{V W:World}{y b m x c2 c5:Nat}{gv Fg:Value}{fp fp':Nat→Prop}{F:St}{s:T}{D D':A8}{L:Bz}(h:KI V y b m x c2 c5 gv fp F s D)(hd:BI W b D' fp')(hw:Cj W x b Fg L)(hu:A7 (fun k=>fp k∨BP x gv k) V W)(hs:Di fp fp' V):KI W y b m x c2 c5 Fg fp' { F with w:=L } s D':=by
 have hk:∀ {k t},Bf V k t→t≠144→t≠242→t≠224→t≠61→¬ (fp k∨BP x gv k):=fun hb h1 h2 h3 h4 e=>by
  rcases e with e|e
  ·exact h.disk.Dp _ e h1 h2 hb
  ·rcases h.IX.DZ.kind e with g|g
   ·exact Bf.ne hb g h3 rfl
   ·exact Bf.ne hb g h4 rfl
 exact⟨hd,⟨(hu.block y (Ao h.IX.struct) (hk h.IX.blk (by decide) (by decide) (by decide) (by decide))).trans h.IX.struct,h.IX.map.upd hu (fun e=>e.elim h.ap h.IX.XY.2.2),hw,h.IX.fits⟩,
  (hu.block c2 (Ao h.c2) (hk ⟨_,_,h.c2⟩ (by decide) (by decide) (by decide) (by decide))).trans h.c2,
  (hu.block c5 (Ao h.c5) (hk ⟨_,_,h.c5⟩ (by decide) (by decide) (by decide) (by decide))).trans h.c5,
  fun e=>(hs m e).elim h.ap (fun e2=>by have:=h.IX.map.lt;omega)⟩
theorem akS(a b c k:Nat)(h1:a≤b+100000)(h2:b≤c+100000*k):a≤c+100000*(k+1):=by
 rw[Nat.mul_succ,←Nat.add_assoc];generalize 100000*k=m at*;omega
def Pn(w:World)(y b m x c2 c5:Nat)(Qq:Nat→Prop)(Uj:Value)(F:St)(s:T)(n0:Nat)(k:Nat)(E:A8×Bz)(W:World):Prop:=
 ∃ fp gv,KI W y b m x c2 c5 gv fp { F with w:=E.2 } s E.1∧A7 (fun k=>Qq k∨BP x Uj k) w W∧Di Qq fp w∧Di (BP x Uj) (BP x gv) w∧E.1.loose.length≤n0+100000*k
section
variable {w V W:World}{y b m x c2 c5:Nat}{Uj:Value}{Qq:Nat→Prop}{F:St}{s:T}{n0 k:Nat}{D:A8}{L:Bz}{e:Ending}
theorem Pn.step{fp:Nat→Prop}{gv:Value}{f:A8→A8×Int}(h:KI V y b m x c2 c5 gv fp { F with w:=L } s D)(hu:A7 (fun k=>Qq k∨BP x Uj k) w V)(h1:Di Qq fp w)(h2:Di (BP x Uj) (BP x gv) w)(hl:D.loose.length≤n0+100000*k)
  (hp:Wt V b D fp f e W)(hm:(f D).1.loose.length≤D.loose.length+100000):e=.returned (.int .i64 (f D).2)∧Pn w y b m x c2 c5 Qq Uj F s n0 (k+1) ((f D).1,L) W:=by
 obtain⟨he,fp',p1,p2,p3⟩:=hp;refine⟨he,fp',gv,h.yX p1 p2 p3,hu.trans p2 (fun i hi=>(h1 i hi).imp .inl id),fun i hi=>?_,h2,akS _ _ _ _ hm hl⟩;rcases p3 i hi with e|e
 ·exact h1 i e
 ·exact .inr (Ay hu.size e)
theorem Pn.reset(h:Pn w y b m x c2 c5 Qq Uj F s n0 k (D,L) V)(hn:n0+100000*k≤400000000)(hm:(DR D L).1.loose.length≤D.loose.length+100000):
  Calls prog 83 #[.pointer (some ⟨x,0,none⟩)] V fun e W=>e=.returned (.int .i64 (DR D L).2.2)∧Pn w y b m x c2 c5 Qq Uj F s n0 (k+1) ((DR D L).1,(DR D L).2.1) W:=by
 obtain⟨fp,gv,h,hu,h1,h2,hl⟩:=h;have hl:D.loose.length≤n0+100000*k:=hl;refine(am2 h.disk h.IX.DZ (by omega)).mono ?_;rintro e W⟨rfl,fp',Fg,p1,p2,p3,p4,p5⟩;refine⟨rfl,fp',Fg,h.aBg p1 p2 p3 p4,hu.trans p3 (fun i hi=>hi.elim (fun e=>(h1 i e).imp .inl id) (fun e=>(h2 i e).imp .inr id)),fun i hi=>?_,fun i hi=>?_,akS _ _ _ _ hm hl⟩
 ·rcases p4 i hi with e|e
  ·exact h1 i e
  ·exact .inr (Ay hu.size e)
 ·rcases p5 i hi with e|e
  ·exact h2 i e
  ·exact .inr (Ay hu.size e)
theorem aBr(D:A8)(L:Bz):(DR D L).1.loose.length≤D.loose.length+100000:=by
 have key:(Bt L.LB D).1.loose.length≤D.loose.length+1:=by
  unfold Bz.LB;simp only[Bt];have h1:=A8.TJ D (L.from_:Int) (Aq.mark ((L.gen+1) % 18446744073709551616) 0);rw[Aq.NY] at h1;split
  ·have h2:=A8.Uh (D.write (L.from_:Int) (Aq.mark ((L.gen+1) % 18446744073709551616) 0)).1;split
   ·show(D.write (L.from_:Int) (Aq.mark ((L.gen+1) % 18446744073709551616) 0)).1.flush.1.loose.length≤_;omega
   ·omega
  ·omega
 unfold DR;split
 ·exact Nat.le_add_right _ _
 ·split
  ·show(Bt L.LB D).1.loose.length≤_;omega
  ·show(Bt L.LB D).1.loose.length≤_;omega
theorem as1(hs:s.length≤1000000)(hn:n0≤300000000):
  adE (Pn w y b m x c2 c5 Qq Uj F s n0) (fun E W=>∃ k,Pn w y b m x c2 c5 Qq Uj F s n0 k E W)
   [.func (.func 136) #[] #[.pointer (some ⟨c2,0,none⟩),.pointer (some ⟨c5,0,none⟩)],.func (.func 143) #[.pointer (some ⟨b,0,none⟩)] #[],.func (.func 141) #[] #[.pointer (some ⟨c2,0,none⟩)],.func (.func 143) #[.pointer (some ⟨b,0,none⟩)] #[],.func (.func 83) #[.pointer (some ⟨x,0,none⟩)] #[]] (QL F s):=by
 have Gp:(Aq.pad (A9.le 4 s.length++s)).length≤1000128:=by rw[Aq.RN,Az,A9.BV];omega
 refine⟨rfl,fun i h h'=>?_⟩
 match i,h with
 |0,_=>
  refine⟨_,_,_,rfl,enters_of func136 (by kernel_rfl) rfl,fun E W hI=>?_⟩;obtain⟨fp,gv,h,hu,h1,h2,hl⟩:=hI;refine(awe h hs (by omega)).mono fun e W' hp=>?_
  have:=Pn.step h hu h1 h2 hl hp (by have:=A8.TJ E.1 ((CS F.log F.size F.AL:Nat):Int) (Aq.pad (A9.le 4 s.length++s));show(E.1.write ((CS F.log F.size F.AL:Nat):Int) (Aq.pad (A9.le 4 s.length++s))).1.loose.length≤_;omega);exact⟨this.1,fun _=>this.2,fun _=>⟨_,this.2⟩⟩
 |1,_=>
  refine⟨_,_,_,rfl,enters_of func143 (by kernel_rfl) rfl,fun E W hI=>?_⟩;obtain⟨fp,gv,h,hu,h1,h2,hl⟩:=hI;refine(pg h.disk (by omega)).mono fun e W' hp=>?_
  have:=Pn.step (f:=A8.flush) h hu h1 h2 hl hp (by have:=A8.Uh E.1;omega);exact⟨this.1,fun _=>this.2,fun _=>⟨_,this.2⟩⟩
 |2,_=>
  refine⟨_,_,_,rfl,enters_of func141 (by kernel_rfl) rfl,fun E W hI=>?_⟩;obtain⟨fp,gv,h,hu,h1,h2,hl⟩:=hI;refine(awf h (by omega)).mono fun e W' hp=>?_
  have:=Pn.step h hu h1 h2 hl hp (by have:=A8.TJ E.1 ((0:Nat):Int) (Af.mark F.AL ((E.2.gen+1) % 18446744073709551616));rw[Af.NY] at this;show(E.1.write ((0:Nat):Int) (Af.mark F.AL ((E.2.gen+1) % 18446744073709551616))).1.loose.length≤_;omega);exact⟨this.1,fun _=>this.2,fun _=>⟨_,this.2⟩⟩
 |3,_=>
  refine⟨_,_,_,rfl,enters_of func143 (by kernel_rfl) rfl,fun E W hI=>?_⟩;obtain⟨fp,gv,h,hu,h1,h2,hl⟩:=hI;refine(pg h.disk (by omega)).mono fun e W' hp=>?_
  have:=Pn.step (f:=A8.flush) h hu h1 h2 hl hp (by have:=A8.Uh E.1;omega);exact⟨this.1,fun _=>this.2,fun _=>⟨_,this.2⟩⟩
 |4,_=>
  refine⟨_,_,_,rfl,enters_of func83 (by kernel_rfl) rfl,fun E W hI=>?_⟩;refine(Pn.reset hI (by omega) (aBr _ _)).mono fun e W' hp=>?_
  exact⟨hp.1,fun _=>hp.2,fun _=>⟨_,hp.2⟩⟩
end
end
section
open Af
def UY(w:World)(y b _m x:Nat)(gv:Value)(fp:Nat→Prop)(r:A8×St×Int)(m':Nat)(e:Ending)(w':World):Prop:=
 e=.returned (.int .i64 r.2.2)∧∃ fp' Fg,BI w' b r.1 fp'∧Dg w' y b m' x Fg r.2.1∧¬ fp' m'∧A7 (fun k=>fp k∨k=y∨BP x gv k) w w'∧Di fp fp' w∧Di (BP x gv) (BP x Fg) w
theorem apO{a:Nat}(h:a≤1):IntKind.i64.wrap (1 -(a:Int))=((1 -a:Nat):Int):=by
 rw[Eh _ (by omega)];omega
theorem Dg.azq{w:World}{y b m x:Nat}{gv:Value}{F:St}(h:Dg w y b m x gv F)(a:Nat)(ha:a≤1):Dg (w.setCell ⟨y,3,none⟩ (.int .i64 (a:Int))) y b m x gv { F with AL:=a }:=by
 have hu:A7 (fun k=>k=y) w (w.setCell ⟨y,3,none⟩ (.int .i64 (a:Int))):=(A7.refl (fun k=>k=y) w).setCell (p:=⟨y,3,none⟩) (.inl rfl) _;exact⟨Cf w y 3 _ _ _ h.struct,h.map.upd hu (fun e=>h.XY.1 e.symm),h.DZ.upd hu (fun k hk e=>by subst e;exact Bf.ne hk h.blk (by decide) rfl) (fun k hk e=>by subst e;exact h.XY.2.1 hk),⟨h.fits.1,h.fits.2.1,h.fits.2.2.1,ha⟩⟩
theorem Dg.uB{w:World}{y b m x:Nat}{gv:Value}{F:St}(h:Dg w y b m x gv F)(k:Int):Dg (w.setCell ⟨y,6,none⟩ (.int .i64 k)) y b m x gv { F with fault:=k }:=by
 have hu:A7 (fun k=>k=y) w (w.setCell ⟨y,6,none⟩ (.int .i64 k)):=(A7.refl (fun k=>k=y) w).setCell (p:=⟨y,6,none⟩) (.inl rfl) _;exact⟨Cf w y 6 _ _ _ h.struct,h.map.upd hu (fun e=>h.XY.1 e.symm),h.DZ.upd hu (fun k hk e=>by subst e;exact Bf.ne hk h.blk (by decide) rfl) (fun k hk e=>by subst e;exact h.XY.2.1 hk),h.fits⟩
def dX(b x c2 c5:Nat):Array Value:=#[.func (.func 136) #[] #[.pointer (some ⟨c2,0,none⟩),.pointer (some ⟨c5,0,none⟩)],.func (.func 143) #[.pointer (some ⟨b,0,none⟩)] #[],.func (.func 141) #[] #[.pointer (some ⟨c2,0,none⟩)],.func (.func 143) #[.pointer (some ⟨b,0,none⟩)] #[],.func (.func 83) #[.pointer (some ⟨x,0,none⟩)] #[]]
theorem awh{V:World}{y b m x c2 c5:Nat}{gv:Value}{fp:Nat→Prop}{F:St}{S:T}{D:A8}(h:KI V y b m x c2 c5 gv fp F S D)(hs:S.length≤1000000)(Hw:D.loose.length≤300000000)(nq:Nat):
  Calls prog 63 #[.pointer (some ⟨y,0,none⟩),.slice (some ⟨V.heap.size,0,none⟩) 5 5] ((V.alloc (.cells (dX b x c2 c5) 129)).drewN nq) fun e w'=>e=.returned (.int .i64 (Fe (QL F S) (D,F.w)).2)∧∃ fp' Fg,BI w' b (Fe (QL F S) (D,F.w)).1.1 fp'∧Dg w' y b m x Fg { F with w:=(Fe (QL F S) (D,F.w)).1.2,fault:=if(Fe (QL F S) (D,F.w)).2=0 then F.fault else(Fe (QL F S) (D,F.w)).2 }∧¬ fp' m∧A7 (fun k=>fp k∨k=y∨BP x gv k) V w'∧Di fp fp' V∧Di (BP x gv) (BP x Fg) V∧w'.heap[c2]?=some (.cells #[.pointer (some ⟨y,0,none⟩)] 42):=by
 have hb:Bw V ((V.alloc (.cells (dX b x c2 c5) 129)).drewN nq):=((Ah _ _).alloc (Ae _) _).trans ((FM _ nq).mono (by rw[Ar];omega));have Ag:((V.alloc (.cells (dX b x c2 c5) 129)).drewN nq).heap[V.heap.size]?=some (.cells (dX b x c2 c5) 129):=((FM _ nq).block V.heap.size (by rw[Ar];omega)).trans (AP V _);have h0:=h.below hb;have Fh:=A7.of_below (F:=fun k=>fp k∨k=y∨BP x gv k) hb;have hbs:=hb.size;generalize (V.alloc (.cells (dX b x c2 c5) 129)).drewN nq=w0 at*;have Bl:∀ {P P':Nat→Prop},Di P P' w0→Di P P' V:=fun hs i hi=>(hs i hi).imp id (fun e=>Ay hbs e)
 generalize V.heap.size=g at*;have hg:¬ (fp g∨BP x gv g):=fun e=>by
  rcases e with e|e
  ·exact h0.disk.Dp _ e (by decide) (by decide) ⟨_,_,Ag⟩
  ·rcases h0.IX.DZ.kind e with k|k
   ·exact Bf.ne ⟨_,_,Ag⟩ k (by decide) rfl
   ·exact Bf.ne ⟨_,_,Ag⟩ k (by decide) rfl
 refine(ag5 (I:=Pn w0 y b m x c2 c5 fp gv F S D.loose.length) (J:=fun E W=>∃ k,Pn w0 y b m x c2 c5 fp gv F S D.loose.length k E W) (s0:=(D,F.w)) (cap:=5) (g:=g) (n:=5)
  ⟨fp,gv,h0,A7.refl _ _,fun _ h=>.inl h,fun _ h=>.inl h,Nat.le_add_right _ _⟩ (as1 hs Hw) ?_ rfl (Ae 5) ?_).mono ?_
 ·rintro k E W ⟨ET,Ey,g1,g2,g3,g4,g5⟩ i u hu;rw[BF W g i _ _ _ ((g2.block g (Ao Ag) hg).trans Ag),←hu]
  show(dX b x c2 c5)[i]?=_
  rw[←Dx];rfl
 ·rintro E W ⟨k,ET,Ey,g1,g2,g3,g4,g5⟩;have c:=g1.IX.cells;exact⟨⟨_,c.2.2.2.2.2.2.1⟩,c.2.2.2.2.2.2.2 6⟩
 ·generalize Fe (QL F S) (D,F.w)=r;rintro e w'⟨rfl,r1,r2⟩;refine⟨rfl,?_⟩;by_cases hr:r.2=0
  ·obtain⟨ET,Ey,g1,g2,g3,g4,g5⟩:=r1 hr;rw[Ac hr];exact⟨ET,Ey,g1.disk,g1.IX,g1.ap,Fh.trans (g2.mono (fun i hi=>hi.elim .inl (fun e=>.inr (.inr e)))) (fun i hi=>.inl hi),Bl g3,Bl g4,g1.c2⟩
  ·obtain⟨W,⟨k,ET,Ey,g1,g2,g3,g4,g5⟩,rfl⟩:=r2 hr;rw[Aa hr];have hu:A7 (fun k=>k=y) W (W.setCell ⟨y,6,none⟩ (.int .i64 r.2)):=(A7.refl (fun k=>k=y) W).setCell (p:=⟨y,6,none⟩) (.inl rfl) _;refine⟨ET,Ey,g1.disk.upd hu (fun k hk e=>by subst e;exact X4 g1.disk g1.IX g1.ap k (.inl rfl) hk),g1.IX.uB r.2,g1.ap,(Fh.trans (g2.mono (fun i hi=>hi.elim .inl (fun e=>.inr (.inr e)))) (fun i hi=>.inl hi)).trans hu (fun i hi=>.inl (.inr (.inl hi))),Bl g3,Bl g4,(hu.block c2 (Ao g1.c2) (fun e=>by subst e;exact Bf.ne ⟨_,_,g1.c2⟩ g1.IX.blk (by decide) rfl)).trans g1.c2⟩
theorem agj{w:World}{y b m x mv:Nat}{gv:Value}{fp:Nat→Prop}{F:St}{D:A8}{A:M}(hd:BI w b D fp)(hf:Dg w y b m x gv F)(ap:¬ fp m)(hM:CG w mv A)(hg:Af.Good A)(hc:used A≤1000000)(Hw:D.loose.length≤300000000):
  Calls prog 62 #[.pointer (some ⟨y,0,none⟩),.map (some mv)] w fun e w'=>UY w y b m x gv fp ((OJ D F A).1,{ (OJ D F A).2.1 with m:=F.m },(OJ D F A).2.2) m e w':=by
 have HD:=Hi hd;have HF:=Hi hf;have Bb:=(Ah w.heap.size w).alloc (Ae _) (.cells #[.pointer (some ⟨y,0,none⟩)] 42);have AR:=Hi Bb;have HBY:=Hi (arx (hM.below Bb) hg hc);have LV:=Hi (AP w (.cells #[.pointer (some ⟨y,0,none⟩)] 42));have hyl:=hf.lt y (.inl rfl);have jr:=hf.fits.2.2.2;have e1:=apO jr;have Rt:1 -F.AL≤1:=by omega
 have Ve:=Hi (akd D F A);have CZ:(Af.bytes A).length≤1000000:=by rw[yC];exact hc
 clear hd hf Bb hM;generalize Af.bytes A=S at*
 go_in
 go_wp2_with fail;refine HBY.mono ?_;rintro e w1⟨rfl,Ai⟩;have HB1:=bH AR Ai;have Gz:=(Ai.block w.heap.size (Ao LV)).trans LV.out;have Q9:=Hi Gz;have c0:=Ii Gz;have gF:=Hi (HF.below HB1);obtain⟨_,_,_,d3,_,_,_,df⟩:=gF.cells;have bA:=df 3;have dC:w.heap.size < w1.heap.size:=Ao Gz;have aDo:y < w1.heap.size:=by omega
 clear Ai Gz df;go_wp2;go_region;have FE:A7 (fun k=>k=y) w1 (w1.setCell ⟨y,3,none⟩ (.int .i64 ((1 -F.AL:Nat):Int))):=(A7.refl (fun k=>k=y) w1).setCell (p:=⟨y,3,none⟩) (.inl rfl) _;have Bo:Below (w1.setCell ⟨y,3,none⟩ (.int .i64 ((1 -F.AL:Nat):Int))).heap.size (w1.setCell ⟨y,3,none⟩ (.int .i64 ((1 -F.AL:Nat):Int))) (((w1.setCell ⟨y,3,none⟩ (.int .i64 ((1 -F.AL:Nat):Int))).alloc (.cells #[.string (bs S)] 9)).drew):=((Ah _ _).alloc (Ae _) _).drew;have dF:(((w1.setCell ⟨y,3,none⟩ (.int .i64 ((1 -F.AL:Nat):Int))).alloc (.cells #[.string (bs S)] 9)).drew).heap[w1.heap.size]?=some (.cells #[.string (bs S)] 9):=by
  have:=AP (w1.setCell ⟨y,3,none⟩ (.int .i64 ((1 -F.AL:Nat):Int))) (.cells #[.string (bs S)] 9);rwa[show(w1.setCell ⟨y,3,none⟩ (.int .i64 ((1 -F.AL:Nat):Int))).heap.size=w1.heap.size by simp[World.setCell]] at this
 have SY:=HD.below HB1.out;have hys:∀ k,fp k→¬ k=y:=fun k hk e=>by subst e;exact X4 SY gF ap k (.inl rfl) hk
 have hfa:=(gF.azq (1 -F.AL) Rt).below Bo;have ahN:=(Bo.block w.heap.size (by simp[World.setCell];omega)).trans ((FE.block w.heap.size dC (by omega)).trans Q9);have GV:KI (((w1.setCell ⟨y,3,none⟩ (.int .i64 ((1 -F.AL:Nat):Int))).alloc (.cells #[.string (bs S)] 9)).drew) y b m x w.heap.size w1.heap.size gv fp { F with AL:=1 -F.AL } S D:=⟨(SY.upd FE hys).below Bo,hfa,ahN,dF,ap⟩;have Dk:A7 (fun k=>fp k∨k=y∨BP x gv k) w (((w1.setCell ⟨y,3,none⟩ (.int .i64 ((1 -F.AL:Nat):Int))).alloc (.cells #[.string (bs S)] 9)).drew):=((A7.of_below (F:=fun k=>fp k∨k=y∨BP x gv k) HB1).trans (FE.mono (fun i hi=>.inr (.inl hi))) (fun i hi=>.inl hi)).trans (A7.of_below Bo) (fun i hi=>.inl hi);have M5:=Hi Dk;have O9:=Hi GV;clear FE Bo dF SY hys hfa ahN Dk GV d3 bA e1 c0;generalize (((w1.setCell ⟨y,3,none⟩ (.int .i64 ((1 -F.AL:Nat):Int))).alloc (.cells #[.string (bs S)] 9)).drew)=w3 at*;have Qc:=Hi (fun nq=>awh O9 CZ Hw nq);generalize Fe (QL { F with AL:=1 -F.AL } S) (D,F.w)=r at*;have K1:=Hi (fun(V:World) (f:Dg V y b m x gv { F with AL:=1 -F.AL }) (h:V.heap[w.heap.size]?=some (.cells #[.pointer (some ⟨y,0,none⟩)] 42))=>(⟨Ii h,f.cells.1,f.cells.2.2.2.2.2.1⟩:V.cell? ⟨w.heap.size,0,none⟩=some (.pointer (some ⟨y,0,none⟩))∧V.cell? ⟨y,0,none⟩=some (.pointer (some ⟨b,0,none⟩))∧V.cell? ⟨y,5,none⟩=some (.pointer (some ⟨x,0,none⟩))));obtain⟨d1,d2,d3⟩:=K1 _ O9.IX O9.c2;go_wp2
 go_region_held3 (fun V=>V.cell? ⟨w.heap.size,0,none⟩=some (.pointer (some ⟨y,0,none⟩))∧V.cell? ⟨y,0,none⟩=some (.pointer (some ⟨b,0,none⟩))∧V.cell? ⟨y,5,none⟩=some (.pointer (some ⟨x,0,none⟩)))
  (first|exact⟨d1,d2,d3⟩|exact⟨c1,vZ.cells.1,vZ.cells.2.2.2.2.2.1⟩|go_keep)
  (first
   |(go_at_call 63;refine(Qc 1).mono ?_;rintro e w4 ⟨rfl,Pt,gv4,g1,g2,g3,g4,g5,g6,g7⟩;have c1:=Ii g7;have vZ:=Hi g2;have HG:=Hi (Cr g1 (Cr g3 (Cr g4 (Cr g5 g6))));clear g1 g2 g3 g4 g5 g6 g7))
 all_goals
  go_wp2;go_ret;unfold UY;rw[Ve.out];exact⟨rfl,Pt,gv4,HG.1,vZ,HG.2.1,M5.trans HG.2.2.1 (fun i hi=>.inl hi),fun i hi=>(HG.2.2.2.1 i hi).imp id (fun e=>Ay M5.size e),fun i hi=>(HG.2.2.2.2 i hi).imp id (fun e=>Ay M5.size e)⟩
end
section
open Af
theorem Dg.acK{w:World}{y b m x mv:Nat}{gv:Value}{F:St}{A:M}(h:Dg w y b m x gv F)(hM:CG w mv A):Dg (w.setCell ⟨y,4,none⟩ (.map (some mv))) y b mv x gv { F with m:=A }:=by
 have hu:A7 (fun k=>k=y) w (w.setCell ⟨y,4,none⟩ (.map (some mv))):=(A7.refl (fun k=>k=y) w).setCell (p:=⟨y,4,none⟩) (.inl rfl) _;exact⟨Cf w y 4 _ _ _ h.struct,hM.upd hu (fun e=>hM.Dp (e▸h.blk)),h.DZ.upd hu (fun k hk e=>by subst e;exact Bf.ne hk h.blk (by decide) rfl) (fun k hk e=>by subst e;exact h.XY.2.1 hk),h.fits⟩
theorem ake(D:A8)(F:St)(A:M):(OJ D F A).2.1.m=if(OJ D F A).2.2=0 then A else F.m:=by rw[akd]
theorem apJ{V:World}{y b m x c2 c6 cap:Nat}{gv:Value}{fp:Nat→Prop}{F:St}{D:A8}{q:Option Addr}{G:List T}(hd:BI V b D fp)(hf:Dg V y b m x gv F)(ap:¬ fp m)(h2:V.heap[c2]?=some (.cells #[.pointer (some ⟨y,0,none⟩)] 42))(h6:V.heap[c6]?=some (.cells #[.slice q G.length cap] 61))(jD:¬ BP x gv c6)
  (hx:Dv V q G)(VE:∀ p,q=some p→G≠[]→¬ fp p.block∧¬ BP x gv p.block)(hlen:G.length≤1000000)(DC:rowLen G≤1000000)(Hw:D.loose.length≤400000000)(Oy:F.w.groups.length≤1000000)(nq:Nat):
  Calls prog 63 #[.pointer (some ⟨y,0,none⟩),.slice (some ⟨V.heap.size,0,none⟩) 1 1] ((V.alloc (.cells #[.func (.func 64) #[] #[.pointer (some ⟨c2,0,none⟩),.pointer (some ⟨c6,0,none⟩)]] 129)).drewN nq) fun e w'=>e=.returned (.int .i64 (Dw D F.w G).2.2)∧∃ fp' Fg,BI w' b (Dw D F.w G).1 fp'∧Dg w' y b m x Fg { F with w:=(Dw D F.w G).2.1,fault:=if(Dw D F.w G).2.2=0 then F.fault else(Dw D F.w G).2.2 }∧¬ fp' m∧A7 (fun k=>fp k∨k=y∨BP x gv k) V w'∧Di fp fp' V∧Di (BP x gv) (BP x Fg) V∧w'.heap[c2]?=some (.cells #[.pointer (some ⟨y,0,none⟩)] 42):=by
 have hb:Bw V ((V.alloc (.cells #[.func (.func 64) #[] #[.pointer (some ⟨c2,0,none⟩),.pointer (some ⟨c6,0,none⟩)]] 129)).drewN nq):=((Ah _ _).alloc (Ae _) _).trans ((FM _ nq).mono (by rw[Ar];omega));have Ag:((V.alloc (.cells #[.func (.func 64) #[] #[.pointer (some ⟨c2,0,none⟩),.pointer (some ⟨c6,0,none⟩)]] 129)).drewN nq).heap[V.heap.size]?=some (.cells #[.func (.func 64) #[] #[.pointer (some ⟨c2,0,none⟩),.pointer (some ⟨c6,0,none⟩)]] 129):=((FM _ nq).block V.heap.size (by rw[Ar];omega)).trans (AP V _);have jG:=hd.below hb;have Ov:=hf.below hb;have RI:=hx.below hb;have pY:=(hb.block c2 (Ao h2)).trans h2;have h60:=(hb.block c6 (Ao h6)).trans h6;have Fh:=A7.of_below (F:=fun k=>fp k∨k=y∨BP x gv k) hb;have Bl:∀ {P P':Nat→Prop},Di P P' ((V.alloc (.cells #[.func (.func 64) #[] #[.pointer (some ⟨c2,0,none⟩),.pointer (some ⟨c6,0,none⟩)]] 129)).drewN nq)→Di P P' V:=fun hs i hi=>(hs i hi).imp id (fun e=>Ay hb.size e)
 generalize (V.alloc (.cells #[.func (.func 64) #[] #[.pointer (some ⟨c2,0,none⟩),.pointer (some ⟨c6,0,none⟩)]] 129)).drewN nq=w0 at*;generalize V.heap.size=g at*;have hk:∀ {k t},Bf w0 k t→t≠144→t≠242→t≠224→t≠61→¬ (fp k∨BP x gv k):=fun hb h1 h2 h3 h4 e=>by
  rcases e with e|e
  ·exact jG.Dp _ e h1 h2 hb
  ·rcases Ov.DZ.kind e with g|g
   ·exact Bf.ne hb g h3 rfl
   ·exact Bf.ne hb g h4 rfl
 refine(ag5 (σ:=A8×Bz) (I:=fun k E W=>(k=0→W=w0∧E=(D,F.w))∧∃ ET Ey,BI W b E.1 ET∧Cj W x b Ey E.2∧A7 (fun k=>fp k∨BP x gv k) w0 W∧Di fp ET w0∧Di (BP x gv) (BP x Ey) w0)
  (J:=fun E W=>∃ ET Ey,BI W b E.1 ET∧Cj W x b Ey E.2∧A7 (fun k=>fp k∨BP x gv k) w0 W∧Di fp ET w0∧Di (BP x gv) (BP x Ey) w0) (s0:=(D,F.w)) (cap:=1) (g:=g) (n:=1) (fs:=[fun E=>(((Dw E.1 E.2 G).1,(Dw E.1 E.2 G).2.1),(Dw E.1 E.2 G).2.2)])
  (vs:=[.func (.func 64) #[] #[.pointer (some ⟨c2,0,none⟩),.pointer (some ⟨c6,0,none⟩)]])
  ⟨fun _=>⟨rfl,rfl⟩,fp,gv,jG,Ov.DZ,A7.refl _ _,fun _ h=>.inl h,fun _ h=>.inl h⟩ ⟨rfl,fun i h h'=>?_⟩ ?_ rfl (by omega) ?_).mono ?_
 ·match i,h with
  |0,_=>
   refine⟨_,_,_,rfl,enters_of func64 (by kernel_rfl) rfl,fun E W hI=>?_⟩;obtain⟨rfl,rfl⟩:=hI.1 rfl;refine(aqu jG Ov ap pY h60 jD RI VE hlen DC Hw Oy).mono fun e W' hp=>?_
   exact⟨hp.1,fun _=>⟨fun h=>absurd h (by omega),hp.2⟩,fun _=>hp.2⟩
 ·rintro k E W ⟨_,ET,Ey,g1,g2,g3,g4,g5⟩ i u hu;rw[BF W g i _ _ _ ((g3.block g (Ao Ag) (hk ⟨_,_,Ag⟩ (by decide) (by decide) (by decide) (by decide))).trans Ag),←hu];rw[←Dx]
 ·rintro E W ⟨ET,Ey,g1,g2,g3,g4,g5⟩;have e:=(g3.block y (Ao Ov.struct) (hk Ov.blk (by decide) (by decide) (by decide) (by decide))).trans Ov.struct;exact⟨⟨.int .i64 F.fault,by rw[BF W y _ _ _ _ e];rfl⟩,Cu W y 6 _ _ e⟩
 ·have hG1:Fe [fun E:A8×Bz=>(((Dw E.1 E.2 G).1,(Dw E.1 E.2 G).2.1),(Dw E.1 E.2 G).2.2)] (D,F.w)=(((Dw D F.w G).1,(Dw D F.w G).2.1),(Dw D F.w G).2.2):=by
   by_cases hr:(Dw D F.w G).2.2=0<;>simp[Fe,hr]
  rw[hG1];generalize Dw D F.w G=r at*;rintro e w'⟨rfl,r1,r2⟩;refine⟨rfl,?_⟩;have key:∀ W,(∃ ET Ey,BI W b r.1 ET∧Cj W x b Ey r.2.1∧A7 (fun k=>fp k∨BP x gv k) w0 W∧Di fp ET w0∧Di (BP x gv) (BP x Ey) w0)→∃ fp' Fg,BI W b r.1 fp'∧Dg W y b m x Fg { F with w:=r.2.1 }∧¬ fp' m∧A7 (fun k=>fp k∨k=y∨BP x gv k) V W∧Di fp fp' V∧Di (BP x gv) (BP x Fg) V∧W.heap[c2]?=some (.cells #[.pointer (some ⟨y,0,none⟩)] 42):=by
   rintro W⟨ET,Ey,g1,g2,g3,g4,g5⟩;exact⟨ET,Ey,g1,⟨(g3.block y (Ao Ov.struct) (hk Ov.blk (by decide) (by decide) (by decide) (by decide))).trans Ov.struct,Ov.map.upd g3 (fun e=>e.elim ap Ov.XY.2.2),g2,Ov.fits⟩,fun e=>(g4 m e).elim ap (fun e2=>by have:=Ov.map.lt;omega),Fh.trans (g3.mono (fun i hi=>hi.elim .inl (fun e=>.inr (.inr e)))) (fun i hi=>.inl hi),Bl g4,Bl g5,(g3.block c2 (Ao pY) (hk ⟨_,_,pY⟩ (by decide) (by decide) (by decide) (by decide))).trans pY⟩
  by_cases hr:r.2.2=0
  ·obtain⟨ET,Ey,g⟩:=key _ (r1 hr).2;rw[Ac hr];exact⟨ET,Ey,g⟩
  ·obtain⟨W,hW,rfl⟩:=r2 hr;obtain⟨ET,Ey,g1,g2,g3,g4,g5,g6,g7⟩:=key _ hW;rw[Aa hr];have hu:A7 (fun k=>k=y) W (W.setCell ⟨y,6,none⟩ (.int .i64 r.2.2)):=(A7.refl (fun k=>k=y) W).setCell (p:=⟨y,6,none⟩) (.inl rfl) _;exact⟨ET,Ey,g1.upd hu (fun k hk e=>by subst e;exact X4 g1 g2 g3 k (.inl rfl) hk),g2.uB r.2.2,g3,g4.trans hu (fun i hi=>.inl (.inr (.inl hi))),g5,g6,(hu.block c2 (Ao g7) (fun e=>by subst e;exact Bf.ne ⟨_,_,g7⟩ g2.blk (by decide) rfl)).trans g7⟩
def Sd(w:World)(y b m x:Nat)(gv:Value)(fp:Nat→Prop)(r:A8×St×Int)(e:Ending)(w':World):Prop:=
 ∃ m',UY w y b m x gv fp r m' e w'∧(m'=m∨w.heap.size≤m')
section
variable {w:World}{y b m x cap:Nat}{gv:Value}{fp:Nat→Prop}{F:St}{D:A8}{a:Option Addr}{l:List Am}
theorem afr{w':World}{e:Ending}{k:Int}(hd:BI w b D fp)(hf:Dg w y b m x gv F)(ap:¬ fp m)(hr:JD D F l=(D,F,k))(he:e=.returned (.int .i64 k))(hb:Bw w w'):Sd w y b m x gv fp (JD D F l) e w':=by
 rw[hr];exact⟨m,⟨he,fp,gv,hd.below hb,hf.below hb,ap,A7.of_below hb,fun _ h=>.inl h,fun _ h=>.inl h⟩,.inl rfl⟩
theorem ag1(hd:BI w b D fp)(hf:Dg w y b m x gv F)(ap:¬ fp m)(hL:Ew w a l)(hlen:l.length≤100000)(hok:∀ c∈l,c.name.length≤maxLen∧c.data.length≤maxLen)(h0:F.fault=0)(hall:l.all Am.may=false):
  Calls prog 17 #[.pointer (some ⟨y,0,none⟩),.slice a l.length cap] w fun e w'=>Sd w y b m x gv fp (JD D F l) e w':=by
 have HD:=Hi hd;have HF:=Hi hf;have hR:JD D F l=(D,F,2):=by unfold JD;rw[Aa (by simp[h0]),Ac hall]
 have HR:=Hi hR;have Bb:=(Ah w.heap.size w).alloc (Ae _) (.cells #[.pointer (some ⟨y,0,none⟩)] 42);have AR:=Hi Bb;obtain⟨_,_,_,_,_,_,c6,_⟩:=(hf.below Bb).cells;have HC:=Hi (ag3 (cap:=cap) (hL.below Bb) (by omega) hok);rw[hall] at HC;rw[h0] at c6;clear hd hf hR Bb h0 hL hok hall
 go_in
 go_wp2_with fail;refine HC.mono ?_;rintro e w1⟨rfl,hb⟩;have HB1:=bH AR hb;clear hb;go_wp2;go_ret;exact afr HD HF ap HR rfl HB1.out
theorem ag2(hd:BI w b D fp)(hf:Dg w y b m x gv F)(ap:¬ fp m)(hL:Ew w a l)(hlen:l.length≤100000)(hok:∀ c∈l,c.name.length≤1000000∧c.data.length≤maxLen)(auA:Af.Good F.m)(FE:used (made F.m l)≤1000000000)(Xd:F.m.length≤1000000000)(BL:F.size≤8192)(Ag:rowLen (group l)≤1000000)(Hw:D.loose.length≤300000000)(Oy:F.w.groups.length≤1000000)
  (h0:F.fault=0)(hall:l.all Am.may=true):
  Calls prog 17 #[.pointer (some ⟨y,0,none⟩),.slice a l.length cap] w fun e w'=>Sd w y b m x gv fp (JD D F l) e w':=by
 have HD:=Hi hd;have HF:=Hi hf;have HL:=Hi hL;have ME:=Hi hok
 have HR:Hid (JD D F l=if F.room < used (made F.m l) then(D,F,4) else
   if F.fits (group l)=true then
    if(Dw D F.w (group l)).2.2=0 then((Dw D F.w (group l)).1,{ F with m:=made F.m l,w:=(Dw D F.w (group l)).2.1 },0)
    else((Dw D F.w (group l)).1,{ F with w:=(Dw D F.w (group l)).2.1,fault:=(Dw D F.w (group l)).2.2 },(Dw D F.w (group l)).2.2)
   else OJ D F (made F.m l)):=Hi (by unfold JD;rw[Aa (by simp[h0]),Aa (by simp[hall])])
 have Bb:=(Ah w.heap.size w).alloc (Ae _) (.cells #[.pointer (some ⟨y,0,none⟩)] 42);have AR:=Hi Bb;have LV:=Hi (AP w (.cells #[.pointer (some ⟨y,0,none⟩)] 42));obtain⟨_,_,_,_,_,_,c6,_⟩:=(hf.below Bb).cells;have HC:=Hi (ag3 (cap:=cap) (hL.below Bb) (by omega) (fun c hc=>⟨Ay (hok c hc).1 (by unfold maxLen;omega),(hok c hc).2⟩));rw[hall] at HC;rw[h0] at c6;have HG:=Hi (show Af.Good (made F.m l) from auA.made hf.map.1 (Mr.1 hall));have H0:=Hi h0;clear hd hf Bb h0 hL hok hall
 go_in
 go_wp2_with fail;refine HC.mono ?_;rintro e w1⟨rfl,hb⟩;have HB1:=bH AR hb;have Gz:=(hb.block w.heap.size (Ao LV)).trans LV.out;have Q9:=Hi Gz;have c0:=Ii Gz;have Xr:=HF.below HB1.out;obtain⟨_,_,_,_,c4,_,_,_⟩:=Xr.cells;obtain⟨es,clock,Ou,BJ⟩:=Xr.map.aqt;have Sm:=Hi Ou;have EL:=Hi BJ;clear hb Gz c6 HC Xr Ou BJ;go_wp2_with fail;refine(arz _ m es clock Sm).mono ?_;rintro e w2⟨rfl,rfl⟩;have dC:w.heap.size < w1.heap.size:=Ao Q9.out;have C8:Bw w1 (w1.alloc (.map es clock)):=(Ah _ _).alloc (Ae _) _;have Ak:=bH HB1 C8;have LY:=Hi (HL.below Ak);have vQ:=Hi ((C8.block w.heap.size dC).trans Q9);have EA:w.heap.size≤w1.heap.size:=HB1.size;clear c0 c4 Q9 HB1;generalize w1.heap.size=mv at*;generalize w1.alloc (.map es clock)=w2 at*;clear C8;go_wp2_with fail;refine(zw (cap:=cap) EL LY (by omega) (by omega) (fun c hc=>Ay (ME c hc).1 (by unfold maxLen;omega))).mono ?_;rintro e w3⟨rfl,Uv,Dk⟩;have WG:=Hi Uv;have AA:=Hi (Cq Ak Dk (fun k e=>by subst e;exact EA) Ak.size);have KO:=(Dk.block w.heap.size (Ao vQ) (by omega)).trans vQ.out;have Ww:=Hi KO;have c0:=Ii KO;clear Uv Dk KO;have HF3:=Hi (HF.below AA);have Dt:=Hi ((Ah w3.heap.size w3).drew);have Fw:=Hi (ast (WG.below Dt) FE);have K0:=Hi (fun(V:World) (h:Bw w3 V)=>(h.cell (p:=⟨w.heap.size,0,none⟩) (Ao Ww)).trans c0);have wh:=Hi (HF3.below Dt);by_cases T9:F.room < used (made F.m l)
 ·have FD:=Hi (HR.trans (Ac T9));have hq:(F.room:Int) < (used (made F.m l):Int):=by omega
  clear T9 HR;have Vi:=Hi (fun(V:World) (h:Below w3.drew.heap.size w3.drew V)=>ags (wh.below h));generalize used (made F.m l)=U at*;generalize F.room=R at*;go_wp2
  go_region_held3 (fun V=>V.cell? ⟨w.heap.size,0,none⟩=some (.pointer (some ⟨y,0,none⟩)))
   (first|exact K0 _ Dt|exact K0 _ AU)
   (first
    |(go_at_call 57;refine Fw.mono ?_;rintro e w4 ⟨rfl,AB⟩;have De:=Hi AB;have AU:=bH Dt AB;clear AB)
    |(go_at_call 58;refine(Vi _ De).mono ?_;rintro e w5 ⟨rfl,rfl⟩))
  all_goals
   go_wp2;go_ret;exact afr HD HF ap FD rfl (bT AA AU)
 ·have FD:=Hi (HR.trans (Aa T9));have hq:¬ F.room < used (made F.m l):=T9;have VV:used (made F.m l)≤1000000:=by unfold St.room at T9;omega
  have aeJ:=Hi VV;clear T9 HR VV;have Vi:=Hi (fun(V:World) (h:Below w3.drew.heap.size w3.drew V)=>ags (wh.below h));generalize hA:made F.m l=A at*;generalize hU:used A=U at*;generalize F.room=R at*;go_wp2
  go_region_held3 (fun V=>V.cell? ⟨w.heap.size,0,none⟩=some (.pointer (some ⟨y,0,none⟩)))
   (first|exact K0 _ Dt|exact K0 _ AU)
   (first
    |(go_at_call 57;refine Fw.mono ?_;rintro e w4 ⟨rfl,AB⟩;have De:=Hi AB;have AU:=bH Dt AB;clear AB)
    |(go_at_call 58;refine(Vi _ De).mono ?_;rintro e w5 ⟨rfl,rfl⟩))
  have Cy:=bH AA AU;have FT:=Hi (WG.below AU);have vS:=Hi ((AU.block w.heap.size (Ao Ww)).trans Ww);have aI:=Hi (HL.below Cy);clear De AU Vi wh K0 Fw Dt HF3 Ww AA WG c0 LY;go_wp2_with fail;refine(arG (cap:=cap) aI (by omega) (fun c hc=>(ME c hc).1)).mono ?_;rintro e w6⟨q6,cap6,rfl,IJ,Cb⟩;have bN:=agX l;clear hq;generalize group l=G at*;obtain⟨q,aC1,e6,OH⟩:=uM IJ;injection e6 with e6a e6b e6c
  subst e6a e6c;have nS:=Hi OH
  have nG:=Hi (show ∀ p,q6=some p→w4.heap.size≤p.block from fun p hp=>by
   rcases IJ.2 with⟨e1,_⟩|⟨g,c2,cur,e1,Mc,_⟩
   ·rw[hp] at e1;simp at e1
   ·rw[hp] at e1;injection e1 with e1;injection e1 with e1;subst e1;exact Mc)
  have C8:Bw w6 (w6.alloc (.cells #[.slice q6 G.length cap6] 61)):=(Ah _ _).alloc (Ae _) _;have qc:=Cb.trans (C8.mono Cb.size);have Ed:=bH Cy qc;have vT:=Hi ((qc.block w.heap.size (Ao vS)).trans vS);have HM7:=Hi (FT.below qc);have xJ:=Hi (nS.below C8);have zR:=AP w6 (.cells #[.slice q6 G.length cap6] 61);have vD:=Hi zR;have Pz:w.heap.size≤w6.heap.size:=Ay Cy.size Cb.size;have c6:=Ii zR;have HQW:=Hi (show ∀ p,q6=some p→w.heap.size≤p.block from fun p hp=>Ay Cy.size (nG p hp));have ng:=Hi (aB9 G q6 cap6 _ xJ (by unfold maxLen;omega) (by omega))
  have Oc:=Hi (show ∀ k,w.heap.size≤k→¬ (fp k∨k=y∨BP x gv k) from fun k hk e=>by
   have h1:=HD.lt k;have h2:=HF.lt k;rcases e with e|e|e
   ·have:=h1 e;omega
   ·have:=h2 (.inl e);omega
   ·have:=h2 (.inr (.inr e));omega)
  clear C8 qc Cb IJ OH nS nG zR Cy vS FT aI vQ EL Sm Ak e6b;have aCn:G.length≤200000:=by omega
  clear bN;go_wp2_with fail;refine ng.mono ?_;rintro e w8⟨rfl,Ji⟩;have Kw:=bH Ed Ji;have az:=Hi ((Ji.block w.heap.size (Ao vT)).trans vT);have TW:=Hi (HM7.below Ji);have HX8:=Hi (xJ.below Ji);have H68:=Hi ((Ji.block w6.heap.size (Ao vD)).trans vD);clear Ji Ed vT HM7 xJ vD ng c6;generalize w6.heap.size=yE at*;have HF8:=Hi (HF.below Kw);have c2:=Ii az.out;obtain⟨_,_,_,_,_,c5,_,_⟩:=HF8.cells;cases IG:Aq.Hu G with
  |none=>
   have BU:=Hi (FD.trans (Aa (by unfold St.fits;rw[IG];simp)));have hv:JE G=([],5):=(by unfold JE;rw[IG]);rw[hv];clear IG hv FD;have Gw:=Kw;have TP:=az;have Rb:=TW;clear c5 c2;have gy:=Hi (HD.below Gw);have gH:=Hi (HF.below Gw);have Zn:=ake D F A;have Zk:=agj gy gH ap Rb HG (by rw[hU];exact aeJ.out) Hw;have c2:=Ii TP.out;obtain⟨D1,F1,k1,hr⟩:∃ D1 F1 k1,OJ D F A=(D1,F1,k1):=⟨_,_,_,rfl⟩;rw[hr] at Zn Zk BU;have Yv:=Hi Zk;have gV:=Hi (show F1.m=if k1=0 then A else F.m from Zn);clear Zn Zk hr;go_wp2_with fail;refine Yv.mono ?_;rintro e F7⟨rfl,ET,Ey,g1,g2,g3,g4,g5,g6⟩;have jC:=(g4.block w.heap.size (Ao TP) (Oc _ (Ae _))).trans TP.out;have gW:=Hi (Rb.upd g4 (Oc _ EA));have c2:=Ii jC;have Iw:=Hi g1;have Du:=Hi (show Dg F7 y b m x Ey { F1 with m:=F.m } from g2);have GL:=Hi g3;have Iz:=Hi ((A7.of_below (F:=fun k=>fp k∨k=y∨BP x gv k) Gw).trans g4 (fun i hi=>.inl hi));have gM:=Hi g5;have Je:=Hi (show Di fp ET w from fun i hi=>(g5 i hi).imp id (fun e=>Ay Gw.size e));have WB:=Hi (show Di (BP x gv) (BP x Ey) w from fun i hi=>(g6 i hi).imp id (fun e=>Ay Gw.size e));obtain⟨_,_,_,_,c4,_,_,cf⟩:=Du.cells;have om:=cf 4;clear g1 g2 g3 g4 g5 g6 cf jC;by_cases h0:k1=0
   ·subst h0;have SN:{ ({ F1 with m:=F.m }:St) with m:=A }=F1:=(by have:=gV.out;rw[Ac rfl] at this;rw[←this]);have TS:=Hi SN;clear SN;go_wp2;go_ret;unfold Sd UY;rw[BU.out];have hu:A7 (fun k=>k=y) F7 (F7.setCell ⟨y,4,none⟩ (.map (some mv))):=(A7.refl (fun k=>k=y) F7).setCell (p:=⟨y,4,none⟩) (.inl rfl) _;refine⟨mv,⟨rfl,ET,Ey,Iw.upd hu (fun k hk e=>by subst e;exact X4 Iw Du GL k (.inl rfl) hk),?_,fun e=>(gM mv e).elim (fun f=>Oc _ EA (.inl f)) (fun f=>by have:=Rb.lt;omega),Iz.trans hu (fun i hi=>.inl (.inr (.inl hi))),Je.out,WB.out⟩,.inr EA⟩;have:=Du.acK gW.out;rwa[TS.out] at this
   ·have Ai:(k1 == 0)=false:=(by simp[h0]);have SN:({ F1 with m:=F.m }:St)=F1:=(by have:=gV.out;rw[Aa h0] at this;rw[←this]);have TS:=Hi SN;clear SN h0;go_wp2;go_ret;unfold Sd UY;rw[BU.out];exact⟨m,⟨rfl,ET,Ey,Iw,by rw[←TS.out];exact Du.out,GL,Iz,Je,WB⟩,.inl rfl⟩
  |some s=>
   have hv:JE G=(s,0):=(by unfold JE;rw[IG]);rw[hv];have Vi:=Hi (fun(V:World) (h:Bw w8 V)=>aBf (HF8.DZ.below h));by_cases Jk:s.length / 64≤F.w.n -1 -F.w.used
   ·have BU:=Hi (FD.trans (Ac (by unfold St.fits;rw[IG];simp[Jk])));have hq:¬ F.w.n -1 -F.w.used < s.length / 64:=(by omega);clear IG hv FD Jk;generalize s.length / 64=N at*;generalize F.w.n -1 -F.w.used=N2 at*;go_wp2_with fail;refine(Vi _ (Ah _ _)).mono ?_;rintro e w9⟨rfl,Ez⟩;have Gw:=bH Kw Ez;have TP:=Hi ((Ez.block w.heap.size (Ao az)).trans az);have Rb:=Hi (TW.below Ez);have HX9:=Hi (HX8.below Ez);have H69:=Hi ((Ez.block yE (Ao H68)).trans H68);clear Ez Vi c5 c2;have gy:=Hi (HD.below Gw);have gH:=Hi (HF.below Gw);have hcw:¬ BP x gv yE:=fun e=>Oc yE Pz (.inr (.inr e))
    have aaf:=apJ gy gH ap TP H69 hcw HX9 (fun p hp _=>⟨fun e=>Oc _ (HQW p hp) (.inl e),fun e=>Oc _ (HQW p hp) (.inr (.inr e))⟩) (by omega) Ag (by omega) Oy 0;have c2:=Ii TP.out;obtain⟨D1,L1,k1,hr⟩:∃ D1 L1 k1,Dw D F.w G=(D1,L1,k1):=⟨_,_,_,rfl⟩;rw[hr] at aaf BU;have mJ:=Hi aaf;clear aaf hr hcw;go_wp2_with fail;refine mJ.mono ?_;rintro e F7⟨rfl,ET,Ey,g1,g2,g3,g4,g5,g6,g7⟩;have gW:=Hi (Rb.upd g4 (Oc _ EA));have c2:=Ii g7;have Iw:=Hi g1;have GL:=Hi g3;have Du:=Hi (show Dg F7 y b m x Ey { F with w:=L1,fault:=if k1=0 then F.fault else k1 } from g2);have Iz:=Hi ((A7.of_below (F:=fun k=>fp k∨k=y∨BP x gv k) Gw).trans g4 (fun i hi=>.inl hi));have gM:=Hi g5;have Je:=Hi (show Di fp ET w from fun i hi=>(g5 i hi).imp id (fun e=>Ay Gw.size e));have WB:=Hi (show Di (BP x gv) (BP x Ey) w from fun i hi=>(g6 i hi).imp id (fun e=>Ay Gw.size e));obtain⟨_,_,_,_,c4,_,_,cf⟩:=Du.cells;have om:=cf 4;clear g1 g2 g3 g4 g5 g6 g7 cf;by_cases h0:k1=0
    ·subst h0;have MG:=Hi (BU.trans (Ac rfl));clear BU;go_wp2;go_ret;unfold Sd UY;rw[MG.out];have hu:A7 (fun k=>k=y) F7 (F7.setCell ⟨y,4,none⟩ (.map (some mv))):=(A7.refl (fun k=>k=y) F7).setCell (p:=⟨y,4,none⟩) (.inl rfl) _;exact⟨mv,⟨rfl,ET,Ey,Iw.upd hu (fun k hk e=>by subst e;exact X4 Iw Du GL k (.inl rfl) hk),Du.acK gW.out,fun e=>(gM mv e).elim (fun f=>Oc _ EA (.inl f)) (fun f=>by have:=Rb.lt;omega),Iz.trans hu (fun i hi=>.inl (.inr (.inl hi))),Je.out,WB.out⟩,.inr EA⟩
    ·have Ai:(k1 == 0)=false:=(by simp[h0]);have MG:=Hi (BU.trans (Aa h0));have aow:Hid (Dg F7 y b m x Ey { F with w:=L1,fault:=k1 }):=Hi (by have:=Du.out;rwa[Aa h0] at this);clear BU h0;go_wp2;go_ret;unfold Sd UY;rw[MG.out];exact⟨m,⟨rfl,ET,Ey,Iw,aow,GL,Iz,Je,WB⟩,.inl rfl⟩
   ·have BU:=Hi (FD.trans (Aa (by unfold St.fits;rw[IG];simp[Jk])));have hq:F.w.n -1 -F.w.used < s.length / 64:=(by omega);clear IG hv FD Jk;generalize s.length / 64=N at*;generalize F.w.n -1 -F.w.used=N2 at*;go_wp2_with fail;refine(Vi _ (Ah _ _)).mono ?_;rintro e w9⟨rfl,Ez⟩;have Gw:=bH Kw Ez;have TP:=Hi ((Ez.block w.heap.size (Ao az)).trans az);have Rb:=Hi (TW.below Ez);clear Ez Vi c5 c2;have gy:=Hi (HD.below Gw);have gH:=Hi (HF.below Gw);have Zn:=ake D F A;have Zk:=agj gy gH ap Rb HG (by rw[hU];exact aeJ.out) Hw;have c2:=Ii TP.out;obtain⟨D1,F1,k1,hr⟩:∃ D1 F1 k1,OJ D F A=(D1,F1,k1):=⟨_,_,_,rfl⟩;rw[hr] at Zn Zk BU;have Yv:=Hi Zk;have gV:=Hi (show F1.m=if k1=0 then A else F.m from Zn);clear Zn Zk hr;go_wp2_with fail;refine Yv.mono ?_;rintro e F7⟨rfl,ET,Ey,g1,g2,g3,g4,g5,g6⟩;have jC:=(g4.block w.heap.size (Ao TP) (Oc _ (Ae _))).trans TP.out;have gW:=Hi (Rb.upd g4 (Oc _ EA));have c2:=Ii jC;have Iw:=Hi g1;have Du:=Hi (show Dg F7 y b m x Ey { F1 with m:=F.m } from g2);have GL:=Hi g3;have Iz:=Hi ((A7.of_below (F:=fun k=>fp k∨k=y∨BP x gv k) Gw).trans g4 (fun i hi=>.inl hi));have gM:=Hi g5;have Je:=Hi (show Di fp ET w from fun i hi=>(g5 i hi).imp id (fun e=>Ay Gw.size e));have WB:=Hi (show Di (BP x gv) (BP x Ey) w from fun i hi=>(g6 i hi).imp id (fun e=>Ay Gw.size e));obtain⟨_,_,_,_,c4,_,_,cf⟩:=Du.cells;have om:=cf 4;clear g1 g2 g3 g4 g5 g6 cf jC;by_cases h0:k1=0
    ·subst h0;have SN:{ ({ F1 with m:=F.m }:St) with m:=A }=F1:=(by have:=gV.out;rw[Ac rfl] at this;rw[←this]);have TS:=Hi SN;clear SN;go_wp2;go_ret;unfold Sd UY;rw[BU.out];have hu:A7 (fun k=>k=y) F7 (F7.setCell ⟨y,4,none⟩ (.map (some mv))):=(A7.refl (fun k=>k=y) F7).setCell (p:=⟨y,4,none⟩) (.inl rfl) _;refine⟨mv,⟨rfl,ET,Ey,Iw.upd hu (fun k hk e=>by subst e;exact X4 Iw Du GL k (.inl rfl) hk),?_,fun e=>(gM mv e).elim (fun f=>Oc _ EA (.inl f)) (fun f=>by have:=Rb.lt;omega),Iz.trans hu (fun i hi=>.inl (.inr (.inl hi))),Je.out,WB.out⟩,.inr EA⟩;have:=Du.acK gW.out;rwa[TS.out] at this
    ·have Ai:(k1 == 0)=false:=(by simp[h0]);have SN:({ F1 with m:=F.m }:St)=F1:=(by have:=gV.out;rw[Aa h0] at this;rw[←this]);have TS:=Hi SN;clear SN h0;go_wp2;go_ret;unfold Sd UY;rw[BU.out];exact⟨m,⟨rfl,ET,Ey,Iw,by rw[←TS.out];exact Du.out,GL,Iz,Je,WB⟩,.inl rfl⟩
