/- FilCommit FilOpenW FilAlive -/
import Derived.Test.YtkmninbcgipliaaGreatDoorW4
set_option maxHeartbeats 8000000
set_option maxRecDepth 100000
set_option linter.all false
namespace Go.Proofs.YtkmninbcgipliaaGreatDoor
open Tryz
section
open Go.RowKit Go.Maps
open Ah
theorem CV.atc{w:World}{m:Nat}{F:M}(h:CV w m F):∃ es clock,w.heap[m]?=some (.map es clock)∧CV (w.alloc (.map es clock)) w.heap.size F:=by
 obtain⟨hu,kv,hp,⟨hn,D,⟨es,clock,hb,G,hs,hD⟩,rest⟩⟩:=h;exact⟨es,clock,hb,hu,kv,hp,⟨hn,D,⟨es,clock,(MapKept.heap_alloc w _).1,G,hs,hD⟩,rest⟩⟩
theorem aua(w:World)(p:Option Nat):(binOp .eql 113 (.map p) (.map none)).run prog w=.ok ↑p.isNone w:=by
 have h:∀ d,(Op.equalIn (d+1) 113 (.map p) (.map none)).run prog w=.ok p.isNone w:=fun d=>by
  cases p<;>simp[Op.equalIn,He underlying113]
 simp only[binOp];simp[show Op.equal 113 (.map p) (.map none)=Op.equalIn (9999+1) 113 (.map p) (.map none) from rfl,h 9999]
theorem aug(w:World)(m:Nat)(es:Array MapEntry)(clock:Nat)(hb:w.heap[m]?=some (.map es clock)):
  Calls prog 55 #[.map (some m)] w fun e w'=>e=.returned (.map (some w.heap.size))∧w'=w.alloc (.map es clock):=by
 have hq:=fun w=>aua w (some m)
 have ax9:(Extern.MapsClone.clone #[.iface 113 (.map (some m))]).run prog w=.ok (.iface 113 (.map (some w.heap.size))) (w.alloc (.map es clock)):=by
  have e:Extern.MapsClone.clone #[.iface 113 (.map (some m))]=(getObj m >>= fun o=>match o with
    | .map entries clock=>(newObj (.map entries clock) >>= fun n=>pure (.iface 113 (.map (some n))))
    |_=>stuck "maps.clone: a map expected"):=rfl
  rw[e];simp[MapKept.run_getObj_map hb,Result.andThen,go_sem]
 have hta:∀ W,(Instr.typeAssert (.iface 113 (.map (some w.heap.size))) 20 113 false).run prog W=.ok (.map (some w.heap.size)) W:=fun W=>by
  simp[Instr.typeAssert,He underlying113,go_sem,Result.andThen]
 go_in
 have KO:=run_callFunc_extern (P:=prog) func133 (by kernel_rfl) (by kernel_rfl) (by kernel_rfl) (e:=Extern.MapsClone.clone) (by kernel_rfl) #[.iface 113 (.map (some m))] w;rw[ax9] at KO;simp only[Result.andThen] at KO;go_wp2;go_ret;exact⟨rfl,rfl⟩
theorem auc(name data:T)(gone:Bool)(w:World)(hn:name.length≤maxLen)(hd:data.length≤maxLen):
  Calls prog 53 #[.agg #[name,data,gone]] w (Rt w (.bool (!Am.may ⟨name,data,gone⟩))):=by
 have HM:=Hi (fun(V:World)=>sK name data gone V hn hd);generalize Am.may ⟨name,data,gone⟩=s at*
 go_in
 go_wp2_with fail;refine(HM _).mono ?_;rintro e w1⟨rfl,hb⟩;have HB:=Hi hb;clear hb;go_wp2;go_ret;exact⟨rfl,((Ai w.heap.size w).alloc (Ag _) _).trans (HB.mono (by simp))⟩
def Vx(l:List Am):Int:=match l.findIdx? (fun c=>!Am.may c) with
 |some i=>(i:Int)
 |none=> -1
theorem ays{l:List Am}{k:Nat}(hk:k < l.length)(h:Am.may l[k]=false)(hn:∀ j (hj:j < k),Am.may (l[j]'(by omega))=true):Vx l=(k:Int):=by
 have:l.findIdx? (fun c=>!Am.may c)=some k:=List.findIdx?_eq_some_iff_getElem.2 ⟨hk,by simp[h],fun j hj=>by simp[hn j hj]⟩;unfold Vx;rw[this]
theorem ayr{l:List Am}(hn:∀ j (hj:j < l.length),Am.may l[j]=true):Vx l= -1:=by
 have:l.findIdx? (fun c=>!Am.may c)=none:=List.findIdx?_eq_none_iff.2 fun x hx=>by
  obtain⟨i,hi,rfl⟩:=Tp hx;simp[hn i hi]
 unfold Vx;rw[this]
theorem ayq(l:List Am):decide (0≤Vx l)= !(l.all Am.may):=by
 unfold Vx;cases h:l.findIdx? (fun c=>!Am.may c) with
 |none=>
  have:=List.findIdx?_eq_none_iff.1 h;have e:l.all Am.may=true:=Nl.2 fun x hx=>by simpa using this x hx
  rw[e];rfl
 |some i=>
  obtain⟨hi,h1,_⟩:=List.findIdx?_eq_some_iff_getElem.1 h;have e:l.all Am.may=false:=List.all_eq_false.2 ⟨_,CK hi,by simpa using h1⟩;rw[e];simp
theorem auC{w:World}{a:Option Addr}{cap:Nat}{l:List Am}(hL:Eh w a l)(hlen:l.length≤1000000)(hok:∀ c∈l,c.name.length≤maxLen∧c.data.length≤maxLen):
  Calls prog 132 #[.slice a l.length cap,.func (.func 53) #[] #[]] w (Rt w (.int .i64 (Vx l))):=by
 have HL:=Hi hL;have Gy:=Hi hok;clear hL hok
 go_in
 go_wp2
 go_loopw [5,8] (fun _ i wr=>∃ k:Nat,k≤l.length∧i=.int .i64 k∧Bw w wr∧∀ j (hj:j < k),(h:j < l.length)→Am.may l[j]=true) (fun _ i _=>l.length -(intOf i).toNat)
 case atStart=>exact⟨0,AV _,rfl,Ai _ _,fun j hj=>by omega⟩
 case round=>
  obtain⟨k,hk,rfl,hb,CP⟩:=hrel;have DU:=Hi CP;clear CP;by_cases hlt:k < l.length
  ·obtain⟨q,Cn,hq,-⟩:=HL.index cap k hlt;have Dw:=hq.below hb;obtain⟨c0,c1,c2⟩:=Dw.cells;have Dj:=Gy _ (CK hlt);have ES:=Hi (fun(V:World)=>auc l[k].name l[k].data l[k].gone V Dj.1 Dj.2);have TE:=Hi (show Am.may l[k]=false→Vx l=(k:Int) from fun h=>ays hlt h (fun j hj=>DU j hj (by omega)))
   have CW:=Hi (show Am.may l[k]=true→∀ j (hj:j < k+1),(h:j < l.length)→Am.may l[j]=true from fun h j hj h'=>by
    by_cases e:j=k
    ·subst e;exact h
    ·exact DU j (by omega) h')
   generalize l[k]=x at*;obtain⟨cn,cd,cg⟩:=x;simp only at c0 c1 c2 Dj ES;have HB:=Hi hb;clear hq Dw hb;go_wp2_with fail;refine(ES _).mono ?_;rintro e w1⟨rfl,Ak⟩;have HB1:=bH HB Ak;clear Ak;generalize Am.may ⟨cn,cd,cg⟩=s at*;cases s with
   |false=>
    have jG:=Hi (TE rfl);clear TE CW;go_wp2;go_ret;exact⟨by rw[jG.out];rfl,HB1⟩
   |true=>
    have HN:=Hi (CW rfl);clear TE CW;go_wp2;go_roundw
    case rel=>exact⟨k+1,by omega,by go_num,HB1,HN⟩
    case measure=>simp[intOf];omega
  ·obtain rfl:k=l.length:=(by omega);have HN:=Hi (show Vx l= -1 from ayr (fun j hj=>DU j hj hj));have HB:=Hi hb;clear hb;go_wp2;go_ret;exact⟨by rw[HN.out];rfl,HB⟩
theorem ai5{w:World}{a:Option Addr}{cap:Nat}{l:List Am}(hL:Eh w a l)(hlen:l.length≤1000000)(hok:∀ c∈l,c.name.length≤maxLen∧c.data.length≤maxLen):
  Calls prog 52 #[.slice a l.length cap,.func (.func 53) #[] #[]] w (Rt w (.bool (!(l.all Am.may)))):=by
 have HI:=Hi (auC (cap:=cap) hL hlen hok);have HE:=Hi (ayq l);clear hL hok;generalize Vx l=i at*
 go_in
 go_wp2_with fail;refine HI.mono ?_;rintro e w1⟨rfl,hb⟩;have HB:=Hi hb;clear hb;go_wp2;go_ret;exact⟨by rw[←HE.out];rfl,HB⟩
end
section
open Go.RowKit Go.Maps
open Ah
def FD{σ:Type}:List (σ→σ×Int)→σ→σ×Int
 |[],s=>(s,0)
 |f :: l,s=>if(f s).2=0 then FD l (f s).1 else f s
theorem atI{σ:Type}{fs:List (σ→σ×Int)}(h:fs=[])(s:σ):FD fs s=(s,0):=by subst h;rfl
structure afm{σ:Type}(I:Nat→σ→World→Prop)(J:σ→World→Prop)(vs:List Value)(fs:List (σ→σ×Int)):Prop where
 len:vs.length=fs.length
 each:∀ i (h:i < vs.length) (h':i < fs.length),∃ F recv Ka,vs[i]=.func (.func F) recv Ka∧(∀ args w,(callFunc F args).run prog w=.ok (.enter F args) w)∧
  ∀ s W,I i s W→Calls prog F (recv++Ka) W fun e W'=>e=.returned (.int .i64 (fs[i] s).2)∧((fs[i] s).2=0→I (i+1) (fs[i] s).1 W')∧((fs[i] s).2≠0→J (fs[i] s).1 W')
theorem ai7{σ:Type}{w:World}{y g n cap:Nat}{I:Nat→σ→World→Prop}{J:σ→World→Prop}{vs:List Value}{fs:List (σ→σ×Int)}{s0:σ}
  (hI:I 0 s0 w)(hf:afm I J vs fs)(hv:∀ k s W,I k s W→∀ i u,vs[i]?=some u→W.cell? ⟨g,i,none⟩=some u)(hn:vs.length=n)(gB:n≤5)(hJ:∀ s W,J s W→(∃ v,W.cell? ⟨y,6,none⟩=some v)∧W.frozen? ⟨y,6,none⟩=false):
  Calls prog 63 #[y,.slice g n cap] w fun e w'=>e=.returned (.int .i64 (FD fs s0).2)∧((FD fs s0).2=0→I n (FD fs s0).1 w')∧((FD fs s0).2≠0→∃ W,J (FD fs s0).1 W∧w'=W.setCell ⟨y,6,none⟩ (.int .i64 (FD fs s0).2)):=by
 have HI:=Hi hI;have HF:=Hi hf;have HV:=Hi hv;have HN:=Hi hn;have HJ:=Hi hJ;clear hI hf hv hn hJ
 go_in
 go_wp2
 go_loopw [10] (fun i wr=>∃ (k:Nat) (s:σ),k≤n∧i=.int .i64 k∧I k s wr∧FD fs s0=FD (fs.drop k) s) (fun i _=>n -(intOf i).toNat)
 case atStart=>exact⟨0,s0,AV _,rfl,HI,by rw[List.drop_zero]⟩
 case round=>
  obtain⟨k,s,hk,rfl,hIr,Qq⟩:=hrel;have yR:=Hi hIr;have QO:=Hi Qq;clear hIr Qq;by_cases hlt:k < n
  ·have KR:k < vs.length:=(by rw[HN.out];exact hlt);have aL:k < fs.length:=(by rw[←HF.len];exact KR);obtain⟨F,recv,Ka,hv,Ol,KO⟩:=HF.each k KR aL;have hc:wr.cell? ⟨g,k,none⟩=some (.func (.func F) recv Ka):=by
    rw[←hv];exact HV k s wr yR k _ (CZ KR)
   have Bj:FD (fs.drop k) s=if(fs[k] s).2=0 then FD (fs.drop (k+1)) (fs[k] s).1 else fs[k] s:=by
    rw[OH aL];rfl
   have BQ:=KO s wr yR.out;generalize fs[k]=f at*;generalize f s=r at*;obtain⟨s1,e1⟩:=r;have ES:=Hi BQ;have Ba:=Hi Bj;clear hv KO BQ Bj KR aL;go_wp2_with fail;refine ES.mono ?_;rintro e w1⟨rfl,h1,h2⟩;have H1:=Hi h1;have H2:=Hi h2;clear h1 h2 hc;by_cases h0:e1=0
   ·subst h0;have TB:=Hi (show FD fs s0=FD (fs.drop (k+1)) s1 by rw[QO.out,Ba.out];rfl);have HI1:=Hi (H1 rfl);clear H1 H2;go_wp2;go_roundw
    case rel=>exact⟨k+1,s1,by omega,by go_num,HI1,TB⟩
    case measure=>simp[intOf];omega
   ·have Ak:(e1 != 0)=true:=(by simp[h0]);have TB:=Hi (show FD fs s0=(s1,e1) by rw[QO.out,Ba.out,A9 h0]);have HJ1:=Hi (H2 h0);obtain⟨⟨v6,c6⟩,cf6⟩:=HJ _ _ HJ1.out;have H0:=Hi h0;clear h0 H1 H2;go_wp2;go_ret;rw[TB.out];exact⟨rfl,fun h=>absurd h H0.out,fun _=>⟨w1,HJ1,rfl⟩⟩
  ·obtain rfl:k=n:=(by omega);have J5:fs.drop k=[]:=List.drop_eq_nil_of_le (by rw[←HF.len,HN.out];exact Ag _);have TB:=Hi (QO.trans (atI J5 s));clear J5;go_wp2;go_ret;rw[TB.out];exact⟨rfl,fun _=>yR.out,fun h=>absurd rfl h⟩
end
section
open Go.RowKit Go.Maps
open Ah
structure Lu(V:World)(y b m x c2 c5:Nat)(gv:Value)(fp:Nat→Prop)(F:St)(s:T)(D:A8):Prop where
 disk:BP V b D fp
 Jk:Dp V y b m x gv F
 c2:V.heap[c2]?=some (.cells #[y] 42)
 c5:V.heap[c5]?=some (.cells #[s] 9)
 ap:¬ fp m
section
variable {V W:World}{y b m x c2 c5:Nat}{gv:Value}{fp fp':Nat→Prop}{F:St}{s:T}{D D':A8}
theorem Lu.below(h:Lu V y b m x c2 c5 gv fp F s D)(hb:Bw V W):Lu W y b m x c2 c5 gv fp F s D:=
 ⟨h.disk.below hb,h.Jk.below hb,(hb.block c2 (Ao h.c2)).trans h.c2,(hb.block c5 (Ao h.c5)).trans h.c5,h.ap⟩
theorem Y2{V:World}{y b m x b':Nat}{gv:Value}{fp:Nat→Prop}{F:St}{D:A8}(hd:BP V b' D fp)(hf:Dp V y b m x gv F)(ap:¬ fp m)(k:Nat)(hk:WA y m x gv k):¬ fp k:=by
 rcases hk with rfl|rfl|hk
 ·exact fun e=>hd.DI _ e (by decide) (by decide) hf.blk
 ·exact ap
 ·intro e;rcases hf.Ed.kind hk with h|h
  ·exact hd.DI _ e (by decide) (by decide) h
  ·exact hd.DI _ e (by decide) (by decide) h
theorem Lu.aaL(h:Lu V y b m x c2 c5 gv fp F s D)(hd:BP W b D' fp')(hu:A7 fp V W)(hs:Dq fp fp' V):Lu W y b m x c2 c5 gv fp' F s D':=
 ⟨hd,h.Jk.upd hu (fun k hk e=>h.disk.DI k e (by decide) (by decide) hk) (Y2 h.disk h.Jk h.ap),
  (hu.block c2 (Ao h.c2) (fun e=>h.disk.DI _ e (by decide) (by decide) ⟨_,_,h.c2⟩)).trans h.c2,
  (hu.block c5 (Ao h.c5) (fun e=>h.disk.DI _ e (by decide) (by decide) ⟨_,_,h.c5⟩)).trans h.c5,
  fun e=>(hs m e).elim h.ap (fun e2=>by have:=h.Jk.map.lt;omega)⟩
theorem Lu.reads(h:Lu V y b m x c2 c5 gv fp F s D):V.cell? c2=some (.pointer y)∧V.cell? c5=some ↑s∧V.cell? y=some (.pointer b)∧V.cell? ⟨y,1,none⟩=some ↑(F.log:Int)∧V.cell? ⟨y,2,none⟩=some ↑(F.size:Int)∧V.cell? ⟨y,3,none⟩=some ↑(F.AL:Int)∧V.cell? ⟨y,5,none⟩=some (.pointer x):=by
 obtain⟨c0,c1,c2',c3,c4,c5',c6,_⟩:=h.Jk.cells;exact⟨IB h.c2,IB h.c5,c0,c1,c2',c3,c5'⟩
theorem ayW(h:Lu V y b m x c2 c5 gv fp F s D)(hs:s.length≤1000000)(Ih:D.loose.length≤500000000):
  Calls prog 136 #[c2,c5] V (Xw V b D fp fun E=>E.write ((D9 F.log F.size F.AL:Nat):Int) (Aw.pad (Ab.le 4 s.length++s))):=by
 have HL:=Hi h;obtain⟨f1,f2,f3,f4⟩:=h.Jk.fits;have GL:(Aw.pad (Ab.le 4 s.length++s)).length≤1000128:=by rw[Aw.Te,AA,Ab.Cb];omega
 have Ct:D9 F.log F.size F.AL≤40000:=by unfold D9;have:F.AL*F.size≤1*F.size:=PN _ f4;omega
 have AP:=Hi (Ai V.heap.size V);have DL:=Hi ((Ai V.heap.size V).drew);have VV:=Hi (h.below DL);have HW:=Hi (fun(W:World) (h:Lu W y b m x c2 c5 gv fp F s D)=>p8 h.disk ((D9 F.log F.size F.AL:Nat):Int) (Aw.pad (Ab.le 4 s.length++s)) (by omega) (by omega) (by omega));have aqI:=Hi (fun(W:World)=>ai2 (.pointer b) F.log F.size F.AL W f1 f2 f4);have arx:=Hi (fun(W:World)=>sM s.length W (by omega));have HWH:=Hi (fun(W:World)=>sO (Ab.le 4 s.length++s) W (by rw[AA,Ab.Cb];omega));have fD:∀ W,(binOp .add 9 ↑(Ab.le 4 s.length) ↑s).run prog W=.ok ↑(Ab.le 4 s.length++s) W:=fun W=>by
  have h4:=Ab.Cb 4 s.length;simp[go_sem,Op.stringOp,h4];omega
 have aFy:∀ W,(Op.stringOp .add (bs (Ab.le 4 s.length)) (bs s)).run prog W=.ok ↑(Ab.le 4 s.length++s) W:=fun W=>by
  have h4:=Ab.Cb 4 s.length;simp[go_sem,Op.stringOp,h4];omega
 have h4:=Ab.Cb 4 s.length;have Df:(4:Int)+(s.length:Int)≤9223372036854775807:=by omega
 generalize Aw.pad (Ab.le 4 s.length++s)=P at*;generalize D9 F.log F.size F.AL=B at*;obtain⟨d0,d1,d2,d3,d4,d5,d6⟩:=h.reads;clear h
 go_in
 go_wp2
 go_region_held3 (fun W=>W.cell? c2=some (.pointer y)∧W.cell? c5=some ↑s∧W.cell? y=some (.pointer b)∧W.cell? ⟨y,1,none⟩=some ↑(F.log:Int)∧W.cell? ⟨y,2,none⟩=some ↑(F.size:Int)∧W.cell? ⟨y,3,none⟩=some ↑(F.AL:Int)∧W.cell? ⟨y,5,none⟩=some (.pointer x))
  (first|exact VV.reads|exact Gb.reads|exact Li.reads|exact OU.reads|exact VT.reads)
  (first
   |(go_at_call 138;refine(aqI _).mono ?_;rintro e W1 ⟨rfl,Ak⟩;have Gb:=Hi (VV.below Ak);have HB1:=bH DL Ak;clear Ak)
   |(go_at_call 140;refine(arx _).mono ?_;rintro e W2 ⟨rfl,Ac⟩;have Li:=Hi (Gb.below Ac);have Aj:=bH HB1 Ac;clear Ac)
   |(go_at_call 139;refine(HWH _).mono ?_;rintro e W3 ⟨rfl,Av⟩;have OU:=Hi (Li.below Av);have Au:=bH Aj Av;clear Av)
   |(go_at_call 137;refine(HW _ OU).mono ?_;rintro e W4 ⟨rfl,Qi,Vh,Nc,WW⟩;have VT:=Hi (OU.aaL Vh Nc WW);have VM:=Hi Vh;have P6:=Hi Nc;have ZH:=Hi WW;clear Vh Nc WW))
 all_goals
  go_wp2;go_ret;exact⟨rfl,Qi,VM,(A7.of_below (F:=fp) Au).trans P6 (fun i hi=>.inl hi),fun i hi=>(ZH i hi).elim .inl (fun e=>.inr (Ay Au.size e))⟩
theorem ayX(h:Lu V y b m x c2 c5 gv fp F s D)(Ih:D.loose.length≤500000000):
  Calls prog 141 #[c2] V (Xw V b D fp fun E=>E.write ((0:Nat):Int) (Ah.mark F.AL ((F.w.gen+1) % 18446744073709551616))):=by
 have HL:=Hi h;obtain⟨f1,f2,f3,f4⟩:=h.Jk.fits;have JI:(F.w.gen+1) % 18446744073709551616 < 18446744073709551616:=Nat.mod_lt _ (by decide);have FK:=Ah.OA F.AL ((F.w.gen+1) % 18446744073709551616);have DL:=Hi ((Ai V.heap.size V).drew);have VV:=Hi (h.below DL);have HW:=Hi (fun(W:World) (h:Lu W y b m x c2 c5 gv fp F s D)=>p8 h.disk ((0:Nat):Int) (Ah.mark F.AL ((F.w.gen+1) % 18446744073709551616)) (by omega) (by omega) (by omega));have QU:=Hi (fun(W:World)=>aio F.AL ((F.w.gen+1) % 18446744073709551616) W f4 JI);have UI:=Hi (fun(W:World) (h:Lu W y b m x c2 c5 gv fp F s D)=>aq5 h.Jk.Ed);have e3:=aeL F.w.gen;generalize Ah.mark F.AL ((F.w.gen+1) % 18446744073709551616)=P at*;generalize (F.w.gen+1) % 18446744073709551616=G at*;obtain⟨d0,d1,d2,d3,d4,d5,d6⟩:=h.reads;clear h
 go_in
 go_wp2
 go_region_held3 (fun W=>W.cell? c2=some (.pointer y)∧W.cell? c5=some ↑s∧W.cell? y=some (.pointer b)∧W.cell? ⟨y,1,none⟩=some ↑(F.log:Int)∧W.cell? ⟨y,2,none⟩=some ↑(F.size:Int)∧W.cell? ⟨y,3,none⟩=some ↑(F.AL:Int)∧W.cell? ⟨y,5,none⟩=some (.pointer x))
  (first|exact VV.reads|exact Gb.reads|exact Li.reads|exact VT.reads)
  (first
   |(go_at_call 80;refine(UI _ VV).mono ?_;rintro e W1 ⟨rfl,rfl⟩;have Gb:=VV)
   |(go_at_call 142;refine(QU _).mono ?_;rintro e W2 ⟨rfl,Ac⟩;have Li:=Hi (Gb.below Ac);have Aj:=bH DL Ac;clear Ac)
   |(go_at_call 137;refine(HW _ Li).mono ?_;rintro e W4 ⟨rfl,Qi,Vh,Nc,WW⟩;have VT:=Hi (Li.aaL Vh Nc WW);have VM:=Hi Vh;have P6:=Hi Nc;have ZH:=Hi WW;clear Vh Nc WW))
 all_goals
  go_wp2;go_ret;exact⟨rfl,Qi,VM,(A7.of_below (F:=fp) Aj).trans P6 (fun i hi=>.inl hi),fun i hi=>(ZH i hi).elim .inl (fun e=>.inr (Ay Aj.size e))⟩
theorem atd{c6 cap:Nat}{a:Option Addr}{l:List T}(hd:BP V b D fp)(hf:Dp V y b m x gv F)(ap:¬ fp m)(h2:V.heap[c2]?=some (.cells #[y] 42))(h6:V.heap[c6]?=some (.cells #[.slice a l.length cap] 61))(lQ:¬ BZ x gv c6)
  (hx:Dz V a l)(WJ:∀ p,a=some p→l≠[]→¬ fp p.block∧¬ BZ x gv p.block)(hlen:l.length≤1000000)(Df:rowLen l≤1000000)(Ih:D.loose.length≤400000000)(Pt:F.w.groups.length≤1000000):
  Calls prog 64 #[c2,c6] V fun e w'=>ZQ V x b gv fp (DN D F.w l) e w':=by
 have DL:=Hi ((Ai V.heap.size V).drew);have HA:=Hi (aso (cap:=cap) (hd.below DL) (hf.Ed.below DL) (hx.below DL) WJ hlen Df Ih Pt);obtain⟨_,_,_,_,_,d5,_⟩:=hf.cells;have c2':=IB h2;have c6':=IB h6
 have HK:=Hi (fun(W:World) (hu:A7 (fun k=>fp k∨BZ x gv k) V.drew W)=>(by
  refine⟨(hu.cell (p:=⟨c2,0,none⟩) (Ao h2) ?_).trans c2',(hu.cell (p:=⟨c6,0,none⟩) (Ao h6) ?_).trans c6',(hu.cell (p:=⟨y,5,none⟩) (hf.lt y (.inl rfl)) ?_).trans d5⟩
  ·rintro(e|e)
   ·exact hd.DI _ e (by decide) (by decide) ⟨_,_,h2⟩
   ·rcases hf.Ed.kind e with h|h
    ·exact Bf.ne ⟨_,_,h2⟩ h (by decide) rfl
    ·exact Bf.ne ⟨_,_,h2⟩ h (by decide) rfl
  ·rintro(e|e)
   ·exact hd.DI _ e (by decide) (by decide) ⟨_,_,h6⟩
   ·exact lQ e
  ·rintro(e|e)
   ·exact Y2 hd hf ap y (.inl rfl) e
   ·exact hf.Z0.2.1 e:W.cell? c2=some (.pointer y)∧W.cell? c6=some (.slice a l.length cap)∧W.cell? ⟨y,5,none⟩=some (.pointer x)))
 clear hd hf hx WJ h2 h6
 go_in
 go_wp2
 go_region_held3 (fun W=>W.cell? c2=some (.pointer y)∧W.cell? c6=some (.slice a l.length cap)∧W.cell? ⟨y,5,none⟩=some (.pointer x))
  (first|exact HK _ (A7.refl _ _)|exact HK _ NA)
  (first
   |(go_at_call 65;refine HA.mono ?_;rintro e W1 ⟨rfl,F4,EG,g1,g2,g3,g4,g5⟩;have NA:=Hi g3;have HG:=Hi (CB g1 (CB g2 (CB g4 g5)));clear g1 g2 g3 g4 g5))
 all_goals
  go_wp2;go_ret;exact⟨rfl,F4,EG,HG.1,HG.2.1,(A7.of_below (F:=fun k=>fp k∨BZ x gv k) DL).trans NA (fun i hi=>.inl hi),HG.2.2.1,HG.2.2.2⟩
end
end
section
open Go.RowKit Go.Maps
open Ah
def RD(F:St)(s:T):List (A8×BI→(A8×BI)×Int):=
 [fun E=>(((E.1.write ((D9 F.log F.size F.AL:Nat):Int) (Aw.pad (Ab.le 4 s.length++s))).1,E.2),(E.1.write ((D9 F.log F.size F.AL:Nat):Int) (Aw.pad (Ab.le 4 s.length++s))).2),
  fun E=>((E.1.flush.1,E.2),E.1.flush.2),
  fun E=>(((E.1.write ((0:Nat):Int) (Ah.mark F.AL ((E.2.gen+1) % 18446744073709551616))).1,E.2),(E.1.write ((0:Nat):Int) (Ah.mark F.AL ((E.2.gen+1) % 18446744073709551616))).2),
  fun E=>((E.1.flush.1,E.2),E.1.flush.2),
  fun E=>(((DX E.1 E.2).1,(DX E.1 E.2).2.1),(DX E.1 E.2).2.2)]
def amu(F:St)(r:(A8×BI)×Int):St:={ F with AL:=1 -F.AL,w:=r.1.2,fault:=if r.2=0 then F.fault else r.2 }
theorem atJ(f1 f2 f4:A8→A8×Int)(f3:BI→A8→A8×Int)(D:A8)(L:BI):
  FD [fun E:A8×BI=>(((f1 E.1).1,E.2),(f1 E.1).2),fun E=>(((f2 E.1).1,E.2),(f2 E.1).2),fun E=>(((f3 E.2 E.1).1,E.2),(f3 E.2 E.1).2),fun E=>(((f4 E.1).1,E.2),(f4 E.1).2),fun E=>(((DX E.1 E.2).1,(DX E.1 E.2).2.1),(DX E.1 E.2).2.2)] (D,L)=
  if(BA [f1,f2,f3 L,f4] D).2=0 then(((DX (BA [f1,f2,f3 L,f4] D).1 L).1,(DX (BA [f1,f2,f3 L,f4] D).1 L).2.1),(DX (BA [f1,f2,f3 L,f4] D).1 L).2.2) else(((BA [f1,f2,f3 L,f4] D).1,L),(BA [f1,f2,f3 L,f4] D).2):=by
 by_cases h1:(f1 D).2=0
 ·by_cases h2:(f2 (f1 D).1).2=0
  ·by_cases h3:(f3 L (f2 (f1 D).1).1).2=0
   ·by_cases h4:(f4 (f3 L (f2 (f1 D).1).1).1).2=0
    ·by_cases h5:(DX (f4 (f3 L (f2 (f1 D).1).1).1).1 L).2.2=0
     ·simp[BA,FD,h1,h2,h3,h4,h5]
     ·simp[BA,FD,h1,h2,h3,h4,h5]
    ·simp[BA,FD,h1,h2,h3,h4]
   ·simp[BA,FD,h1,h2,h3]
  ·simp[BA,FD,h1,h2]
 ·simp[BA,FD,h1]
theorem amv(D:A8)(F:St)(m:M):PD D F m=((FD (RD { F with AL:=1 -F.AL } (Ah.bytes m)) (D,F.w)).1.1,
  { amu F (FD (RD { F with AL:=1 -F.AL } (Ah.bytes m)) (D,F.w)) with m:=if(FD (RD { F with AL:=1 -F.AL } (Ah.bytes m)) (D,F.w)).2=0 then m else F.m },
  (FD (RD { F with AL:=1 -F.AL } (Ah.bytes m)) (D,F.w)).2):=by
 have e:FD (RD { F with AL:=1 -F.AL } (Ah.bytes m)) (D,F.w)=if(BA (Ik F m) D).2=0 then(((DX (BA (Ik F m) D).1 F.w).1,(DX (BA (Ik F m) D).1 F.w).2.1),(DX (BA (Ik F m) D).1 F.w).2.2) else(((BA (Ik F m) D).1,F.w),(BA (Ik F m) D).2):=
  atJ (fun E=>E.write ((D9 F.log F.size (1 -F.AL):Nat):Int) (R3 m)) A8.flush A8.flush (fun L E=>E.write ((0:Nat):Int) (Ah.mark (1 -F.AL) ((L.gen+1) % 18446744073709551616))) D F.w
 rw[e];unfold PD amu;by_cases h1:(BA (Ik F m) D).2=0
 ·by_cases h2:(DX (BA (Ik F m) D).1 F.w).2.2=0
  ·simp[h1,h2]
  ·simp[h1,h2]
 ·simp[h1]
theorem Lu.aE9{V W:World}{y b m x c2 c5:Nat}{gv FH:Value}{fp fp':Nat→Prop}{F:St}{s:T}{D D':A8}{L:BI}(h:Lu V y b m x c2 c5 gv fp F s D)(hd:BP W b D' fp')(hw:Cw W x b FH L)(hu:A7 (fun k=>fp k∨BZ x gv k) V W)(hs:Dq fp fp' V):Lu W y b m x c2 c5 FH fp' { F with w:=L } s D':=by
 have hk:∀ {k t},Bf V k t→t≠144→t≠242→t≠224→t≠61→¬ (fp k∨BZ x gv k):=fun hb h1 h2 h3 h4 e=>by
  rcases e with e|e
  ·exact h.disk.DI _ e h1 h2 hb
  ·rcases h.Jk.Ed.kind e with g|g
   ·exact Bf.ne hb g h3 rfl
   ·exact Bf.ne hb g h4 rfl
 exact⟨hd,⟨(hu.block y (Ao h.Jk.struct) (hk h.Jk.blk (by decide) (by decide) (by decide) (by decide))).trans h.Jk.struct,h.Jk.map.upd hu (fun e=>e.elim h.ap h.Jk.Z0.2.2),hw,h.Jk.fits⟩,
  (hu.block c2 (Ao h.c2) (hk ⟨_,_,h.c2⟩ (by decide) (by decide) (by decide) (by decide))).trans h.c2,
  (hu.block c5 (Ao h.c5) (hk ⟨_,_,h.c5⟩ (by decide) (by decide) (by decide) (by decide))).trans h.c5,
  fun e=>(hs m e).elim h.ap (fun e2=>by have:=h.Jk.map.lt;omega)⟩
theorem anb(a b c k:Nat)(h1:a≤b+100000)(h2:b≤c+100000*k):a≤c+100000*(k+1):=by
 rw[Nat.mul_succ,←Nat.add_assoc];generalize 100000*k=m at*;omega
def Qc(w:World)(y b m x c2 c5:Nat)(Ra:Nat→Prop)(V9:Value)(F:St)(s:T)(n0:Nat)(k:Nat)(E:A8×BI)(W:World):Prop:=
 ∃ fp gv,Lu W y b m x c2 c5 gv fp { F with w:=E.2 } s E.1∧A7 (fun k=>Ra k∨BZ x V9 k) w W∧Dq Ra fp w∧Dq (BZ x V9) (BZ x gv) w∧E.1.loose.length≤n0+100000*k
section
variable {w V W:World}{y b m x c2 c5:Nat}{V9:Value}{Ra:Nat→Prop}{F:St}{s:T}{n0 k:Nat}{D:A8}{L:BI}{e:Ending}
theorem Qc.step{fp:Nat→Prop}{gv:Value}{f:A8→A8×Int}(h:Lu V y b m x c2 c5 gv fp { F with w:=L } s D)(hu:A7 (fun k=>Ra k∨BZ x V9 k) w V)(h1:Dq Ra fp w)(h2:Dq (BZ x V9) (BZ x gv) w)(hl:D.loose.length≤n0+100000*k)
  (hp:Xw V b D fp f e W)(hm:(f D).1.loose.length≤D.loose.length+100000):e=.returned (.int .i64 (f D).2)∧Qc w y b m x c2 c5 Ra V9 F s n0 (k+1) ((f D).1,L) W:=by
 obtain⟨he,fp',p1,p2,p3⟩:=hp;refine⟨he,fp',gv,h.aaL p1 p2 p3,hu.trans p2 (fun i hi=>(h1 i hi).imp .inl id),fun i hi=>?_,h2,anb _ _ _ _ hm hl⟩;rcases p3 i hi with e|e
 ·exact h1 i e
 ·exact .inr (Ay hu.size e)
theorem Qc.reset(h:Qc w y b m x c2 c5 Ra V9 F s n0 k (D,L) V)(hn:n0+100000*k≤400000000)(hm:(DX D L).1.loose.length≤D.loose.length+100000):
  Calls prog 83 #[x] V fun e W=>e=.returned (.int .i64 (DX D L).2.2)∧Qc w y b m x c2 c5 Ra V9 F s n0 (k+1) ((DX D L).1,(DX D L).2.1) W:=by
 obtain⟨fp,gv,h,hu,h1,h2,hl⟩:=h;have hl:D.loose.length≤n0+100000*k:=hl;refine(aon h.disk h.Jk.Ed (by omega)).mono ?_;rintro e W⟨rfl,fp',FH,p1,p2,p3,p4,p5⟩;refine⟨rfl,fp',FH,h.aE9 p1 p2 p3 p4,hu.trans p3 (fun i hi=>hi.elim (fun e=>(h1 i e).imp .inl id) (fun e=>(h2 i e).imp .inr id)),fun i hi=>?_,fun i hi=>?_,anb _ _ _ _ hm hl⟩
 ·rcases p4 i hi with e|e
  ·exact h1 i e
  ·exact .inr (Ay hu.size e)
 ·rcases p5 i hi with e|e
  ·exact h2 i e
  ·exact .inr (Ay hu.size e)
theorem aEo(D:A8)(L:BI):(DX D L).1.loose.length≤D.loose.length+100000:=by
 have key:(BA L.Mw D).1.loose.length≤D.loose.length+1:=by
  unfold BI.Mw;simp only[BA];have h1:=A8.Ux D (L.from_:Int) (Aw.mark ((L.gen+1) % 18446744073709551616) 0);rw[Aw.OA] at h1;split
  ·have h2:=A8.V7 (D.write (L.from_:Int) (Aw.mark ((L.gen+1) % 18446744073709551616) 0)).1;split
   ·show(D.write (L.from_:Int) (Aw.mark ((L.gen+1) % 18446744073709551616) 0)).1.flush.1.loose.length≤_;omega
   ·omega
  ·omega
 unfold DX;split
 ·exact Nat.le_add_right _ _
 ·split
  ·show(BA L.Mw D).1.loose.length≤_;omega
  ·show(BA L.Mw D).1.loose.length≤_;omega
theorem auO(hs:s.length≤1000000)(hn:n0≤300000000):
  afm (Qc w y b m x c2 c5 Ra V9 F s n0) (fun E W=>∃ k,Qc w y b m x c2 c5 Ra V9 F s n0 k E W)
   [.func (.func 136) #[] #[.pointer c2,.pointer c5],.func (.func 143) #[.pointer b] #[],.func (.func 141) #[] #[.pointer c2],.func (.func 143) #[.pointer b] #[],.func (.func 83) #[.pointer x] #[]] (RD F s):=by
 have GL:(Aw.pad (Ab.le 4 s.length++s)).length≤1000128:=by rw[Aw.Te,AA,Ab.Cb];omega
 refine⟨rfl,fun i h h'=>?_⟩
 match i,h with
 |0,_=>
  refine⟨_,_,_,rfl,enters_of func136 (by kernel_rfl) rfl,fun E W hI=>?_⟩;obtain⟨fp,gv,h,hu,h1,h2,hl⟩:=hI;refine(ayW h hs (by omega)).mono fun e W' hp=>?_
  have:=Qc.step h hu h1 h2 hl hp (by have:=A8.Ux E.1 ((D9 F.log F.size F.AL:Nat):Int) (Aw.pad (Ab.le 4 s.length++s));show(E.1.write ((D9 F.log F.size F.AL:Nat):Int) (Aw.pad (Ab.le 4 s.length++s))).1.loose.length≤_;omega);exact⟨this.1,fun _=>this.2,fun _=>⟨_,this.2⟩⟩
 |1,_=>
  refine⟨_,_,_,rfl,enters_of func143 (by kernel_rfl) rfl,fun E W hI=>?_⟩;obtain⟨fp,gv,h,hu,h1,h2,hl⟩:=hI;refine(sJ h.disk (by omega)).mono fun e W' hp=>?_
  have:=Qc.step (f:=A8.flush) h hu h1 h2 hl hp (by have:=A8.V7 E.1;omega);exact⟨this.1,fun _=>this.2,fun _=>⟨_,this.2⟩⟩
 |2,_=>
  refine⟨_,_,_,rfl,enters_of func141 (by kernel_rfl) rfl,fun E W hI=>?_⟩;obtain⟨fp,gv,h,hu,h1,h2,hl⟩:=hI;refine(ayX h (by omega)).mono fun e W' hp=>?_
  have:=Qc.step h hu h1 h2 hl hp (by have:=A8.Ux E.1 ((0:Nat):Int) (Ah.mark F.AL ((E.2.gen+1) % 18446744073709551616));rw[Ah.OA] at this;show(E.1.write ((0:Nat):Int) (Ah.mark F.AL ((E.2.gen+1) % 18446744073709551616))).1.loose.length≤_;omega);exact⟨this.1,fun _=>this.2,fun _=>⟨_,this.2⟩⟩
 |3,_=>
  refine⟨_,_,_,rfl,enters_of func143 (by kernel_rfl) rfl,fun E W hI=>?_⟩;obtain⟨fp,gv,h,hu,h1,h2,hl⟩:=hI;refine(sJ h.disk (by omega)).mono fun e W' hp=>?_
  have:=Qc.step (f:=A8.flush) h hu h1 h2 hl hp (by have:=A8.V7 E.1;omega);exact⟨this.1,fun _=>this.2,fun _=>⟨_,this.2⟩⟩
 |4,_=>
  refine⟨_,_,_,rfl,enters_of func83 (by kernel_rfl) rfl,fun E W hI=>?_⟩;refine(Qc.reset hI (by omega) (aEo _ _)).mono fun e W' hp=>?_
  exact⟨hp.1,fun _=>hp.2,fun _=>⟨_,hp.2⟩⟩
end
end
section
open Go.RowKit Go.Maps
open Ah
def VJ(w:World)(y b _m x:Nat)(gv:Value)(fp:Nat→Prop)(r:A8×St×Int)(m':Nat)(e:Ending)(w':World):Prop:=
 e=.returned (.int .i64 r.2.2)∧∃ fp' FH,BP w' b r.1 fp'∧Dp w' y b m' x FH r.2.1∧¬ fp' m'∧A7 (fun k=>fp k∨k=y∨BZ x gv k) w w'∧Dq fp fp' w∧Dq (BZ x gv) (BZ x FH) w
theorem asv{a:Nat}(h:a≤1):IntKind.i64.wrap (1 -(a:Int))=((1 -a:Nat):Int):=by
 rw[EN _ (by omega)];omega
theorem Dp.aC6{w:World}{y b m x:Nat}{gv:Value}{F:St}(h:Dp w y b m x gv F)(a:Nat)(ha:a≤1):Dp (w.setCell ⟨y,3,none⟩ ↑(a:Int)) y b m x gv { F with AL:=a }:=by
 have hu:A7 (fun k=>k=y) w (w.setCell ⟨y,3,none⟩ ↑(a:Int)):=(A7.refl (fun k=>k=y) w).setCell (p:=⟨y,3,none⟩) (.inl rfl) _;exact⟨Cs w y 3 _ _ _ h.struct,h.map.upd hu (fun e=>h.Z0.1 e.symm),h.Ed.upd hu (fun k hk e=>by subst e;exact Bf.ne hk h.blk (by decide) rfl) (fun k hk e=>by subst e;exact h.Z0.2.1 hk),⟨h.fits.1,h.fits.2.1,h.fits.2.2.1,ha⟩⟩
theorem Dp.xm{w:World}{y b m x:Nat}{gv:Value}{F:St}(h:Dp w y b m x gv F)(k:Int):Dp (w.setCell ⟨y,6,none⟩ (.int .i64 k)) y b m x gv { F with fault:=k }:=by
 have hu:A7 (fun k=>k=y) w (w.setCell ⟨y,6,none⟩ (.int .i64 k)):=(A7.refl (fun k=>k=y) w).setCell (p:=⟨y,6,none⟩) (.inl rfl) _;exact⟨Cs w y 6 _ _ _ h.struct,h.map.upd hu (fun e=>h.Z0.1 e.symm),h.Ed.upd hu (fun k hk e=>by subst e;exact Bf.ne hk h.blk (by decide) rfl) (fun k hk e=>by subst e;exact h.Z0.2.1 hk),h.fits⟩
def gW(b x c2 c5:Nat):Array Value:=#[.func (.func 136) #[] #[.pointer c2,.pointer c5],.func (.func 143) #[.pointer b] #[],.func (.func 141) #[] #[.pointer c2],.func (.func 143) #[.pointer b] #[],.func (.func 83) #[.pointer x] #[]]
theorem ayZ{V:World}{y b m x c2 c5:Nat}{gv:Value}{fp:Nat→Prop}{F:St}{S:T}{D:A8}(h:Lu V y b m x c2 c5 gv fp F S D)(hs:S.length≤1000000)(Ih:D.loose.length≤300000000)(nq:Nat):
  Calls prog 63 #[y,.slice V.heap.size 5 5] ((V.alloc (.cells (gW b x c2 c5) 129)).drewN nq) fun e w'=>e=.returned (.int .i64 (FD (RD F S) (D,F.w)).2)∧∃ fp' FH,BP w' b (FD (RD F S) (D,F.w)).1.1 fp'∧Dp w' y b m x FH { F with w:=(FD (RD F S) (D,F.w)).1.2,fault:=if(FD (RD F S) (D,F.w)).2=0 then F.fault else(FD (RD F S) (D,F.w)).2 }∧¬ fp' m∧A7 (fun k=>fp k∨k=y∨BZ x gv k) V w'∧Dq fp fp' V∧Dq (BZ x gv) (BZ x FH) V∧w'.heap[c2]?=some (.cells #[y] 42):=by
 have hb:Bw V ((V.alloc (.cells (gW b x c2 c5) 129)).drewN nq):=((Ai _ _).alloc (Ag _) _).trans ((FP _ nq).mono (by rw[Az];omega));have Af:((V.alloc (.cells (gW b x c2 c5) 129)).drewN nq).heap[V.heap.size]?=some (.cells (gW b x c2 c5) 129):=((FP _ nq).block V.heap.size (by rw[Az];omega)).trans (AU V _);have h0:=h.below hb;have FJ:=A7.of_below (F:=fun k=>fp k∨k=y∨BZ x gv k) hb;have hbs:=hb.size;generalize (V.alloc (.cells (gW b x c2 c5) 129)).drewN nq=w0 at*;have Bj:∀ {P P':Nat→Prop},Dq P P' w0→Dq P P' V:=fun hs i hi=>(hs i hi).imp id (fun e=>Ay hbs e)
 generalize V.heap.size=g at*;have hg:¬ (fp g∨BZ x gv g):=fun e=>by
  rcases e with e|e
  ·exact h0.disk.DI _ e (by decide) (by decide) ⟨_,_,Af⟩
  ·rcases h0.Jk.Ed.kind e with k|k
   ·exact Bf.ne ⟨_,_,Af⟩ k (by decide) rfl
   ·exact Bf.ne ⟨_,_,Af⟩ k (by decide) rfl
 refine(ai7 (I:=Qc w0 y b m x c2 c5 fp gv F S D.loose.length) (J:=fun E W=>∃ k,Qc w0 y b m x c2 c5 fp gv F S D.loose.length k E W) (s0:=(D,F.w)) (cap:=5) (g:=g) (n:=5)
  ⟨fp,gv,h0,A7.refl _ _,fun _ h=>.inl h,fun _ h=>.inl h,Nat.le_add_right _ _⟩ (auO hs Ih) ?_ rfl (Ag 5) ?_).mono ?_
 ·rintro k E W ⟨F4,EG,g1,g2,g3,g4,g5⟩ i u hu;rw[BJ W g i _ _ _ ((g2.block g (Ao Af) hg).trans Af),←hu]
  show(gW b x c2 c5)[i]?=_
  rw[←Dx];rfl
 ·rintro E W ⟨k,F4,EG,g1,g2,g3,g4,g5⟩;have c:=g1.Jk.cells;exact⟨⟨_,c.2.2.2.2.2.2.1⟩,c.2.2.2.2.2.2.2 6⟩
 ·generalize FD (RD F S) (D,F.w)=r;rintro e w'⟨rfl,r1,r2⟩;refine⟨rfl,?_⟩;by_cases hr:r.2=0
  ·obtain⟨F4,EG,g1,g2,g3,g4,g5⟩:=r1 hr;rw[Ae hr];exact⟨F4,EG,g1.disk,g1.Jk,g1.ap,FJ.trans (g2.mono (fun i hi=>hi.elim .inl (fun e=>.inr (.inr e)))) (fun i hi=>.inl hi),Bj g3,Bj g4,g1.c2⟩
  ·obtain⟨W,⟨k,F4,EG,g1,g2,g3,g4,g5⟩,rfl⟩:=r2 hr;rw[A9 hr];have hu:A7 (fun k=>k=y) W (W.setCell ⟨y,6,none⟩ (.int .i64 r.2)):=(A7.refl (fun k=>k=y) W).setCell (p:=⟨y,6,none⟩) (.inl rfl) _;refine⟨F4,EG,g1.disk.upd hu (fun k hk e=>by subst e;exact Y2 g1.disk g1.Jk g1.ap k (.inl rfl) hk),g1.Jk.xm r.2,g1.ap,(FJ.trans (g2.mono (fun i hi=>hi.elim .inl (fun e=>.inr (.inr e)))) (fun i hi=>.inl hi)).trans hu (fun i hi=>.inl (.inr (.inl hi))),Bj g3,Bj g4,(hu.block c2 (Ao g1.c2) (fun e=>by subst e;exact Bf.ne ⟨_,_,g1.c2⟩ g1.Jk.blk (by decide) rfl)).trans g1.c2⟩
theorem ail{w:World}{y b m x mv:Nat}{gv:Value}{fp:Nat→Prop}{F:St}{D:A8}{A:M}(hd:BP w b D fp)(hf:Dp w y b m x gv F)(ap:¬ fp m)(hM:CV w mv A)(hg:Ah.Good A)(hc:used A≤1000000)(Ih:D.loose.length≤300000000):
  Calls prog 62 #[y,.map (some mv)] w fun e w'=>VJ w y b m x gv fp ((PD D F A).1,{ (PD D F A).2.1 with m:=F.m },(PD D F A).2.2) m e w':=by
 have HD:=Hi hd;have HF:=Hi hf;have Be:=(Ai w.heap.size w).alloc (Ag _) (.cells #[y] 42);have AP:=Hi Be;have HBY:=Hi (aue (hM.below Be) hg hc);have MK:=Hi (AU w (.cells #[y] 42));have hyl:=hf.lt y (.inl rfl);have lH:=hf.fits.2.2.2;have e1:=asv lH;have Yg:1 -F.AL≤1:=by omega
 have VV:=Hi (amv D F A);have CS:(Ah.bytes A).length≤1000000:=by rw[aas];exact hc
 clear hd hf Be hM;generalize Ah.bytes A=S at*
 go_in
 go_wp2_with fail;refine HBY.mono ?_;rintro e w1⟨rfl,Ak⟩;have HB1:=bH AP Ak;have GY:=(Ak.block w.heap.size (Ao MK)).trans MK.out;have QL:=Hi GY;have c0:=IB GY;have jr:=Hi (HF.below HB1);obtain⟨_,_,_,d3,_,_,_,df⟩:=jr.cells;have eG:=df 3;have gp:w.heap.size < w1.heap.size:=Ao GY;have aGw:y < w1.heap.size:=by omega
 clear Ak GY df;go_wp2;go_region;have FL:A7 (fun k=>k=y) w1 (w1.setCell ⟨y,3,none⟩ ↑((1 -F.AL:Nat):Int)):=(A7.refl (fun k=>k=y) w1).setCell (p:=⟨y,3,none⟩) (.inl rfl) _;have Bl:Below (w1.setCell ⟨y,3,none⟩ ↑((1 -F.AL:Nat):Int)).heap.size (w1.setCell ⟨y,3,none⟩ ↑((1 -F.AL:Nat):Int)) (((w1.setCell ⟨y,3,none⟩ ↑((1 -F.AL:Nat):Int)).alloc (.cells #[S] 9)).drew):=((Ai _ _).alloc (Ag _) _).drew;have gB:(((w1.setCell ⟨y,3,none⟩ ↑((1 -F.AL:Nat):Int)).alloc (.cells #[S] 9)).drew).heap[w1.heap.size]?=some (.cells #[S] 9):=by
  have:=AU (w1.setCell ⟨y,3,none⟩ ↑((1 -F.AL:Nat):Int)) (.cells #[S] 9);rwa[show(w1.setCell ⟨y,3,none⟩ ↑((1 -F.AL:Nat):Int)).heap.size=w1.heap.size by simp[World.setCell]] at this
 have U1:=HD.below HB1.out;have hys:∀ k,fp k→¬ k=y:=fun k hk e=>by subst e;exact Y2 U1 jr ap k (.inl rfl) hk
 have hfa:=(jr.aC6 (1 -F.AL) Yg).below Bl;have ajU:=(Bl.block w.heap.size (by simp[World.setCell];omega)).trans ((FL.block w.heap.size gp (by omega)).trans QL);have Hq:Lu (((w1.setCell ⟨y,3,none⟩ ↑((1 -F.AL:Nat):Int)).alloc (.cells #[S] 9)).drew) y b m x w.heap.size w1.heap.size gv fp { F with AL:=1 -F.AL } S D:=⟨(U1.upd FL hys).below Bl,hfa,ajU,gB,ap⟩;have Du:A7 (fun k=>fp k∨k=y∨BZ x gv k) w (((w1.setCell ⟨y,3,none⟩ ↑((1 -F.AL:Nat):Int)).alloc (.cells #[S] 9)).drew):=((A7.of_below (F:=fun k=>fp k∨k=y∨BZ x gv k) HB1).trans (FL.mono (fun i hi=>.inr (.inl hi))) (fun i hi=>.inl hi)).trans (A7.of_below Bl) (fun i hi=>.inl hi);have MP:=Hi Du;have OU:=Hi Hq;clear FL Bl gB U1 hys hfa ajU Du Hq d3 eG e1 c0;generalize (((w1.setCell ⟨y,3,none⟩ ↑((1 -F.AL:Nat):Int)).alloc (.cells #[S] 9)).drew)=w3 at*;have QO:=Hi (fun nq=>ayZ OU CS Ih nq);generalize FD (RD { F with AL:=1 -F.AL } S) (D,F.w)=r at*;have K1:=Hi (fun(V:World) (f:Dp V y b m x gv { F with AL:=1 -F.AL }) (h:V.heap[w.heap.size]?=some (.cells #[y] 42))=>(⟨IB h,f.cells.1,f.cells.2.2.2.2.2.1⟩:V.cell? w.heap.size=some (.pointer y)∧V.cell? y=some (.pointer b)∧V.cell? ⟨y,5,none⟩=some (.pointer x)));obtain⟨d1,d2,d3⟩:=K1 _ OU.Jk OU.c2;go_wp2
 go_region_held3 (fun V=>V.cell? w.heap.size=some (.pointer y)∧V.cell? y=some (.pointer b)∧V.cell? ⟨y,5,none⟩=some (.pointer x))
  (first|exact⟨d1,d2,d3⟩|exact⟨c1,yK.cells.1,yK.cells.2.2.2.2.2.1⟩|go_keep)
  (first
   |(go_at_call 63;refine(QO 1).mono ?_;rintro e w4 ⟨rfl,Qi,gv4,g1,g2,g3,g4,g5,g6,g7⟩;have c1:=IB g7;have yK:=Hi g2;have HG:=Hi (CB g1 (CB g3 (CB g4 (CB g5 g6))));clear g1 g2 g3 g4 g5 g6 g7))
 all_goals
  go_wp2;go_ret;unfold VJ;rw[VV.out];exact⟨rfl,Qi,gv4,HG.1,yK,HG.2.1,MP.trans HG.2.2.1 (fun i hi=>.inl hi),fun i hi=>(HG.2.2.2.1 i hi).imp id (fun e=>Ay MP.size e),fun i hi=>(HG.2.2.2.2 i hi).imp id (fun e=>Ay MP.size e)⟩
end
section
open Go.RowKit Go.Maps
open Ah
theorem Dp.aeu{w:World}{y b m x mv:Nat}{gv:Value}{F:St}{A:M}(h:Dp w y b m x gv F)(hM:CV w mv A):Dp (w.setCell ⟨y,4,none⟩ (.map (some mv))) y b mv x gv { F with m:=A }:=by
 have hu:A7 (fun k=>k=y) w (w.setCell ⟨y,4,none⟩ (.map (some mv))):=(A7.refl (fun k=>k=y) w).setCell (p:=⟨y,4,none⟩) (.inl rfl) _;exact⟨Cs w y 4 _ _ _ h.struct,hM.upd hu (fun e=>hM.DI (e▸h.blk)),h.Ed.upd hu (fun k hk e=>by subst e;exact Bf.ne hk h.blk (by decide) rfl) (fun k hk e=>by subst e;exact h.Z0.2.1 hk),h.fits⟩
theorem amw(D:A8)(F:St)(A:M):(PD D F A).2.1.m=if(PD D F A).2.2=0 then A else F.m:=by rw[amv]
theorem asq{V:World}{y b m x c2 c6 cap:Nat}{gv:Value}{fp:Nat→Prop}{F:St}{D:A8}{q:Option Addr}{G:List T}(hd:BP V b D fp)(hf:Dp V y b m x gv F)(ap:¬ fp m)(h2:V.heap[c2]?=some (.cells #[y] 42))(h6:V.heap[c6]?=some (.cells #[.slice q G.length cap] 61))(lQ:¬ BZ x gv c6)
  (hx:Dz V q G)(WJ:∀ p,q=some p→G≠[]→¬ fp p.block∧¬ BZ x gv p.block)(hlen:G.length≤1000000)(Df:rowLen G≤1000000)(Ih:D.loose.length≤400000000)(Pt:F.w.groups.length≤1000000)(nq:Nat):
  Calls prog 63 #[y,.slice V.heap.size 1 1] ((V.alloc (.cells #[.func (.func 64) #[] #[.pointer c2,.pointer c6]] 129)).drewN nq) fun e w'=>e=.returned (.int .i64 (DN D F.w G).2.2)∧∃ fp' FH,BP w' b (DN D F.w G).1 fp'∧Dp w' y b m x FH { F with w:=(DN D F.w G).2.1,fault:=if(DN D F.w G).2.2=0 then F.fault else(DN D F.w G).2.2 }∧¬ fp' m∧A7 (fun k=>fp k∨k=y∨BZ x gv k) V w'∧Dq fp fp' V∧Dq (BZ x gv) (BZ x FH) V∧w'.heap[c2]?=some (.cells #[y] 42):=by
 have hb:Bw V ((V.alloc (.cells #[.func (.func 64) #[] #[.pointer c2,.pointer c6]] 129)).drewN nq):=((Ai _ _).alloc (Ag _) _).trans ((FP _ nq).mono (by rw[Az];omega));have Af:((V.alloc (.cells #[.func (.func 64) #[] #[.pointer c2,.pointer c6]] 129)).drewN nq).heap[V.heap.size]?=some (.cells #[.func (.func 64) #[] #[.pointer c2,.pointer c6]] 129):=((FP _ nq).block V.heap.size (by rw[Az];omega)).trans (AU V _);have Yo:=hd.below hb;have Pp:=hf.below hb;have Ox:=hx.below hb;have Va:=(hb.block c2 (Ao h2)).trans h2;have ZZ:=(hb.block c6 (Ao h6)).trans h6;have FJ:=A7.of_below (F:=fun k=>fp k∨k=y∨BZ x gv k) hb;have Bj:∀ {P P':Nat→Prop},Dq P P' ((V.alloc (.cells #[.func (.func 64) #[] #[.pointer c2,.pointer c6]] 129)).drewN nq)→Dq P P' V:=fun hs i hi=>(hs i hi).imp id (fun e=>Ay hb.size e)
 generalize (V.alloc (.cells #[.func (.func 64) #[] #[.pointer c2,.pointer c6]] 129)).drewN nq=w0 at*;generalize V.heap.size=g at*;have hk:∀ {k t},Bf w0 k t→t≠144→t≠242→t≠224→t≠61→¬ (fp k∨BZ x gv k):=fun hb h1 h2 h3 h4 e=>by
  rcases e with e|e
  ·exact Yo.DI _ e h1 h2 hb
  ·rcases Pp.Ed.kind e with g|g
   ·exact Bf.ne hb g h3 rfl
   ·exact Bf.ne hb g h4 rfl
 refine(ai7 (σ:=A8×BI) (I:=fun k E W=>(k=0→W=w0∧E=(D,F.w))∧∃ F4 EG,BP W b E.1 F4∧Cw W x b EG E.2∧A7 (fun k=>fp k∨BZ x gv k) w0 W∧Dq fp F4 w0∧Dq (BZ x gv) (BZ x EG) w0)
  (J:=fun E W=>∃ F4 EG,BP W b E.1 F4∧Cw W x b EG E.2∧A7 (fun k=>fp k∨BZ x gv k) w0 W∧Dq fp F4 w0∧Dq (BZ x gv) (BZ x EG) w0) (s0:=(D,F.w)) (cap:=1) (g:=g) (n:=1) (fs:=[fun E=>(((DN E.1 E.2 G).1,(DN E.1 E.2 G).2.1),(DN E.1 E.2 G).2.2)])
  (vs:=[.func (.func 64) #[] #[.pointer c2,.pointer c6]])
  ⟨fun _=>⟨rfl,rfl⟩,fp,gv,Yo,Pp.Ed,A7.refl _ _,fun _ h=>.inl h,fun _ h=>.inl h⟩ ⟨rfl,fun i h h'=>?_⟩ ?_ rfl (by omega) ?_).mono ?_
 ·match i,h with
  |0,_=>
   refine⟨_,_,_,rfl,enters_of func64 (by kernel_rfl) rfl,fun E W hI=>?_⟩;obtain⟨rfl,rfl⟩:=hI.1 rfl;refine(atd Yo Pp ap Va ZZ lQ Ox WJ hlen Df Ih Pt).mono fun e W' hp=>?_
   exact⟨hp.1,fun _=>⟨fun h=>absurd h (by omega),hp.2⟩,fun _=>hp.2⟩
 ·rintro k E W ⟨_,F4,EG,g1,g2,g3,g4,g5⟩ i u hu;rw[BJ W g i _ _ _ ((g3.block g (Ao Af) (hk ⟨_,_,Af⟩ (by decide) (by decide) (by decide) (by decide))).trans Af),←hu];rw[←Dx]
 ·rintro E W ⟨F4,EG,g1,g2,g3,g4,g5⟩;have e:=(g3.block y (Ao Pp.struct) (hk Pp.blk (by decide) (by decide) (by decide) (by decide))).trans Pp.struct;exact⟨⟨.int .i64 F.fault,by rw[BJ W y _ _ _ _ e];rfl⟩,CG W y 6 _ _ e⟩
 ·have hG1:FD [fun E:A8×BI=>(((DN E.1 E.2 G).1,(DN E.1 E.2 G).2.1),(DN E.1 E.2 G).2.2)] (D,F.w)=(((DN D F.w G).1,(DN D F.w G).2.1),(DN D F.w G).2.2):=by
   by_cases hr:(DN D F.w G).2.2=0<;>simp[FD,hr]
  rw[hG1];generalize DN D F.w G=r at*;rintro e w'⟨rfl,r1,r2⟩;refine⟨rfl,?_⟩;have key:∀ W,(∃ F4 EG,BP W b r.1 F4∧Cw W x b EG r.2.1∧A7 (fun k=>fp k∨BZ x gv k) w0 W∧Dq fp F4 w0∧Dq (BZ x gv) (BZ x EG) w0)→∃ fp' FH,BP W b r.1 fp'∧Dp W y b m x FH { F with w:=r.2.1 }∧¬ fp' m∧A7 (fun k=>fp k∨k=y∨BZ x gv k) V W∧Dq fp fp' V∧Dq (BZ x gv) (BZ x FH) V∧W.heap[c2]?=some (.cells #[y] 42):=by
   rintro W⟨F4,EG,g1,g2,g3,g4,g5⟩;exact⟨F4,EG,g1,⟨(g3.block y (Ao Pp.struct) (hk Pp.blk (by decide) (by decide) (by decide) (by decide))).trans Pp.struct,Pp.map.upd g3 (fun e=>e.elim ap Pp.Z0.2.2),g2,Pp.fits⟩,fun e=>(g4 m e).elim ap (fun e2=>by have:=Pp.map.lt;omega),FJ.trans (g3.mono (fun i hi=>hi.elim .inl (fun e=>.inr (.inr e)))) (fun i hi=>.inl hi),Bj g4,Bj g5,(g3.block c2 (Ao Va) (hk ⟨_,_,Va⟩ (by decide) (by decide) (by decide) (by decide))).trans Va⟩
  by_cases hr:r.2.2=0
  ·obtain⟨F4,EG,g⟩:=key _ (r1 hr).2;rw[Ae hr];exact⟨F4,EG,g⟩
  ·obtain⟨W,hW,rfl⟩:=r2 hr;obtain⟨F4,EG,g1,g2,g3,g4,g5,g6,g7⟩:=key _ hW;rw[A9 hr];have hu:A7 (fun k=>k=y) W (W.setCell ⟨y,6,none⟩ (.int .i64 r.2.2)):=(A7.refl (fun k=>k=y) W).setCell (p:=⟨y,6,none⟩) (.inl rfl) _;exact⟨F4,EG,g1.upd hu (fun k hk e=>by subst e;exact Y2 g1 g2 g3 k (.inl rfl) hk),g2.xm r.2.2,g3,g4.trans hu (fun i hi=>.inl (.inr (.inl hi))),g5,g6,(hu.block c2 (Ao g7) (fun e=>by subst e;exact Bf.ne ⟨_,_,g7⟩ g2.blk (by decide) rfl)).trans g7⟩
def Tv(w:World)(y b m x:Nat)(gv:Value)(fp:Nat→Prop)(r:A8×St×Int)(e:Ending)(w':World):Prop:=
 ∃ m',VJ w y b m x gv fp r m' e w'∧(m'=m∨w.heap.size≤m')
section
variable {w:World}{y b m x cap:Nat}{gv:Value}{fp:Nat→Prop}{F:St}{D:A8}{a:Option Addr}{l:List Am}
theorem ahq{w':World}{e:Ending}{k:Int}(hd:BP w b D fp)(hf:Dp w y b m x gv F)(ap:¬ fp m)(hr:Kb D F l=(D,F,k))(he:e=.returned (.int .i64 k))(hb:Bw w w'):Tv w y b m x gv fp (Kb D F l) e w':=by
 rw[hr];exact⟨m,⟨he,fp,gv,hd.below hb,hf.below hb,ap,A7.of_below hb,fun _ h=>.inl h,fun _ h=>.inl h⟩,.inl rfl⟩
theorem ai3(hd:BP w b D fp)(hf:Dp w y b m x gv F)(ap:¬ fp m)(hL:Eh w a l)(hlen:l.length≤100000)(hok:∀ c∈l,c.name.length≤maxLen∧c.data.length≤maxLen)(h0:F.fault=0)(hall:l.all Am.may=false):
  Calls prog 17 #[y,.slice a l.length cap] w fun e w'=>Tv w y b m x gv fp (Kb D F l) e w':=by
 have HD:=Hi hd;have HF:=Hi hf;have hR:Kb D F l=(D,F,2):=by unfold Kb;rw[A9 (by simp[h0]),Ae hall]
 have HR:=Hi hR;have Be:=(Ai w.heap.size w).alloc (Ag _) (.cells #[y] 42);have AP:=Hi Be;obtain⟨_,_,_,_,_,_,c6,_⟩:=(hf.below Be).cells;have HC:=Hi (ai5 (cap:=cap) (hL.below Be) (by omega) hok);rw[hall] at HC;rw[h0] at c6;clear hd hf hR Be h0 hL hok hall
 go_in
 go_wp2_with fail;refine HC.mono ?_;rintro e w1⟨rfl,hb⟩;have HB1:=bH AP hb;clear hb;go_wp2;go_ret;exact ahq HD HF ap HR rfl HB1.out
theorem ai4(hd:BP w b D fp)(hf:Dp w y b m x gv F)(ap:¬ fp m)(hL:Eh w a l)(hlen:l.length≤100000)(hok:∀ c∈l,c.name.length≤1000000∧c.data.length≤maxLen)(axl:Ah.Good F.m)(FL:used (made F.m l)≤1000000000)(Yb:F.m.length≤1000000000)(BS:F.size≤8192)(Af:rowLen (group l)≤1000000)(Ih:D.loose.length≤300000000)(Pt:F.w.groups.length≤1000000)
  (h0:F.fault=0)(hall:l.all Am.may=true):
  Calls prog 17 #[y,.slice a l.length cap] w fun e w'=>Tv w y b m x gv fp (Kb D F l) e w':=by
 have HD:=Hi hd;have HF:=Hi hf;have HL:=Hi hL;have Gy:=Hi hok
 have HR:Hid (Kb D F l=if F.room < used (made F.m l) then(D,F,4) else
   if F.fits (group l)=true then
    if(DN D F.w (group l)).2.2=0 then((DN D F.w (group l)).1,{ F with m:=made F.m l,w:=(DN D F.w (group l)).2.1 },0)
    else((DN D F.w (group l)).1,{ F with w:=(DN D F.w (group l)).2.1,fault:=(DN D F.w (group l)).2.2 },(DN D F.w (group l)).2.2)
   else PD D F (made F.m l)):=Hi (by unfold Kb;rw[A9 (by simp[h0]),A9 (by simp[hall])])
 have Be:=(Ai w.heap.size w).alloc (Ag _) (.cells #[y] 42);have AP:=Hi Be;have MK:=Hi (AU w (.cells #[y] 42));obtain⟨_,_,_,_,_,_,c6,_⟩:=(hf.below Be).cells;have HC:=Hi (ai5 (cap:=cap) (hL.below Be) (by omega) (fun c hc=>⟨Ay (hok c hc).1 (by unfold maxLen;omega),(hok c hc).2⟩));rw[hall] at HC;rw[h0] at c6;have HG:=Hi (show Ah.Good (made F.m l) from axl.made hf.map.1 (Nl.1 hall));have H0:=Hi h0;clear hd hf Be h0 hL hok hall
 go_in
 go_wp2_with fail;refine HC.mono ?_;rintro e w1⟨rfl,hb⟩;have HB1:=bH AP hb;have GY:=(hb.block w.heap.size (Ao MK)).trans MK.out;have QL:=Hi GY;have c0:=IB GY;have Yt:=HF.below HB1.out;obtain⟨_,_,_,_,c4,_,_,_⟩:=Yt.cells;obtain⟨es,clock,Po,BQ⟩:=Yt.map.atc;have TC:=Hi Po;have ES:=Hi BQ;clear hb GY c6 HC Yt Po BQ;go_wp2_with fail;refine(aug _ m es clock TC).mono ?_;rintro e w2⟨rfl,rfl⟩;have gp:w.heap.size < w1.heap.size:=Ao QL.out;have BO:Bw w1 (w1.alloc (.map es clock)):=(Ai _ _).alloc (Ag _) _;have Aj:=bH HB1 BO;have Li:=Hi (HL.below Aj);have yA:=Hi ((BO.block w.heap.size gp).trans QL);have EH:w.heap.size≤w1.heap.size:=HB1.size;clear c0 c4 QL HB1;generalize w1.heap.size=mv at*;generalize w1.alloc (.map es clock)=w2 at*;clear BO;go_wp2_with fail;refine(ab3 (cap:=cap) ES Li (by omega) (by omega) (fun c hc=>Ay (Gy c hc).1 (by unfold maxLen;omega))).mono ?_;rintro e w3⟨rfl,Vl,Du⟩;have XI:=Hi Vl;have Au:=Hi (Cz Aj Du (fun k e=>by subst e;exact EH) Aj.size);have KN:=(Du.block w.heap.size (Ao yA) (by omega)).trans yA.out;have Xy:=Hi KN;have c0:=IB KN;clear Vl Du KN;have HF3:=Hi (HF.below Au);have DL:=Hi ((Ai w3.heap.size w3).drew);have ET:=Hi (avb (XI.below DL) FL);have K0:=Hi (fun(V:World) (h:Bw w3 V)=>(h.cell (p:=⟨w.heap.size,0,none⟩) (Ao Xy)).trans c0);have yL:=Hi (HF3.below DL);by_cases U3:F.room < used (made F.m l)
 ·have Fy:=Hi (HR.trans (Ae U3));have hq:(F.room:Int) < (used (made F.m l):Int):=by omega
  clear U3 HR;have Wd:=Hi (fun(V:World) (h:Below w3.drew.heap.size w3.drew V)=>aiu (yL.below h));generalize used (made F.m l)=U at*;generalize F.room=R at*;go_wp2
  go_region_held3 (fun V=>V.cell? w.heap.size=some (.pointer y))
   (first|exact K0 _ DL|exact K0 _ AX)
   (first
    |(go_at_call 57;refine ET.mono ?_;rintro e w4 ⟨rfl,AB⟩;have Dl:=Hi AB;have AX:=bH DL AB;clear AB)
    |(go_at_call 58;refine(Wd _ Dl).mono ?_;rintro e w5 ⟨rfl,rfl⟩))
  all_goals
   go_wp2;go_ret;exact ahq HD HF ap Fy rfl (bT Au AX)
 ·have Fy:=Hi (HR.trans (A9 U3));have hq:¬ F.room < used (made F.m l):=U3;have X6:used (made F.m l)≤1000000:=by unfold St.room at U3;omega
  have agA:=Hi X6;clear U3 HR X6;have Wd:=Hi (fun(V:World) (h:Below w3.drew.heap.size w3.drew V)=>aiu (yL.below h));generalize hA:made F.m l=A at*;generalize hU:used A=U at*;generalize F.room=R at*;go_wp2
  go_region_held3 (fun V=>V.cell? w.heap.size=some (.pointer y))
   (first|exact K0 _ DL|exact K0 _ AX)
   (first
    |(go_at_call 57;refine ET.mono ?_;rintro e w4 ⟨rfl,AB⟩;have Dl:=Hi AB;have AX:=bH DL AB;clear AB)
    |(go_at_call 58;refine(Wd _ Dl).mono ?_;rintro e w5 ⟨rfl,rfl⟩))
  have Cj:=bH Au AX;have Gc:=Hi (XI.below AX);have yC:=Hi ((AX.block w.heap.size (Ao Xy)).trans Xy);have dD:=Hi (HL.below Cj);clear Dl AX Wd yL K0 ET DL HF3 Xy Au XI c0 Li;go_wp2_with fail;refine(aun (cap:=cap) dD (by omega) (fun c hc=>(Gy c hc).1)).mono ?_;rintro e w6⟨q6,cap6,rfl,J9,Co⟩;have fu:=aj0 l;clear hq;generalize group l=G at*;obtain⟨q,aF4,e6,Uk⟩:=xJ J9;injection e6 with e6a e6b e6c
  subst e6a e6c;have HX6:=Hi Uk
  have qE:=Hi (show ∀ p,q6=some p→w4.heap.size≤p.block from fun p hp=>by
   rcases J9.2 with⟨e1,_⟩|⟨g,c2,cur,e1,MZ,_⟩
   ·rw[hp] at e1;simp at e1
   ·rw[hp] at e1;injection e1 with e1;injection e1 with e1;subst e1;exact MZ)
  have BO:Bw w6 (w6.alloc (.cells #[.slice q6 G.length cap6] 61)):=(Ai _ _).alloc (Ag _) _;have tH:=Co.trans (BO.mono Co.size);have Ex:=bH Cj tH;have yD:=Hi ((tH.block w.heap.size (Ao yC)).trans yC);have HM7:=Hi (Gc.below tH);have zR:=Hi (HX6.below BO);have h6n:=AU w6 (.cells #[.slice q6 G.length cap6] 61);have yg:=Hi h6n;have Qn:w.heap.size≤w6.heap.size:=Ay Cj.size Co.size;have c6:=IB h6n;have HQW:=Hi (show ∀ p,q6=some p→w.heap.size≤p.block from fun p hp=>Ay Cj.size (qE p hp));have qw:=Hi (aE3 G q6 cap6 _ zR (by unfold maxLen;omega) (by omega))
  have OY:=Hi (show ∀ k,w.heap.size≤k→¬ (fp k∨k=y∨BZ x gv k) from fun k hk e=>by
   have h1:=HD.lt k;have h2:=HF.lt k;rcases e with e|e|e
   ·have:=h1 e;omega
   ·have:=h2 (.inl e);omega
   ·have:=h2 (.inr (.inr e));omega)
  clear BO tH Co J9 Uk HX6 qE h6n Cj yC Gc dD yA ES TC Aj e6b;have aFs:G.length≤200000:=by omega
  clear fu;go_wp2_with fail;refine qw.mono ?_;rintro e w8⟨rfl,JF⟩;have O3:=bH Ex JF;have dm:=Hi ((JF.block w.heap.size (Ao yD)).trans yD);have UL:=Hi (HM7.below JF);have HX8:=Hi (zR.below JF);have H68:=Hi ((JF.block w6.heap.size (Ao yg)).trans yg);clear JF Ex yD HM7 zR yg qw c6;generalize w6.heap.size=c6b at*;have HF8:=Hi (HF.below O3);have c2:=IB dm.out;obtain⟨_,_,_,_,_,c5,_,_⟩:=HF8.cells;cases J6:Aw.Ie G with
  |none=>
   have BV:=Hi (Fy.trans (A9 (by unfold St.fits;rw[J6];simp)));have hv:Kc G=([],5):=(by unfold Kc;rw[J6]);rw[hv];clear J6 hv Fy;have Jy:=O3;have UE:=dm;have Sk:=UL;clear c5 c2;have XA:=Hi (HD.below Jy);have jw:=Hi (HF.below Jy);have U7:=amw D F A;have aM:=ail XA jw ap Sk HG (by rw[hU];exact agA.out) Ih;have c2:=IB UE.out;obtain⟨D1,F1,k1,hr⟩:∃ D1 F1 k1,PD D F A=(D1,F1,k1):=⟨_,_,_,rfl⟩;rw[hr] at U7 aM BV;have VU:=Hi aM;have jK:=Hi (show F1.m=if k1=0 then A else F.m from U7);clear U7 aM hr;go_wp2_with fail;refine VU.mono ?_;rintro e Fe⟨rfl,F4,EG,g1,g2,g3,g4,g5,g6⟩;have lN:=(g4.block w.heap.size (Ao UE) (OY _ (Ag _))).trans UE.out;have jL:=Hi (Sk.upd g4 (OY _ EH));have c2:=IB lN;have IX:=Hi g1;have D7:=Hi (show Dp Fe y b m x EG { F1 with m:=F.m } from g2);have Hg:=Hi g3;have IY:=Hi ((A7.of_below (F:=fun k=>fp k∨k=y∨BZ x gv k) Jy).trans g4 (fun i hi=>.inl hi));have jE:=Hi g5;have JA:=Hi (show Dq fp F4 w from fun i hi=>(g5 i hi).imp id (fun e=>Ay Jy.size e));have XD:=Hi (show Dq (BZ x gv) (BZ x EG) w from fun i hi=>(g6 i hi).imp id (fun e=>Ay Jy.size e));obtain⟨_,_,_,_,c4,_,_,cf⟩:=D7.cells;have rF:=cf 4;clear g1 g2 g3 g4 g5 g6 cf lN;by_cases h0:k1=0
   ·subst h0;have TT:{ ({ F1 with m:=F.m }:St) with m:=A }=F1:=(by have:=jK.out;rw[Ae rfl] at this;rw[←this]);have UG:=Hi TT;clear TT;go_wp2;go_ret;unfold Tv VJ;rw[BV.out];have hu:A7 (fun k=>k=y) Fe (Fe.setCell ⟨y,4,none⟩ (.map (some mv))):=(A7.refl (fun k=>k=y) Fe).setCell (p:=⟨y,4,none⟩) (.inl rfl) _;refine⟨mv,⟨rfl,F4,EG,IX.upd hu (fun k hk e=>by subst e;exact Y2 IX D7 Hg k (.inl rfl) hk),?_,fun e=>(jE mv e).elim (fun f=>OY _ EH (.inl f)) (fun f=>by have:=Sk.lt;omega),IY.trans hu (fun i hi=>.inl (.inr (.inl hi))),JA.out,XD.out⟩,.inr EH⟩;have:=D7.aeu jL.out;rwa[UG.out] at this
   ·have Ak:(k1 == 0)=false:=(by simp[h0]);have TT:({ F1 with m:=F.m }:St)=F1:=(by have:=jK.out;rw[A9 h0] at this;rw[←this]);have UG:=Hi TT;clear TT h0;go_wp2;go_ret;unfold Tv VJ;rw[BV.out];exact⟨m,⟨rfl,F4,EG,IX,by rw[←UG.out];exact D7.out,Hg,IY,JA,XD⟩,.inl rfl⟩
  |some s=>
   have hv:Kc G=(s,0):=(by unfold Kc;rw[J6]);rw[hv];have Wd:=Hi (fun(V:World) (h:Bw w8 V)=>aE8 (HF8.Ed.below h));by_cases JH:s.length / 64≤F.w.n -1 -F.w.used
   ·have BV:=Hi (Fy.trans (Ae (by unfold St.fits;rw[J6];simp[JH])));have hq:¬ F.w.n -1 -F.w.used < s.length / 64:=(by omega);clear J6 hv Fy JH;generalize s.length / 64=N at*;generalize F.w.n -1 -F.w.used=N2 at*;go_wp2_with fail;refine(Wd _ (Ai _ _)).mono ?_;rintro e w9⟨rfl,FI⟩;have Jy:=bH O3 FI;have UE:=Hi ((FI.block w.heap.size (Ao dm)).trans dm);have Sk:=Hi (UL.below FI);have HX9:=Hi (HX8.below FI);have H69:=Hi ((FI.block c6b (Ao H68)).trans H68);clear FI Wd c5 c2;have XA:=Hi (HD.below Jy);have jw:=Hi (HF.below Jy);have hcw:¬ BZ x gv c6b:=fun e=>OY c6b Qn (.inr (.inr e))
    have abP:=asq XA jw ap UE H69 hcw HX9 (fun p hp _=>⟨fun e=>OY _ (HQW p hp) (.inl e),fun e=>OY _ (HQW p hp) (.inr (.inr e))⟩) (by omega) Af (by omega) Pt 0;have c2:=IB UE.out;obtain⟨D1,L1,k1,hr⟩:∃ D1 L1 k1,DN D F.w G=(D1,L1,k1):=⟨_,_,_,rfl⟩;rw[hr] at abP BV;have pM:=Hi abP;clear abP hr hcw;go_wp2_with fail;refine pM.mono ?_;rintro e Fe⟨rfl,F4,EG,g1,g2,g3,g4,g5,g6,g7⟩;have jL:=Hi (Sk.upd g4 (OY _ EH));have c2:=IB g7;have IX:=Hi g1;have Hg:=Hi g3;have D7:=Hi (show Dp Fe y b m x EG { F with w:=L1,fault:=if k1=0 then F.fault else k1 } from g2);have IY:=Hi ((A7.of_below (F:=fun k=>fp k∨k=y∨BZ x gv k) Jy).trans g4 (fun i hi=>.inl hi));have jE:=Hi g5;have JA:=Hi (show Dq fp F4 w from fun i hi=>(g5 i hi).imp id (fun e=>Ay Jy.size e));have XD:=Hi (show Dq (BZ x gv) (BZ x EG) w from fun i hi=>(g6 i hi).imp id (fun e=>Ay Jy.size e));obtain⟨_,_,_,_,c4,_,_,cf⟩:=D7.cells;have rF:=cf 4;clear g1 g2 g3 g4 g5 g6 g7 cf;by_cases h0:k1=0
    ·subst h0;have Ny:=Hi (BV.trans (Ae rfl));clear BV;go_wp2;go_ret;unfold Tv VJ;rw[Ny.out];have hu:A7 (fun k=>k=y) Fe (Fe.setCell ⟨y,4,none⟩ (.map (some mv))):=(A7.refl (fun k=>k=y) Fe).setCell (p:=⟨y,4,none⟩) (.inl rfl) _;exact⟨mv,⟨rfl,F4,EG,IX.upd hu (fun k hk e=>by subst e;exact Y2 IX D7 Hg k (.inl rfl) hk),D7.aeu jL.out,fun e=>(jE mv e).elim (fun f=>OY _ EH (.inl f)) (fun f=>by have:=Sk.lt;omega),IY.trans hu (fun i hi=>.inl (.inr (.inl hi))),JA.out,XD.out⟩,.inr EH⟩
    ·have Ak:(k1 == 0)=false:=(by simp[h0]);have Ny:=Hi (BV.trans (A9 h0));have aqZ:Hid (Dp Fe y b m x EG { F with w:=L1,fault:=k1 }):=Hi (by have:=D7.out;rwa[A9 h0] at this);clear BV h0;go_wp2;go_ret;unfold Tv VJ;rw[Ny.out];exact⟨m,⟨rfl,F4,EG,IX,aqZ,Hg,IY,JA,XD⟩,.inl rfl⟩
   ·have BV:=Hi (Fy.trans (A9 (by unfold St.fits;rw[J6];simp[JH])));have hq:F.w.n -1 -F.w.used < s.length / 64:=(by omega);clear J6 hv Fy JH;generalize s.length / 64=N at*;generalize F.w.n -1 -F.w.used=N2 at*;go_wp2_with fail;refine(Wd _ (Ai _ _)).mono ?_;rintro e w9⟨rfl,FI⟩;have Jy:=bH O3 FI;have UE:=Hi ((FI.block w.heap.size (Ao dm)).trans dm);have Sk:=Hi (UL.below FI);clear FI Wd c5 c2;have XA:=Hi (HD.below Jy);have jw:=Hi (HF.below Jy);have U7:=amw D F A;have aM:=ail XA jw ap Sk HG (by rw[hU];exact agA.out) Ih;have c2:=IB UE.out;obtain⟨D1,F1,k1,hr⟩:∃ D1 F1 k1,PD D F A=(D1,F1,k1):=⟨_,_,_,rfl⟩;rw[hr] at U7 aM BV;have VU:=Hi aM;have jK:=Hi (show F1.m=if k1=0 then A else F.m from U7);clear U7 aM hr;go_wp2_with fail;refine VU.mono ?_;rintro e Fe⟨rfl,F4,EG,g1,g2,g3,g4,g5,g6⟩;have lN:=(g4.block w.heap.size (Ao UE) (OY _ (Ag _))).trans UE.out;have jL:=Hi (Sk.upd g4 (OY _ EH));have c2:=IB lN;have IX:=Hi g1;have D7:=Hi (show Dp Fe y b m x EG { F1 with m:=F.m } from g2);have Hg:=Hi g3;have IY:=Hi ((A7.of_below (F:=fun k=>fp k∨k=y∨BZ x gv k) Jy).trans g4 (fun i hi=>.inl hi));have jE:=Hi g5;have JA:=Hi (show Dq fp F4 w from fun i hi=>(g5 i hi).imp id (fun e=>Ay Jy.size e));have XD:=Hi (show Dq (BZ x gv) (BZ x EG) w from fun i hi=>(g6 i hi).imp id (fun e=>Ay Jy.size e));obtain⟨_,_,_,_,c4,_,_,cf⟩:=D7.cells;have rF:=cf 4;clear g1 g2 g3 g4 g5 g6 cf lN;by_cases h0:k1=0
    ·subst h0;have TT:{ ({ F1 with m:=F.m }:St) with m:=A }=F1:=(by have:=jK.out;rw[Ae rfl] at this;rw[←this]);have UG:=Hi TT;clear TT;go_wp2;go_ret;unfold Tv VJ;rw[BV.out];have hu:A7 (fun k=>k=y) Fe (Fe.setCell ⟨y,4,none⟩ (.map (some mv))):=(A7.refl (fun k=>k=y) Fe).setCell (p:=⟨y,4,none⟩) (.inl rfl) _;refine⟨mv,⟨rfl,F4,EG,IX.upd hu (fun k hk e=>by subst e;exact Y2 IX D7 Hg k (.inl rfl) hk),?_,fun e=>(jE mv e).elim (fun f=>OY _ EH (.inl f)) (fun f=>by have:=Sk.lt;omega),IY.trans hu (fun i hi=>.inl (.inr (.inl hi))),JA.out,XD.out⟩,.inr EH⟩;have:=D7.aeu jL.out;rwa[UG.out] at this
    ·have Ak:(k1 == 0)=false:=(by simp[h0]);have TT:({ F1 with m:=F.m }:St)=F1:=(by have:=jK.out;rw[A9 h0] at this;rw[←this]);have UG:=Hi TT;clear TT h0;go_wp2;go_ret;unfold Tv VJ;rw[BV.out];exact⟨m,⟨rfl,F4,EG,IX,by rw[←UG.out];exact D7.out,Hg,IY,JA,XD⟩,.inl rfl⟩
end
end
section
open Go.RowKit Go.Maps
open Ah
theorem aj2:∀ {L:List (List (List UInt8))} {S:List UInt8},Aw.LD L=some S→64*L.length≤S.length∧∀ l∈L,rowLen l≤S.length
 |[],S,h=>by simp[Aw.LD] at h;subst h;simp
 |t :: L,S,h=>by
  simp only[Aw.LD] at h;cases h1:Aw.Ie t with
  |none=>rw[h1] at h;cases h
  |some a=>
   rw[h1] at h;simp only[CU] at h;cases h2:Aw.LD L with
   |none=>rw[h2] at h;cases h
   |some b=>
    rw[h2] at h;simp only[EZ,Cu] at h;subst h;obtain⟨g1,g2⟩:=aj2 h2;obtain⟨_,g4⟩:=Aw.kT h1;obtain⟨c,hc,e⟩:=Aw.tq h1;have g5:=wY hc;have g6:c.length≤a.length:=(by rw[e,Aw.Te,AA,Ab.Cb];omega);rw[AA,BM];refine⟨by omega,fun l hl=>?_⟩;rcases Ch.1 hl with rfl|hl
    ·omega
    ·have:=g2 l hl;omega
theorem aBy(l:List T):2*l.length≤rowLen l∧∀ s∈l,s.length≤rowLen l:=by
 unfold rowLen
 induction l with
 |nil=>simp
 |cons x l ih=>
  obtain⟨h1,h2⟩:=ih;simp only[Ce,DY,BM];refine⟨by omega,fun s hs=>?_⟩;rcases Ch.1 hs with rfl|hs
  ·omega
  ·have:=h2 s hs;omega
theorem amK{D:A8}(hF:D.Cg){g u:Nat}{G:List (List T)}{n:Nat}(h1:1≤n)(hn:1+n≤D.n)(h:Aw.JQ (A8.text D.now 1 n) n=some (g,u,G)):g < 18446744073709551616∧G.length≤20000∧∀ l∈G,l.length≤1000000∧∀ s∈l,s.length≤2000000:=by
 have GJ:=hF.n2;have hlen:(A8.text D.now 1 n).length=64*n:=A8.oH hF.now 1 n (by omega);obtain⟨b1,b2,b3,_⟩:=Aw.nV h (by rw[hlen];exact Ag _) h1;have hS:(((A8.text D.now 1 n).drop 64).take (64*u)).length≤64*n:=by rw[Bc,CF,hlen];omega
 obtain⟨c1,c2⟩:=aj2 b3;refine⟨b2,by omega,fun l hl=>?_⟩;have:=c2 l hl;obtain⟨d1,d2⟩:=aBy l;exact⟨by omega,fun s hs=>by have:=d2 s hs;omega⟩
theorem amI{f:Nat→T}{log size a num:Nat}{A:M}(h:NU f log size=some (a,num,A)):(f 0=Aw.pad [0]∧a=0∧num=0∧A=[])∨(a≤1∧f 0=Ah.mark a num∧num=Ab.val (((f 0).take 13).drop 5)∧∃ t r,cut (A8.text f (D9 log size a) size)=some (t,r)∧Ah.read t=some A):=by
 unfold NU at h;by_cases h2:f 0=Aw.pad [0]
 ·rw[Ae h2] at h;simp only[Cu,Nr] at h;exact .inl ⟨h2,h.1.symm,h.2.1.symm,h.2.2.symm⟩
 ·rw[A9 h2] at h;by_cases h3:((f 0).getD 4 0).toNat≤1∧f 0=Ah.mark ((f 0).getD 4 0).toNat (Ab.val (((f 0).take 13).drop 5))
  ·rw[Ae h3] at h;cases hc:cut (A8.text f (D9 log size ((f 0).getD 4 0).toNat) size) with
   |none=>rw[hc] at h;cases h
   |some p=>
    rw[hc] at h;simp only[CU] at h;obtain⟨m,hm,e⟩:=Tt.1 h;simp only[Nr] at e;obtain⟨e1,e2,e3⟩:=e;rw[e1,e2] at h3;rw[e1] at hc;exact .inr ⟨h3.1,h3.2,e2.symm,p.1,p.2,hc,by rw[hm,e3]⟩
  ·rw[A9 h3] at h;cases h
theorem aAb{D D':A8}{F:St}{k:Int}(h:iB D=(some F,D',k)):k=0∧8≤D.n∧D.down=false∧∃ a num A g u G cs,NU D.now (lg D.n) (sz D.n)=some (a,num,A)∧Aw.JQ (A8.text D.now 1 (lg D.n)) (lg D.n)=some (g,u,G)∧¬ (0 < num∧g < num -1)∧QF G=some cs∧
  ((g < num∧DX D ⟨1,lg D.n,g,u,G,0⟩=(D',F.w,0)∧F=⟨lg D.n,sz D.n,a,A,F.w,0⟩)∨(¬ g < num∧D'=D∧F=⟨lg D.n,sz D.n,a,PE A cs,⟨1,lg D.n,g,u,G,0⟩,0⟩)):=by
 unfold iB at h;by_cases h8:D.n < 8
 ·rw[Ae h8] at h;simp at h
 rw[A9 h8] at h;by_cases hd:D.down=true
 ·rw[Ae hd] at h;simp at h
 rw[A9 hd] at h;cases h1:NU D.now (lg D.n) (sz D.n) with
 |none=>rw[h1] at h;simp at h
 |some p=>
  obtain⟨a,num,A⟩:=p;rw[h1] at h;simp only at h;cases h2:Aw.JQ (A8.text D.now 1 (lg D.n)) (lg D.n) with
  |none=>rw[h2] at h;simp at h
  |some p=>
   obtain⟨g,u,G⟩:=p;rw[h2] at h;simp only at h;by_cases h3:0 < num∧g < num -1
   ·rw[Ae h3] at h;simp at h
   rw[A9 h3] at h;cases h4:QF G with
   |none=>rw[h4] at h;simp at h
   |some cs=>
    rw[h4] at h;simp only at h;by_cases h5:g < num
    ·rw[Ae h5] at h;by_cases h6:(DX D ⟨1,lg D.n,g,u,G,0⟩).2.2=0
     ·rw[Ae h6] at h;simp only[Nr,Cu] at h;obtain⟨e1,e2,e3⟩:=h;subst e1;exact⟨e3.symm,by omega,by simpa using hd,a,num,A,g,u,G,cs,rfl,rfl,h3,h4,.inl ⟨h5,Prod.ext e2 (Prod.ext rfl h6),rfl⟩⟩
     ·rw[A9 h6] at h;simp at h
    ·rw[A9 h5] at h;simp only[Nr,Cu] at h;obtain⟨e1,e2,e3⟩:=h;exact⟨e3.symm,by omega,by simpa using hd,a,num,A,g,u,G,cs,rfl,rfl,h3,h4,.inr ⟨h5,e2.symm,e1.symm⟩⟩
theorem oN:∀ (n:Nat) (l:List T) (cs:List Am),l.length≤n→ungroup l=some cs→2*cs.length=l.length:=by
 intro n
 induction n with
 |zero=>
  intro l cs hl h;have:l=[]:=List.eq_nil_of_length_eq_zero (by omega);subst this;simp only[ungroup,Cu] at h;subst h;rfl
 |succ n ih=>
  intro l cs hl h
  match l,hl,h with
  |[],_,h=>simp only[ungroup,Cu] at h;subst h;rfl
  |[_],_,h=>simp[ungroup] at h
  |[] :: _ :: _,_,h=>simp[ungroup] at h
  |(b :: n') :: d :: R,hl,h=>
   simp only[ungroup] at h;split at h
   ·obtain⟨cs',h1,h2⟩:=Tt.1 h;subst h2;have:=ih R cs' (by simp at hl;omega) h1;simp;omega
   ·cases h
theorem apN:∀ {G:List (List T)} {cs:List (List Am)},QF G=some cs→cs.length=G.length∧∀ k (h:k < G.length) (h':k < cs.length),ungroup G[k]=some cs[k]
 |[],cs,h=>by simp only[QF,Cu] at h;subst h;exact⟨rfl,fun k hk=>by simp at hk⟩
 |g :: G,cs,h=>by
  simp only[QF] at h;cases h1:ungroup g with
  |none=>rw[h1] at h;cases h
  |some c=>
   rw[h1] at h;simp only[CU] at h;obtain⟨cs',h2,h3⟩:=Tt.1 h;subst h3;obtain⟨g1,g2⟩:=apN h2;refine⟨by simp[g1],fun k hk hk'=>?_⟩;cases k with
   |zero=>exact h1
   |succ k=>exact g2 k (by simpa using hk) (by simpa using hk')
theorem amS(A:M)(cs:List (List Am))(k:Nat)(h:k < cs.length):PE A (cs.take (k+1))=made (PE A (cs.take k)) cs[k]:=by
 rw[Cr h,amR]
theorem amQ(A:M)(cs:List (List Am))(b:Nat)(hb:∀ c∈cs,c.length≤b):(PE A cs).length≤A.length+cs.length*b:=by
 induction cs generalizing A with
 |nil=>simp[PE]
 |cons c cs ih=>
  have h1:=ih (made A c) (fun x hx=>hb x (Fs _ hx));have h2:=adI A c;have h3:=hb c Gl
  show(PE (made A c) cs).length≤_
  rw[BM,Nat.succ_mul];omega
theorem Le.index{w:World}{q:Option Addr}{c:Nat}{L:List (List T)}(h:Le w (.slice q L.length c) L)(k:Nat)(hk:k < L.length):
  ∃ p:Addr,(∀ W,(Instr.indexAt 155 (.slice q L.length c) ↑(k:Int)).run prog W=.ok (.pointer (some p)) W)∧∃ ar cr,w.cell? p=some (.slice ar L[k].length cr)∧Dz w ar L[k]:=by
 obtain⟨cs,h1,h2,h3,h4⟩:=h;rcases h1.2 with⟨e1,e2⟩|⟨g,cap,cur,e1,_⟩
 ·omega
 ·injection e1 with e1 e2 e3
  subst e1;have Rh:k < cs.length:=by omega
  obtain⟨ar,cr,er,ht⟩:=(h4 k hk Rh).texts;have hc:=h1.cells (g:=g) rfl k cs[k] (CZ Rh);rw[add_plain,er] at hc;refine⟨⟨g,k,Option.none⟩,fun W=>?_,ar,cr,hc,ht⟩;have:=Hy prog 155 61 underlying155 1 (by kernel_rfl) ⟨g,0,Option.none⟩ L.length c k hk W;rw[Nat.mul_one,add_plain] at this;exact this
theorem auG{w:World}{y log size b:Nat}{D:A8}{fp:Nat→Prop}(hd:BP w b D fp)(hy:w.heap[y]?=some (.cells (L6 log size 0 b none none) 116))(DF:D.down=false){a num:Nat}{A:M}(hl:NU D.now log size=some (a,num,A))
  (mH:log≤16384)(Ki:size≤8192)(JH:∀ a,a≤1→D9 log size a+size≤D.n):
  Calls prog 78 #[y] w fun e w'=>zZ w y log size b a num A e w':=by
 rcases amI hl with⟨h0,rfl,rfl,rfl⟩|⟨ha,h0,hn,t,r,hc,hr⟩
 ·exact auI hd hy DF h0
 ·have hv:num < 18446744073709551616:=by
   rw[hn];refine Ip (Ab.Jw _) ?_;have hlen:(((D.now 0).take 13).drop 5).length≤8:=(by rw[CF,Bc];omega);exact Ay (Nat.pow_le_pow_right (by decide) hlen) (by decide)
  exact auH hd hy DF ha hv h0 mH Ki (JH a ha) hc hr
theorem aoa:∀ (n:Nat) (lo:Option T) (s:T) (r:M×T),Kn n lo s=some r→8*r.1.length+r.2.length≤s.length
 |0,lo,s,r,h=>by simp only[Kn,Cu] at h;subst h;simp
 |n+1,lo,s,r,h=>by
  simp only[Kn] at h;cases h1:cut s with
  |none=>rw[h1] at h;cases h
  |some p=>
   rw[h1] at h;simp only[CU] at h;cases h2:cut p.2 with
   |none=>rw[h2] at h;cases h
   |some q=>
    rw[h2] at h;simp only[CU] at h;split at h
    ·obtain⟨r',h3,h4⟩:=Tt.1 h;subst h4;have g1:=Ww (p:=p.1) (q:=p.2) h1;have g2:=Ww (p:=q.1) (q:=q.2) h2;have g3:=aoa n _ _ _ h3;simp only[BM];omega
    ·cases h
theorem aBg{s:T}{A:M}(h:Ah.read s=some A):8*A.length≤s.length:=by
 unfold Ah.read at h;split at h
 ·cases h
 ·cases h1:Kn (Ab.val (s.take 4)) none (s.drop 4) with
  |none=>rw[h1] at h;cases h
  |some r=>
   rw[h1] at h;simp only[CU] at h;split at h
   ·have:=aoa _ _ _ _ h1;simp only[Cu] at h;subst h;rw[CF] at this;omega
   ·cases h
theorem aza{D:A8}(hF:D.Cg){log size a num:Nat}{A:M}(h:NU D.now log size=some (a,num,A))(Ki:size≤8192)(JH:∀ a,a≤1→D9 log size a+size≤D.n):a≤1∧A.length≤100000:=by
 rcases amI h with⟨_,h1,_,rfl⟩|⟨ha,_,_,t,r,hc,hr⟩
 ·exact⟨by omega,by simp⟩
 ·have h1:=Ww hc;have h2:=aBg hr;rw[A8.oH hF.now _ _ (JH a ha)] at h1;exact⟨ha,by omega⟩
end
section
open Go.RowKit Go.Maps
open Ah
def aqv(w:World)(b:Nat)(fp:Nat→Prop)(F:St)(D':A8)(e:Ending)(w':World):Prop:=
 ∃ y m x gv fp',e=.returned (.tuple #[.pointer (some ⟨y,0,none⟩),.int .i64 0])∧BP w' b D' fp'∧Dp w' y b m x gv F∧¬ fp' m∧A7 fp w w'∧Dq fp fp' w∧∀ k,WA y m x gv k→w.heap.size≤k
theorem Le.aex{w:World}{v:Value}{L:List (List T)}(h:Le w v L):∃ q cap,v=.slice q L.length cap:=by
 obtain⟨cs,h1,_⟩:=h;exact Bp h1
theorem Dp.ofRaw{W:World}{y mb x b log size a:Nat}{gv:Value}{L:BI}{A:M}(hy:W.heap[y]?=some (.cells (L6 log size a b (some mb) none) 116))(hm:CV W mb A)(hw:Cw W x b gv L)(h1:log≤16384)(h2:size≤16384)(h3:1≤size)(h4:a≤1):
  Dp (W.setCell ⟨y,5,none⟩ (.pointer x)) y b mb x gv ⟨log,size,a,A,L,0⟩:=by
 have hu:A7 (fun k=>k=y) W (W.setCell ⟨y,5,none⟩ (.pointer x)):=(A7.refl (fun k=>k=y) W).setCell (p:=⟨y,5,none⟩) (.inl rfl) _;have hb:Bf W y 116:=⟨_,_,hy⟩
 exact⟨Cs W y 5 _ _ _ hy,hm.upd hu (fun e=>hm.DI (e▸hb)),hw.upd hu (fun k hk e=>by subst e;exact Bf.ne hk hb (by decide) rfl) (fun k hk e=>by
  subst e;rcases hk with h|h
  ·exact Bf.ne hb (h▸⟨_,_,hw.struct⟩:Bf W k 224) (by decide) rfl
  ·obtain⟨cs',g1,_⟩:=hw.groups;exact Bf.ne hb (Cx g1 h) (by decide) rfl),⟨h1,h2,h3,h4⟩⟩
theorem auV{w:World}{b:Nat}{D D':A8}{fp:Nat→Prop}{F:St}(hd:BP w b D fp)(h:iB D=(some F,D',0))(Ih:D.loose.length≤300000000):
  Calls prog 25 #[b] w fun e w'=>aqv w b fp F D' e w':=by
 obtain⟨_,h8,DF,a,num,A,g,u,G,cs,hl,ho,hng,DV,hend⟩:=aAb h;have Qr:=hd.fine;have GJ:=Qr.n2;obtain⟨l1,l2,l3⟩:=bE h8;have HD:=Hi hd;obtain⟨s1,s2,s3⟩:=amK Qr (by omega) (by omega) ho;have HS:=Hi (fun(V:World) (h:BP V b D fp)=>Z9 h);have hlg:(max ((D.n:Int) / 8) 2)=((lg D.n:Nat):Int):=by unfold lg;omega
 have BS:((D.n:Int) -1 -((lg D.n:Nat):Int)) / 2=((sz D.n:Nat):Int):=by unfold sz;omega
 have h8':¬ (D.n:Int) < 8:=by omega
 clear hd
 go_in
 go_wp2_with fail;refine(HS _ HD).mono ?_;rintro e w1⟨rfl,rfl⟩;go_wp2_with fail;refine(HS _ HD).mono ?_;rintro e w1⟨rfl,rfl⟩;go_wp2_with fail;have gU:=AU w (.cells (L6 (lg D.n) 0 0 b none none) 116);have Be:Bw w (w.alloc (.cells (L6 (lg D.n) 0 0 b none none) 116)).drew:=((Ai w.heap.size w).alloc (Ag _) _).drew;have AP:=Hi Be;have zV:=Hi (show(w.alloc (.cells (L6 (lg D.n) 0 0 b none none) 116)).drew.heap[w.heap.size]?=_ from gU);have e1:IntKind.i64.wrap ((D.n:Int) -1)=(D.n:Int) -1:=EN _ (by omega);have e2:IntKind.i64.wrap ((D.n:Int) -1 -((lg D.n:Nat):Int))=(D.n:Int) -1 -((lg D.n:Nat):Int):=EN _ (by omega);have e3:IntKind.i64.wrap (((D.n:Int) -1 -((lg D.n:Nat):Int)).tdiv 2)=((sz D.n:Nat):Int):=by
  rw[Int.tdiv_eq_ediv_of_nonneg (by omega),BS];exact EN _ (by omega)
 have JN:(L6 (lg D.n) 0 0 b none none).setIfInBounds 2 (.int .i64 (IntKind.i64.wrap (((D.n:Int) -1 -((lg D.n:Nat):Int)).tdiv 2)))=L6 (lg D.n) (sz D.n) 0 b none none:=by rw[e3];rfl
 have qM:=Hi JN;have UR:=Hi (show(w.alloc (.cells ((L6 (lg D.n) 0 0 b none none).setIfInBounds 2 (.int .i64 (IntKind.i64.wrap (((D.n:Int) -1 -((lg D.n:Nat):Int)).tdiv 2)))) 116)).drew.heap[w.heap.size]?=some (.cells (L6 (lg D.n) (sz D.n) 0 b none none) 116) by rw[JN];exact AU w _);have HD0:=Hi (HD.below Be);obtain⟨_,d1,d2,_,_,_,_,df⟩:=L8 zV.out;have df2:=df 2;clear df gU Be JN e3
 go_region_held3 (fun W=>W.cell? ⟨w.heap.size,1,none⟩=some ↑((lg D.n:Nat):Int))
  (first|exact(L8 zV).2.1|exact(L8 UR).2.1)
  (first
   |(go_at_call 77;refine(HS _ HD0).mono ?_;rintro e w1 ⟨rfl,rfl⟩))
 all_goals
  clear d1 d2 df2;go_wp2_with fail;have alO:(L6 (lg D.n) 0 0 b none none).setIfInBounds 2 (.int .i64 (((D.n:Int) -1 -((lg D.n:Nat):Int)) / 2))=L6 (lg D.n) (sz D.n) 0 b none none:=by rw[BS];rfl
  rw[alO];have UT:=Hi (show(w.alloc (.cells (L6 (lg D.n) (sz D.n) 0 b none none) 116)).drew.heap[w.heap.size]?=_ from AU w _);have Aj:=Hi (show Bw w (w.alloc (.cells (L6 (lg D.n) (sz D.n) 0 b none none) 116)).drew from((Ai w.heap.size w).alloc (Ag _) _).drew);have O5:=Hi (HD.below Aj);clear alO qM UR zV AP HD0 e1 e2;generalize (w.alloc (.cells (L6 (lg D.n) (sz D.n) 0 b none none) 116)).drew=w2 at*
  refine(auG O5 UT DF hl (by omega) (by omega) (fun a ha=>by
   unfold D9;have:a*sz D.n≤1*sz D.n:=PN _ ha;omega)).mono ?_
  rintro e w3⟨mb,rfl,hy3,Vl,Du,hn3⟩;have SA:=Hi hy3;have XI:=Hi Vl;have OV:=Hi (show w.heap.size≤mb from Ay Aj.size hn3);have Au:=Hi (Cz Aj Du (fun k e=>by subst e;exact Ag _) Aj.size);have PT:=Hi (HD.below Au);clear hy3 Vl Du hn3 UT Aj O5;obtain⟨_,d1,_⟩:=L8 SA.out;have hW:D.Ut 1 ((lg D.n:Nat):Int)=(some ⟨1,lg D.n,g,u,G,0⟩,0):=by
   unfold A8.Ut;rw[A9 (by omega),A9 (by simp[DF])]
   show(match Aw.JQ (A8.text D.now 1 (lg D.n)) (lg D.n) with
    |none=>((none,50):Option BI×Int)
    |some (g,u,l)=>(some (⟨1,lg D.n,g,u,l,0⟩:BI),(0:Int)))=_
   rw[ho]
  have vE:=aE4 PT 1 ((lg D.n:Nat):Int) (by omega) (by omega);unfold Wp at vE;rw[hW] at vE;have XT:=Hi vE;clear vE hW;go_wp2_with fail;refine XT.mono ?_;rintro e w4⟨x,gv,rfl,IK,AB,hn4⟩;have qR:=Hi (show ∀ k,BZ x gv k→w.heap.size≤k from fun k hk=>Ay Au.size (hn4 k hk));have AX:=bH Au AB;have QX:=Hi ((AB.block w.heap.size (Ao SA)).trans SA);have VW:=Hi (XI.below AB);have TK:=Hi IK;have UI:=Hi (fun(V:World) (h:Cw V x b gv ⟨1,lg D.n,g,u,G,0⟩)=>aq5 h);have dB:=Hi (aE2 IK (by show G.length≤_;omega) (fun l hl=>by have:=(s3 l hl).1;omega));clear IK AB hn4 Au SA XI PT XT d1;have Ug:=apN DV;have Q8:=Hi Ug;have K7:=Hi s3
  obtain⟨tZ,hAl⟩:=aza Qr hl (by omega) (fun a ha=>by
   unfold D9;have:a*sz D.n≤1*sz D.n:=PN _ ha;omega)
  have VV:=Hi hl;have HHO:=Hi ho;clear s3 hl ho Ug hlg BS h8';rcases hend with⟨hlt,gN,hF⟩|⟨J6,e,rfl⟩
  ·have h1:(0:Int) < (num:Int):=(by omega);have Jr:IntKind.u64.wrap ((num:Int) -1)=((num -1:Nat):Int):=by
    have:num≤18446744073709551616:=(by omega);simp[IntKind.wrap,IntKind.bits,IntKind.signed];omega
   have EC:¬ g < num -1:=(by omega);have Dw:g < num:=hlt;have Lp:=Hi gN;generalize hL2:F.w=L2 at*;clear gN;subst hF;clear hng hL2;go_wp2_with fail;refine(UI _ TK).mono ?_;rintro e w4'⟨rfl,rfl⟩;go_wp2_with fail;refine dB.mono ?_;rintro e w5⟨v5,rfl,Qu,Bl,Uh⟩;obtain⟨q5,c5,rfl⟩:=Qu.aex;have JA:=Hi Qu;have Cj:=bH AX Bl;have IZ:=Hi ((Bl.block w.heap.size (Ao QX)).trans QX);have Gc:=Hi (VW.below Bl);have Lt:=Hi (TK.below Bl);obtain⟨es,ck,Po⟩:=Gc.is;have TC:=Hi Po
   have JZ:=Hi (show ∀ (F:Nat→Prop) (W:World),A7 F w5 W→(∀ k,F k→k=mb)→Cw W x b gv ⟨1,lg D.n,g,u,G,0⟩ from fun F W hu hF=>Lt.upd hu (fun k hk e=>by rw[hF k e] at hk;exact Gc.DI hk) (fun k hk e=>by
    rw[hF k e] at hk;rcases hk with h|h
    ·exact Gc.DI (t:=224) (h▸⟨_,_,Lt.struct⟩)
    ·obtain⟨cs',h1,_⟩:=Lt.groups;exact Gc.DI (Cx h1 h)))
   clear Qu Bl Uh Po QX VW TK dB;go_wp2
   go_loopw [9,10,11,75] (fun _ _ _ i wr=>∃ k:Nat,k≤G.length∧i=.int .i64 k∧CV wr mb A∧A7 (fun k=>k=mb) w5 wr) (fun _ _ _ i _=>G.length -(intOf i).toNat)
   case atStart=>exact⟨0,AV _,rfl,Gc,A7.refl _ _⟩
   case round=>
    obtain⟨k,hk,rfl,hm,hu⟩:=hrel;by_cases hlt:k < G.length
    ·have Vk:k < cs.length:=(by rw[Q8.1];exact hlt);obtain⟨p,Cn,ar,cr,hc,H9⟩:=JA.index k hlt;have Pm:wr.cell? p=some (.slice ar G[k].length cr):=(hu.cell (Cv hc) (bK hc TC)).trans hc
     have YL:Dz wr ar G[k]:=H9.upd hu (fun p' NP hne=>by
      obtain⟨p2,JM,h3⟩:=H9 0 (List.length_pos_iff.2 hne);rw[NP] at JM;injection JM with JM
      subst JM;have:=bK h3 TC;rwa[add_block] at this)
     have kY:=K7 _ (CK hlt);have Ht:=Q8.2 k hlt Vk;have N9:=aeO _ _ _ (Ag _) Ht;have Ij:=oN _ _ _ (Ag _) Ht;have Qt:=ab8 (cap:=cr) YL (by omega) (fun s hs=>by have:=kY.2 s hs;omega);unfold XW at Qt;rw[Ht] at Qt;have BQ:cs[k].length≤1000000:=(by omega);have TD:=Hi Qt;have JX:=Hi N9;have HM:=Hi hm;have HU:=Hi hu;clear hc H9 YL Ht N9 Ij Qt hm hu;generalize G[k]=Gk at*;generalize cs[k]=ck at*;clear Vk;go_wp2_with fail;refine TD.mono ?_;rintro e w6⟨q6,c6,rfl,J9,Co⟩;have qf:=Hi (Eh.CR J9);have jM:=Hi (HM.below Co);have Ls:=Hi (HU.trans (A7.of_below (F:=fun k=>k=mb) Co) (fun i hi=>.inl hi));clear J9 Co Pm;have NR:=JZ _ _ Ls (fun k e=>e);have NS:=(Ls.block w.heap.size (Ao IZ) (fun e=>Gc.DI (t:=116) (e▸⟨_,_,IZ⟩))).trans IZ.out;obtain⟨_,_,_,_,d4,_⟩:=L8 NS;have MQ:=Hi NR;clear NR NS;go_wp2_with fail;refine(UI _ MQ).mono ?_;rintro e w7⟨rfl,rfl⟩;go_wp2;go_roundw
     case rel=>exact⟨k+1,by omega,by go_num,jM,Ls⟩
     case measure=>simp[intOf];omega
    ·obtain rfl:k=G.length:=(by omega);have HM:=Hi hm;have HU:=Hi hu;clear hm hu;have NR:=JZ _ _ HU (fun k e=>e);have NS:=(HU.block w.heap.size (Ao IZ) (fun e=>Gc.DI (t:=116) (e▸⟨_,_,IZ⟩))).trans IZ.out;have MQ:=Hi NR;have P9:=Hi NS;clear NR NS;go_wp2_with fail;refine(UI _ MQ).mono ?_;rintro e w7⟨rfl,rfl⟩;have F7:=Cz Cj HU (fun k e=>by subst e;exact OV.out) Cj.size;have Ex:=Hi F7;have Na:=aon (HD.below F7) MQ (by omega);rw[Lp.out] at Na;have Fh:=Hi Na;clear F7 Na;go_wp2_with fail;refine Fh.mono ?_;rintro e w9⟨rfl,fp9,gv9,g1,g2,g3,g4,g5⟩;have OY:=Hi (show ∀ k,w.heap.size≤k→¬ fp k from fun k hk e=>by have:=HD.lt _ e;omega);have hny:¬ (fp w.heap.size∨BZ x gv w.heap.size):=by
      rintro(e|e|e)
      ·exact OY _ (Ag _) e
      ·exact Bf.ne (⟨_,_,P9⟩:Bf _ w.heap.size 116) (e▸⟨_,_,MQ.struct⟩:Bf _ w.heap.size 224) (by decide) rfl
      ·obtain⟨cs',h1,_⟩:=MQ.groups;exact Bf.ne (⟨_,_,P9⟩:Bf _ w.heap.size 116) (Cx h1 e) (by decide) rfl
     have IJ:¬ (fp mb∨BZ x gv mb):=by
      rintro(e|e|e)
      ·exact OY _ OV e
      ·exact HM.DI (t:=224) (e▸⟨_,_,MQ.struct⟩)
      ·obtain⟨cs',h1,_⟩:=MQ.groups;exact HM.DI (Cx h1 e)
     have hy9:=(g3.block w.heap.size (Ao P9) hny).trans P9.out;have zY:=Hi hy9;have Sk:=Hi (HM.upd g3 IJ);have IX:=Hi g1;have D7:=Hi g2;have Hg:=Hi g3;have IY:=Hi g4;have JA:=Hi g5;have arn:=Hi HM.lt;clear g1 g2 g3 g4 g5 hny IJ hy9;obtain⟨_,_,_,_,_,d5,_,df⟩:=L8 zY.out;have TN:=df 5;clear df;go_wp2;go_ret2;have Bj:Dq fp fp9 w:=fun i hi=>(IY i hi).imp id (fun e=>Ay Ex.size e)
     refine⟨w.heap.size,mb,x,gv9,fp9,rfl,IX.upd ((A7.refl (fun k=>k=w.heap.size) _).setCell (p:=⟨w.heap.size,5,none⟩) (.inl rfl) _) (fun k hk e=>by subst e;exact IX.DI _ hk (by decide) (by decide) ⟨_,_,zY⟩),Dp.ofRaw zY Sk D7 (by omega) (by omega) (by omega) tZ,fun e=>(IY mb e).elim (OY _ OV) (fun f=>by have:=arn.out;omega),((A7.of_below Ex).trans Hg (fun i hi=>hi.elim .inl (fun e=>.inr (qR i e)))).setCell (p:=⟨w.heap.size,5,none⟩) (.inr (Ag _)) _,Bj,?_⟩;rintro k (rfl|rfl|hk)
     ·exact Ag _
     ·exact OV.out
     ·exact(JA k hk).elim (qR k) (fun e=>Ay Ex.size e)
  ·have e:=e.symm;subst e;by_cases h0:num=0
   ·subst h0;clear hng J6;go_wp2_with fail;refine dB.mono ?_;rintro e w5⟨v5,rfl,Qu,Bl,Uh⟩;obtain⟨q5,c5,rfl⟩:=Qu.aex;have JA:=Hi Qu;have Cj:=bH AX Bl;have IZ:=Hi ((Bl.block w.heap.size (Ao QX)).trans QX);have Gc:=Hi (VW.below Bl);have Lt:=Hi (TK.below Bl);obtain⟨es,ck,Po⟩:=Gc.is;have TC:=Hi Po
    have JZ:=Hi (show ∀ (F:Nat→Prop) (W:World),A7 F w5 W→(∀ k,F k→k=mb)→Cw W x b gv ⟨1,lg D.n,g,u,G,0⟩ from fun F W hu hF=>Lt.upd hu (fun k hk e=>by rw[hF k e] at hk;exact Gc.DI hk) (fun k hk e=>by
     rw[hF k e] at hk;rcases hk with h|h
     ·exact Gc.DI (t:=224) (h▸⟨_,_,Lt.struct⟩)
     ·obtain⟨cs',h1,_⟩:=Lt.groups;exact Gc.DI (Cx h1 h)))
    clear Qu Bl Uh Po QX VW TK dB;go_wp2
    go_loopw [9,10,11,75] (fun _ _ _ i wr=>∃ k:Nat,k≤G.length∧i=.int .i64 k∧CV wr mb (PE A (cs.take k))∧A7 (fun k=>k=mb) w5 wr) (fun _ _ _ i _=>G.length -(intOf i).toNat)
    case atStart=>exact⟨0,AV _,rfl,Gc,A7.refl _ _⟩
    case round=>
     obtain⟨k,hk,rfl,hm,hu⟩:=hrel;by_cases hlt:k < G.length
     ·have Vk:k < cs.length:=(by rw[Q8.1];exact hlt);obtain⟨p,Cn,ar,cr,hc,H9⟩:=JA.index k hlt;have Pm:wr.cell? p=some (.slice ar G[k].length cr):=(hu.cell (Cv hc) (bK hc TC)).trans hc
      have YL:Dz wr ar G[k]:=H9.upd hu (fun p' NP hne=>by
       obtain⟨p2,JM,h3⟩:=H9 0 (List.length_pos_iff.2 hne);rw[NP] at JM;injection JM with JM
       subst JM;have:=bK h3 TC;rwa[add_block] at this)
      have kY:=K7 _ (CK hlt);have Ht:=Q8.2 k hlt Vk;have N9:=aeO _ _ _ (Ag _) Ht;have Ij:=oN _ _ _ (Ag _) Ht;have Qt:=ab8 (cap:=cr) YL (by omega) (fun s hs=>by have:=kY.2 s hs;omega);unfold XW at Qt;rw[Ht] at Qt;have yZ:=Hi (amS A cs k Vk)
      have hlen:=amQ A (cs.take k) 1000000 (fun c hc=>by
       obtain⟨j,hj,rfl⟩:=Tp (List.mem_of_mem_take hc);have h1:=Q8.2 j (by rw[←Q8.1];exact hj) hj;have h2:=oN _ _ _ (Ag _) h1;have h3:=(K7 _ (CK (by rw[←Q8.1];exact hj:j < G.length))).1;omega)
      have Rh:(cs.take k).length≤20000:=(by rw[Bc];omega);have mG:(PE A (cs.take k)).length≤1000000000000000:=by
       refine Ay hlen ?_;have:(cs.take k).length*1000000≤20000*1000000:=PN _ Rh;omega
      have BQ:cs[k].length≤1000000:=(by omega);have TD:=Hi Qt;have JX:=Hi N9;have HM:=Hi hm;have HU:=Hi hu;have Li:=Hi mG;clear hc H9 YL Ht N9 Ij Qt hlen mG hm hu Rh;generalize G[k]=Gk at*;generalize cs[k]=ck at*;clear Vk;go_wp2_with fail;refine TD.mono ?_;rintro e w6⟨q6,c6,rfl,J9,Co⟩;have qf:=Hi (Eh.CR J9);have jM:=Hi (HM.below Co);have Ls:=Hi (HU.trans (A7.of_below (F:=fun k=>k=mb) Co) (fun i hi=>.inl hi));clear J9 Co Pm;have NR:=JZ _ _ Ls (fun k e=>e);have NS:=(Ls.block w.heap.size (Ao IZ) (fun e=>Gc.DI (t:=116) (e▸⟨_,_,IZ⟩))).trans IZ.out;obtain⟨_,_,_,_,d4,_⟩:=L8 NS;have MQ:=Hi NR;clear NR NS;go_wp2_with fail;refine(UI _ MQ).mono ?_;rintro e w7⟨rfl,rfl⟩;go_wp2_with fail
      refine(ab3 (cap:=c6) jM qf BQ Li (fun c hc=>by
       have:=JX c hc;unfold Am.may EX at this;simp at this;unfold maxLen;omega)).mono ?_
      rintro e w8⟨rfl,WS,QA⟩;have UL:=Hi WS;have jX:=Hi (Ls.trans QA (fun i hi=>.inl hi));clear WS QA d4;go_wp2;go_roundw
      case rel=>exact⟨k+1,by omega,by go_num,by rw[yZ.out];exact UL.out,jX⟩
      case measure=>simp[intOf];omega
     ·obtain rfl:k=G.length:=(by omega);have Jp:cs.take G.length=cs:=(by rw[←Q8.1,D5]);rw[Jp] at hm;have HM:=Hi hm;have HU:=Hi hu;clear Jp hm hu;have NR:=JZ _ _ HU (fun k e=>e);have NS:=(HU.block w.heap.size (Ao IZ) (fun e=>Gc.DI (t:=116) (e▸⟨_,_,IZ⟩))).trans IZ.out;have MQ:=Hi NR;have P9:=Hi NS;clear NR NS;go_wp2_with fail;refine(UI _ MQ).mono ?_;rintro e w7⟨rfl,rfl⟩;obtain⟨_,_,_,_,_,d5,_,df⟩:=L8 P9.out;have TN:=df 5;clear df;go_wp2;go_ret2;have F7:=Cz Cj HU (fun k e=>by subst e;exact OV.out) Cj.size;refine⟨w.heap.size,mb,x,gv,fp,rfl,(HD.below F7).upd ((A7.refl (fun k=>k=w.heap.size) _).setCell (p:=⟨w.heap.size,5,none⟩) (.inl rfl) _) (fun k hk e=>by subst e;have:=HD.lt _ hk;omega),Dp.ofRaw P9 HM MQ (by omega) (by omega) (by omega) tZ,fun e=>by have:=HD.lt _ e;have:=OV.out;omega,(A7.of_below F7).setCell (p:=⟨w.heap.size,5,none⟩) (.inr (Ag _)) _,fun _ h=>.inl h,?_⟩;rintro k (rfl|rfl|hk)
      ·exact Ag _
      ·exact OV.out
      ·exact qR k hk
   ·have h1:(0:Int) < (num:Int):=(by omega);have Jr:IntKind.u64.wrap ((num:Int) -1)=((num -1:Nat):Int):=by
     simp[IntKind.wrap,IntKind.bits,IntKind.signed];omega
    have EC:¬ g < num -1:=(by omega);have Dw:num≤g:=(by omega);clear hng J6 h0;go_wp2_with fail;refine(UI _ TK).mono ?_;rintro e w4'⟨rfl,rfl⟩;go_wp2_with fail;refine dB.mono ?_;rintro e w5⟨v5,rfl,Qu,Bl,Uh⟩;obtain⟨q5,c5,rfl⟩:=Qu.aex;have JA:=Hi Qu;have Cj:=bH AX Bl;have IZ:=Hi ((Bl.block w.heap.size (Ao QX)).trans QX);have Gc:=Hi (VW.below Bl);have Lt:=Hi (TK.below Bl);obtain⟨es,ck,Po⟩:=Gc.is;have TC:=Hi Po
    have JZ:=Hi (show ∀ (F:Nat→Prop) (W:World),A7 F w5 W→(∀ k,F k→k=mb)→Cw W x b gv ⟨1,lg D.n,g,u,G,0⟩ from fun F W hu hF=>Lt.upd hu (fun k hk e=>by rw[hF k e] at hk;exact Gc.DI hk) (fun k hk e=>by
     rw[hF k e] at hk;rcases hk with h|h
     ·exact Gc.DI (t:=224) (h▸⟨_,_,Lt.struct⟩)
     ·obtain⟨cs',h1,_⟩:=Lt.groups;exact Gc.DI (Cx h1 h)))
    clear Qu Bl Uh Po QX VW TK dB;go_wp2
    go_loopw [9,10,11,75] (fun _ _ _ i wr=>∃ k:Nat,k≤G.length∧i=.int .i64 k∧CV wr mb (PE A (cs.take k))∧A7 (fun k=>k=mb) w5 wr) (fun _ _ _ i _=>G.length -(intOf i).toNat)
    case atStart=>exact⟨0,AV _,rfl,Gc,A7.refl _ _⟩
    case round=>
     obtain⟨k,hk,rfl,hm,hu⟩:=hrel;by_cases hlt:k < G.length
     ·have Vk:k < cs.length:=(by rw[Q8.1];exact hlt);obtain⟨p,Cn,ar,cr,hc,H9⟩:=JA.index k hlt;have Pm:wr.cell? p=some (.slice ar G[k].length cr):=(hu.cell (Cv hc) (bK hc TC)).trans hc
      have YL:Dz wr ar G[k]:=H9.upd hu (fun p' NP hne=>by
       obtain⟨p2,JM,h3⟩:=H9 0 (List.length_pos_iff.2 hne);rw[NP] at JM;injection JM with JM
       subst JM;have:=bK h3 TC;rwa[add_block] at this)
      have kY:=K7 _ (CK hlt);have Ht:=Q8.2 k hlt Vk;have N9:=aeO _ _ _ (Ag _) Ht;have Ij:=oN _ _ _ (Ag _) Ht;have Qt:=ab8 (cap:=cr) YL (by omega) (fun s hs=>by have:=kY.2 s hs;omega);unfold XW at Qt;rw[Ht] at Qt;have yZ:=Hi (amS A cs k Vk)
      have hlen:=amQ A (cs.take k) 1000000 (fun c hc=>by
       obtain⟨j,hj,rfl⟩:=Tp (List.mem_of_mem_take hc);have h1:=Q8.2 j (by rw[←Q8.1];exact hj) hj;have h2:=oN _ _ _ (Ag _) h1;have h3:=(K7 _ (CK (by rw[←Q8.1];exact hj:j < G.length))).1;omega)
      have Rh:(cs.take k).length≤20000:=(by rw[Bc];omega);have mG:(PE A (cs.take k)).length≤1000000000000000:=by
       refine Ay hlen ?_;have:(cs.take k).length*1000000≤20000*1000000:=PN _ Rh;omega
      have BQ:cs[k].length≤1000000:=(by omega);have TD:=Hi Qt;have JX:=Hi N9;have HM:=Hi hm;have HU:=Hi hu;have Li:=Hi mG;clear hc H9 YL Ht N9 Ij Qt hlen mG hm hu Rh;generalize G[k]=Gk at*;generalize cs[k]=ck at*;clear Vk;go_wp2_with fail;refine TD.mono ?_;rintro e w6⟨q6,c6,rfl,J9,Co⟩;have qf:=Hi (Eh.CR J9);have jM:=Hi (HM.below Co);have Ls:=Hi (HU.trans (A7.of_below (F:=fun k=>k=mb) Co) (fun i hi=>.inl hi));clear J9 Co Pm;have NR:=JZ _ _ Ls (fun k e=>e);have NS:=(Ls.block w.heap.size (Ao IZ) (fun e=>Gc.DI (t:=116) (e▸⟨_,_,IZ⟩))).trans IZ.out;obtain⟨_,_,_,_,d4,_⟩:=L8 NS;have MQ:=Hi NR;clear NR NS;go_wp2_with fail;refine(UI _ MQ).mono ?_;rintro e w7⟨rfl,rfl⟩;go_wp2_with fail
      refine(ab3 (cap:=c6) jM qf BQ Li (fun c hc=>by
       have:=JX c hc;unfold Am.may EX at this;simp at this;unfold maxLen;omega)).mono ?_
      rintro e w8⟨rfl,WS,QA⟩;have UL:=Hi WS;have jX:=Hi (Ls.trans QA (fun i hi=>.inl hi));clear WS QA d4;go_wp2;go_roundw
      case rel=>exact⟨k+1,by omega,by go_num,by rw[yZ.out];exact UL.out,jX⟩
      case measure=>simp[intOf];omega
     ·obtain rfl:k=G.length:=(by omega);have Jp:cs.take G.length=cs:=(by rw[←Q8.1,D5]);rw[Jp] at hm;have HM:=Hi hm;have HU:=Hi hu;clear Jp hm hu;have NR:=JZ _ _ HU (fun k e=>e);have NS:=(HU.block w.heap.size (Ao IZ) (fun e=>Gc.DI (t:=116) (e▸⟨_,_,IZ⟩))).trans IZ.out;have MQ:=Hi NR;have P9:=Hi NS;clear NR NS;go_wp2_with fail;refine(UI _ MQ).mono ?_;rintro e w7⟨rfl,rfl⟩;obtain⟨_,_,_,_,_,d5,_,df⟩:=L8 P9.out;have TN:=df 5;clear df;go_wp2;go_ret2;have F7:=Cz Cj HU (fun k e=>by subst e;exact OV.out) Cj.size;refine⟨w.heap.size,mb,x,gv,fp,rfl,(HD.below F7).upd ((A7.refl (fun k=>k=w.heap.size) _).setCell (p:=⟨w.heap.size,5,none⟩) (.inl rfl) _) (fun k hk e=>by subst e;have:=HD.lt _ hk;omega),Dp.ofRaw P9 HM MQ (by omega) (by omega) (by omega) tZ,fun e=>by have:=HD.lt _ e;have:=OV.out;omega,(A7.of_below F7).setCell (p:=⟨w.heap.size,5,none⟩) (.inr (Ag _)) _,fun _ h=>.inl h,?_⟩;rintro k (rfl|rfl|hk)
      ·exact Ag _
      ·exact OV.out
      ·exact qR k hk
end
namespace Ah
theorem atn(k:T)(F:M):((del k F).map cost).sum≤(F.map cost).sum:=by
 unfold del
 induction F with
 |nil=>simp
 |cons p F ih=>
  rw[List.filter_cons];split
  ·simp only[Ce,DY];omega
  ·simp only[Ce,DY];omega
theorem aDJ{F:M}(hu:Up F)(c:Am):used (Am.on F c)≤used F+(8+c.name.length+c.data.length):=by
 unfold Am.on used;have hd:=atn c.name F;split
 ·omega
 ·have hp:=((bP (v:=c.data) hu c.name).map cost).sum_nat;rw[hp,Ce,DY];have:cost (c.name,c.data)=8+c.name.length+c.data.length:=rfl;omega
def Ff(l:List Am):Nat:=(l.map fun c=>8+c.name.length+c.data.length).sum
theorem aq9{l:List Am}{c:Am}(h:c∈l):8+c.name.length+c.data.length≤Ff l:=by
 unfold Ff
 induction l with
 |nil=>simp at h
 |cons x l ih=>
  rw[Ce,DY];rcases Ch.1 h with rfl|h
  ·omega
  ·have:=ih h;omega
theorem VF{F:M}(hu:Up F)(l:List Am):used (made F l)≤used F+Ff l:=by
 induction l generalizing F with
 |nil=>exact Nat.le_add_right _ _
 |cons c l ih=>
  have h1:=ih (hu.on c);have h2:=aDJ hu c
  show used (made (Am.on F c) l)≤_
  unfold Ff at h1 ⊢;rw[Ce,DY];omega
theorem aj1(l:List Am):rowLen (group l)≤2+Ff l:=by
 unfold rowLen Ff group
 induction l with
 |nil=>simp
 |cons c l ih=>
  simp only[PL,CQ,LX,Ce,DY,Kw,List.sum_nil,BM] at ih ⊢;omega
def Cy(n:Nat):Nat:=sz n*64 -4
def FB(n:Nat)(A:M)(l:List Am):Int:=if l.all Am.may=false then 2 else if Cy n < used (made A l) then 4 else 0
def Ep(n:Nat)(A:M)(l:List Am):M:=if l.all Am.may=true∧used (made A l)≤Cy n then made A l else A
end Ah
section
open Go.RowKit Go.Maps
open Ah
def Gn(fz:Bool)(w:World)(b y:Nat)(bl:Nat→Prop)(n N:Nat)(A:M):Prop:=
 ∃ D fp m x gv F,BP w b D fp∧Dp w y b m x gv F∧¬ fp m∧Ah.Calm D F∧(fz=false→D.left= -1)∧D.n=n∧F.w.gen≤N∧F.m=A∧(∀ k,fp k∨WA y m x gv k→bl k)
abbrev Tw:=Gn false
def nH:List TypeId:=[144,242,116,224,61]
def I8(w:World)(bl:Nat→Prop)(k:Nat):Prop:=bl k∧∀ t,Bf w k t→t∈nH
theorem I8.not{w:World}{bl:Nat→Prop}{k:Nat}{t:TypeId}(h:I8 w bl k)(hb:Bf w k t)(ht:t∉nH):False:=ht (h.2 t hb)
section
variable {w w':World}{b y:Nat}{bl:Nat→Prop}{n N:Nat}{A:M}{fz:Bool}
theorem Gn.upd{P:Nat→Prop}(h:Gn fz w b y bl n N A)(hu:A7 P w w')(hs:∀ k,Bf w k 9→¬ P k)(hP:∀ k,bl k→¬ P k):Gn fz w' b y bl n N A:=by
 obtain⟨D,fp,m,x,gv,F,h1,h2,h3,h4,h5,h6,h7,h8,h9⟩:=h;exact⟨D,fp,m,x,gv,F,h1.upd hu (fun k hk=>hP k (h9 k (.inl hk))),h2.upd hu hs (fun k hk=>hP k (h9 k (.inr hk))),h3,h4,h5,h6,h7,h8,h9⟩
theorem Gn.below(h:Gn fz w b y bl n N A)(hb:Bw w w'):Gn fz w' b y bl n N A:=h.upd (ub hb) (fun _ _ f=>f) (fun _ _ f=>f)
theorem Gn.more{N':Nat}(h:Gn fz w b y bl n N A)(hN:N≤N'):Gn fz w b y bl n N' A:=by
 obtain⟨D,fp,m,x,gv,F,h1,h2,h3,h4,h5,h6,h7,h8,h9⟩:=h;exact⟨D,fp,m,x,gv,F,h1,h2,h3,h4,h5,h6,by omega,h8,h9⟩
theorem Gn.up(h:Gn fz w b y bl n N A):Up A∧Ah.Good A∧used A≤Cy n∧8≤n∧n≤16384:=by
 obtain⟨D,fp,m,x,gv,F,h1,h2,h3,h4,h5,h6,h7,h8,h9⟩:=h;subst h8 h6;refine⟨h4.up,h4.good,?_,h4.n8,h4.disk.fine.n2⟩;have:=h4.room;unfold St.room at this;rw[h4.size] at this;exact this
theorem bU{n:Nat}(h:n≤16384):Cy n≤524288:=by unfold Cy sz lg;omega
theorem anj{D:A8}{fp:Nat→Prop}{m x:Nat}{gv:Value}{F:St}(hd:BP w b D fp)(hf:Dp w y b m x gv F)(h9:∀ k,fp k∨WA y m x gv k→bl k)(k:Nat)(hk:fp k∨k=y∨BZ x gv k):I8 w bl k:=by
 refine⟨h9 k (hk.imp id (fun e=>e.elim .inl (fun e=>.inr (.inr e)))),fun t hb=>?_⟩;unfold nH;rcases hk with e|e|e
 ·by_cases h1:t=144
  ·subst h1;simp
  ·by_cases h2:t=242
   ·subst h2;simp
   ·exact(hd.DI _ e h1 h2 hb).elim
 ·subst e;by_cases h1:t=116
  ·subst h1;simp
  ·exact(Bf.ne hb hf.blk h1 rfl).elim
 ·rcases hf.Ed.kind e with g|g
  ·by_cases h1:t=224
   ·subst h1;simp
   ·exact(Bf.ne hb g h1 rfl).elim
  ·by_cases h1:t=61
   ·subst h1;simp
   ·exact(Bf.ne hb g h1 rfl).elim
theorem A7.noS{bl:Nat→Prop}(hu:A7 (I8 w bl) w w'){k:Nat}{t:TypeId}{cs:Array Value}{fr:Nat×Nat}(h:w.heap[k]?=some (.cells cs t fr))(ht:t∉nH):w'.heap[k]?=some (.cells cs t fr):=
 (hu.block k (Ao h) (fun e=>e.not ⟨_,_,h⟩ ht)).trans h
theorem aj3{D:A8}{F:St}(h:Ah.Calm D F):F.w.groups.length≤20000:=by
 have hw:=h.Ed;unfold logAt at hw;obtain⟨g1,g2,g3⟩:=bE h.n8;rw[h.Uw,h.wn,h.log,←h.disk.now] at hw;exact(amK h.disk.fine (by omega) (by omega) hw).2.1
def jb(w:World)(b y:Nat)(bl:Nat→Prop)(n N:Nat)(A A':M):Prop:=
 ∃ D fp m x gv F,BP w b D fp∧Dp w y b m x gv F∧¬ fp m∧F.fault=40∧D.loose.length≤100000000∧D.n=n∧(Ah.Good A∧used A≤Cy n∧n≤16384)∧F.m=A∧(∀ keep,∃ F' D',r9 (D.Od keep) F' D'∧D'.left= -1∧F'.w.gen≤N∧(F'.m=A∨F'.m=A'))∧(∀ k,fp k∨WA y m x gv k→bl k)
def cZ(fz:Bool)(w:World)(b y:Nat)(bl:Nat→Prop)(n N:Nat)(A:M)(r:Int×M)(c:Int):Prop:=
 (c=r.1∧Gn fz w b y bl n N r.2)∨(fz=true∧c=40∧r.1=0∧jb w b y bl n N A r.2)
theorem cZ.calm{r:Int×M}{c:Int}(h:cZ false w b y bl n N A r c):c=r.1∧Tw w b y bl n N r.2:=by
 rcases h with h|⟨h,_⟩
 ·exact h
 ·cases h
theorem aaM(l:List (A8→A8×Int))(D:A8)(h:∀ f∈l,∀ D,(f D).1.loose.length≤D.loose.length+1000000)(hl:l.length≤4):(BA l D).1.loose.length≤D.loose.length+4000000:=by
 have:=ahS 1000000 l D h;omega
theorem aBl(D:A8)(L:BI):(DX D L).1.loose.length≤D.loose.length+4000000:=by
 have hd:=aaM L.Mw D (fun f hf D=>by
  unfold BI.Mw at hf;simp only[Ch,List.not_mem_nil,or_false] at hf;rcases hf with rfl|rfl
  ·have:=A8.Ux D (L.from_:Int) (Aw.mark ((L.gen+1) % 18446744073709551616) 0);rw[Aw.OA] at this
   show(D.write (L.from_:Int) (Aw.mark ((L.gen+1) % 18446744073709551616) 0)).1.loose.length≤_
   omega
  ·have:=A8.V7 D;omega) (by show 2≤4;omega)
 unfold DX;split
 ·show D.loose.length≤_;omega
 ·split<;>exact hd
theorem ast(D:A8)(L:BI)(l:List T)(hl:rowLen l≤10000000):(DN D L l).1.loose.length≤D.loose.length+4000000:=by
 unfold DN;split
 ·show D.loose.length≤_;omega
 ·split
  ·show D.loose.length≤_;omega
  ·rename_i s hs
   have FU:s.length≤rowLen l+68:=by
    have:=abm l;unfold Kc at this;rw[hs] at this;exact this
   have hd:=aaM (L.acts s) D (fun f hf D=>by
    unfold BI.acts at hf;simp only[Ch,List.not_mem_nil,or_false] at hf;rcases hf with rfl|rfl|rfl|rfl
    ·have:=A8.Ux D ((L.from_+1+L.used:Nat):Int) s
     show(D.write ((L.from_+1+L.used:Nat):Int) s).1.loose.length≤_
     omega
    ·have:=A8.V7 D;omega
    ·have:=A8.Ux D (L.from_:Int) (Aw.mark L.gen (L.used+s.length / 64));rw[Aw.OA] at this
     show(D.write (L.from_:Int) (Aw.mark L.gen (L.used+s.length / 64))).1.loose.length≤_
     omega
    ·have:=A8.V7 D;omega) (by show 4≤4;omega)
   split
   ·show D.loose.length≤_;omega
   ·split<;>exact hd
theorem az1(D:A8)(F:St)(m:M)(hu:used m≤10000000):(PD D F m).1.loose.length≤D.loose.length+8000000:=by
 have ha:=agR m
 have hd:=aaM (Ik F m) D (fun f hf D=>by
  unfold Ik at hf;simp only[Ch,List.not_mem_nil,or_false] at hf;rcases hf with rfl|rfl|rfl|rfl
  ·have:=A8.Ux D ((D9 F.log F.size (1 -F.AL):Nat):Int) (R3 m)
   show(D.write ((D9 F.log F.size (1 -F.AL):Nat):Int) (R3 m)).1.loose.length≤_
   omega
  ·have:=A8.V7 D;omega
  ·have:=A8.Ux D ((0:Nat):Int) (Ah.mark (1 -F.AL) ((F.w.gen+1) % 18446744073709551616));rw[Ah.OA] at this
   show(D.write ((0:Nat):Int) (Ah.mark (1 -F.AL) ((F.w.gen+1) % 18446744073709551616))).1.loose.length≤_
   omega
  ·have:=A8.V7 D;omega) (by show 4≤4;omega)
 have hr:=aBl (BA (Ik F m) D).1 F.w;unfold PD;split
 ·split
  ·show(DX (BA (Ik F m) D).1 F.w).1.loose.length≤_;omega
  ·show(DX (BA (Ik F m) D).1 F.w).1.loose.length≤_;omega
 ·show(BA (Ik F m) D).1.loose.length≤_;omega
theorem aaB(D:A8)(F:St)(l:List Am)(h1:rowLen (group l)≤10000000)(h2:used (made F.m l)≤10000000):(Kb D F l).1.loose.length≤D.loose.length+8000000:=by
 have ha:=ast D F.w (group l) h1;have hl:=az1 D F (made F.m l) h2;unfold Kb;split
 ·show D.loose.length≤_;omega
 ·split
  ·show D.loose.length≤_;omega
  ·split
   ·show D.loose.length≤_;omega
   ·split
    ·split
     ·show(DN D F.w (group l)).1.loose.length≤_;omega
     ·show(DN D F.w (group l)).1.loose.length≤_;omega
    ·exact hl
theorem ab4{a:Option Addr}{cap:Nat}{l:List Am}(h:Gn fz w b y bl n N A)(hN:N < 1000000000)(hL:Eh w a l)(hlen:l.length≤100000)(hw:Ff l≤900000):
  Calls prog 17 #[y,.slice a l.length cap] w fun e w'=>∃ c:Int,e=.returned (.int .i64 c)∧∃ CY,cZ fz w' b y CY n (N+1) A (FB n A l,Ep n A l) c∧A7 (I8 w bl) w w'∧∀ k,CY k→bl k∨w.heap.size≤k:=by
 have DF:=h.up;obtain⟨D,fp,m,x,gv,F,h1,h2,h3,h4,h5,h6,h7,h8,h9⟩:=h;have hok:∀ c∈l,c.name.length≤1000000∧c.data.length≤maxLen:=fun c hc=>by
  have:=aq9 hc;unfold maxLen;omega
 have Jo:=bU DF.2.2.2.2;have FL:=VF DF.1 l;have G7:F.room=Cy n:=by unfold St.room Cy;rw[h4.size,h6]
 have hgw:=aj1 l;have Ij:=RV A;have Ih:D.loose.length=0:=by rw[h4.disk.loose];rfl
 have FU:=aaB D F l (by omega) (by rw[h8];omega);have key:Calls prog 17 #[y,.slice a l.length cap] w fun e w'=>Tv w y b m x gv fp (Kb D F l) e w':=by
  by_cases hall:l.all Am.may=true
  ·exact ai4 h1 h2 h3 hL hlen hok h4.good (by rw[h8];omega) (by rw[h8];omega) (by rw[h4.size];have:=h4.disk.fine.n2;unfold sz;omega) (by omega) (by omega) (by have:=aj3 h4;omega) h4.fault hall
  ·exact ai3 h1 h2 h3 hL hlen (fun c hc=>⟨Ay (hok c hc).1 (by unfold maxLen;omega),(hok c hc).2⟩) h4.fault (by simpa using hall)
 refine key.mono ?_;rintro e w'⟨m',⟨he,fp',FH,p1,p2,p3,p4,p5,p6⟩,YE⟩;refine⟨_,he,fun k=>bl k∨w.heap.size≤k,?_,p4.mono (fun k hk=>anj h1 h2 h9 k hk),fun k hk=>hk⟩;have Ct:∀ k,fp' k∨WA y m' x FH k→bl k∨w.heap.size≤k:=by
  rintro k (hk|hk|hk|hk)
  ·exact(p5 k hk).imp (fun e=>h9 k (.inl e)) id
  ·exact .inl (h9 k (.inr (.inl hk)))
  ·subst hk;exact YE.imp (fun e=>h9 _ (.inr (.inr (.inl e)))) id
  ·exact(p6 k hk).imp (fun e=>h9 k (.inr (.inr (.inr e)))) id
 by_cases hall:l.all Am.may=true
 ·by_cases hr:used (made F.m l)≤F.room
  ·have hc:=aho h4 (by omega) hall hr;have U0:FB n A l=0:=(by unfold FB;rw[A9 (by simp[hall]),A9 (by rw[←h8,←G7];omega)]);have Mh:Ep n A l=made A l:=(by unfold Ep;rw[Ae ⟨hall,by rw[←h8,←G7];exact hr⟩]);rw[U0,Mh];rcases hc.out with⟨o1,o2,o3,o4,o5⟩|⟨o1,o2,o3,o4,o5,o6⟩
   ·exact .inl ⟨o1,_,fp',m',x,FH,_,p1,p2,p3,o2,fun e=>o5 (h5 e),hc.n.trans h6,by omega,by rw[←h8];exact o3,Ct⟩
   ·refine .inr ⟨?_,o1,rfl,_,fp',m',x,FH,_,p1,p2,p3,o3,by omega,hc.n.trans h6,⟨DF.2.1,DF.2.2.1,DF.2.2.2.2⟩,o4.trans h8,fun keep=>?_,Ct⟩
    ·cases fz with
     |false=>exact absurd (h5 rfl) o2
     |true=>rfl
    ·obtain⟨F',D',q1,q2,q3,q4⟩:=o6 keep;exact⟨F',D',q1,q2,by omega,by rw[←h8];exact q4⟩
  ·have e1:Kb D F l=(D,F,4):=by
    unfold Kb;rw[A9 (by simp[h4.fault]),A9 (by simp[hall]),Ae (by omega)]
   have U0:FB n A l=4:=(by unfold FB;rw[A9 (by simp[hall]),Ae (by rw[←h8,←G7];omega)]);have Mh:Ep n A l=A:=(by unfold Ep;rw[A9 (fun e=>hr (by rw[h8,G7];exact e.2))]);rw[e1] at p1 p2 ⊢;rw[U0,Mh];exact .inl ⟨rfl,D,fp',m',x,FH,F,p1,p2,p3,h4,h5,h6,by omega,h8,Ct⟩
 ·have Ho:l.all Am.may=false:=by simpa using hall
  have e1:Kb D F l=(D,F,2):=by
   unfold Kb;rw[A9 (by simp[h4.fault]),Ae Ho]
  have U0:FB n A l=2:=by unfold FB;rw[Ae Ho]
  have Mh:Ep n A l=A:=by unfold Ep;rw[A9 (fun e=>hall e.1)]
  rw[e1] at p1 p2 ⊢;rw[U0,Mh];exact .inl ⟨rfl,D,fp',m',x,FH,F,p1,p2,p3,h4,h5,h6,by omega,h8,Ct⟩
theorem av7{a:Option Addr}{cap:Nat}{l:List Am}(h:Tw w b y bl n N A)(hN:N < 1000000000)(hL:Eh w a l)(hlen:l.length≤100000)(hw:Ff l≤900000):
  Calls prog 17 #[y,.slice a l.length cap] w fun e w'=>e=.returned (.int .i64 (FB n A l))∧∃ CY,Tw w' b y CY n (N+1) (Ep n A l)∧A7 (I8 w bl) w w'∧∀ k,CY k→bl k∨w.heap.size≤k:=
 (ab4 h hN hL hlen hw).mono fun e w' ⟨c,he,CY,g1,g2⟩=>by
  obtain⟨rfl,g3⟩:=g1.calm;exact⟨he,CY,g3,g2⟩
theorem ava{D D':A8}{fp:Nat→Prop}{F:St}(hd:BP w b D fp)(h:r9 D F D')(akX:D'.left= -1)(Ih:D.loose.length≤300000000)(hN:F.w.gen≤N):
  Calls prog 25 #[b] w fun e w'=>∃ y CY,e=.returned (.tuple #[.pointer (some ⟨y,0,none⟩),.int .i64 0])∧Tw w' b y CY D.n N F.m∧A7 fp w w'∧(∀ k,CY k→fp k∨w.heap.size≤k)∧w.heap.size≤y:=
 (auV hd h.1 Ih).mono (by
  rintro e w'⟨y,m,x,gv,fp',rfl,p1,p2,p3,p4,p5,p6⟩;refine⟨y,fun k=>fp k∨w.heap.size≤k,rfl,⟨D',fp',m,x,gv,F,p1,p2,p3,h.2.1,fun _=>akX,h.2.2,hN,rfl,?_⟩,p4,fun k hk=>hk,p6 y (.inl rfl)⟩;rintro k (hk|hk)
  ·exact p5 k hk
  ·exact .inr (p6 k hk))
theorem av9(n:Nat)(hn:8≤n)(GJ:n≤16384){fp:Nat→Prop}(hd:BP w b (A8.new n) fp):
  Calls prog 25 #[b] w fun e w'=>∃ y CY,e=.returned (.tuple #[.pointer (some ⟨y,0,none⟩),.int .i64 0])∧Tw w' b y CY n 0 []∧A7 fp w w'∧(∀ k,CY k→fp k∨w.heap.size≤k)∧w.heap.size≤y:=
 ava (N:=0) hd (Ah.Calm.new hn GJ).opens rfl (by show(0:Nat)≤_;omega) (Ag 0)
theorem aiy(h:Gn fz w b y bl n N A)(k:T)(hk:k.length≤maxLen):
  Calls prog 16 #[y,k] w fun e w'=>e=.returned (.tuple #[((Ah.get A k).getD []),.bool (Ah.get A k).isSome])∧Gn fz w' b y bl n N A∧Bw w w':=by
 have h0:=h;obtain⟨D,fp,m,x,gv,F,h1,h2,h3,h4,h5,h6,h7,h8,h9⟩:=h;refine(aum h2 k hk).mono ?_;rintro e w'⟨rfl,hb⟩;rw[h8];exact⟨rfl,h0.below hb,hb⟩
theorem av8(h:Gn fz w b y bl n N A):
  Calls prog 28 #[y] w fun e w'=>∃ v,e=.returned v∧w'.ownsRow 0 9 1 v A.length (strCells (A.map (·.1)))∧Gn fz w' b y bl n N A∧Bw w w'∧∀ k,v.ownBlock=some k→w.heap.size≤k:=by
 have h0:=h;have DF:=h.up;have Jo:=bU DF.2.2.2.2;have Ij:=RV A;obtain⟨D,fp,m,x,gv,F,h1,h2,h3,h4,h5,h6,h7,h8,h9⟩:=h;refine(auM h2 h4.good (by rw[h8];omega)).mono ?_;rw[h8];rintro e w'⟨v,rfl,p1,p2,p3⟩;exact⟨v,rfl,p1,h0.below p2,p2,p3⟩
theorem rO{W:World}{g:Nat}{c:Am}(h:W.heap[g]?=some (.cells #[c.name,c.data,c.gone] 57)):Eh W (some ⟨g,0,none⟩) [c]:=fun i hi=>by
 obtain rfl:i=0:=by simpa using hi
 refine⟨⟨g,0,none⟩,rfl,?_⟩;constructor
 ·rw[add_plain,add_plain,BJ W g _ _ _ _ h];rfl
 ·rw[add_plain,add_plain,BJ W g _ _ _ _ h];rfl
 ·rw[add_plain,add_plain,BJ W g _ _ _ _ h];rfl
end
end
section
open Go.RowKit Go.Maps
open Ah
theorem Gn.shrink{w:World}{b y:Nat}{bl:Nat→Prop}{n N:Nat}{A:M}{fz:Bool}(h:Gn fz w b y bl n N A):Gn fz w b y (fun k=>bl k∧k < w.heap.size) n N A:=by
 obtain⟨D,fp,m,x,gv,F,h1,h2,h3,h4,h5,h6,h7,h8,h9⟩:=h;exact⟨D,fp,m,x,gv,F,h1,h2,h3,h4,h5,h6,h7,h8,fun k hk=>⟨h9 k hk,hk.elim (h1.lt k) (h2.lt k)⟩⟩
def Wo(B:Nat)(w0 w:World)(b y n N:Nat)(A:M)(X:Nat→Prop):Prop:=Below B w0 w∧B≤w.heap.size∧(∀ k,X k→k < w.heap.size)∧∃ bl,Tw w b y bl n N A∧∀ k,bl k→B≤k∧¬ X k
def Kept(X:Nat→Prop)(w w':World):Prop:=∀ k,X k→w'.heap[k]?=w.heap[k]?
section
variable {B:Nat}{w0 w w':World}{b y n N:Nat}{A:M}{X:Nat→Prop}
theorem Wo.step(h:Wo B w0 w b y n N A X)(hb:Bw w w'):Wo B w0 w' b y n N A X:=by
 obtain⟨h1,h2,hx,bl,h3,h4⟩:=h;exact⟨h1.trans (hb.mono h2),Ay h2 hb.size,fun k hk=>Ip (hx k hk) hb.size,bl,h3.below hb,h4⟩
theorem Wo.turn{bl CY:Nat→Prop}{A':M}{N' y':Nat}(h1:Below B w0 w)(h2:B≤w.heap.size)(hx:∀ k,X k→k < w.heap.size)(h4:∀ k,bl k→B≤k∧¬ X k)(g:Tw w' b y' CY n N' A')(hu:A7 (I8 w bl) w w')(hs:∀ k,CY k→bl k∨w.heap.size≤k):Wo B w0 w' b y' n N' A' X∧Kept X w w':=
 ⟨⟨Cz h1 hu (fun k hk=>(h4 k hk.1).1) h2,Ay h2 hu.size,fun k hk=>Ip (hx k hk) hu.size,CY,g,fun k hk=>(hs k hk).elim (h4 k) (fun e=>⟨Ay h2 e,fun f=>by have:=hx k f;omega⟩)⟩,
  fun k hk=>hu.block k (hx k hk) (fun f=>(h4 k f.1).2 hk)⟩
end
theorem azY{w:World}(n:Nat)(h1:1≤n)(h2:n≤16384):
  Calls prog 90 #[.int .i64 n] w fun e w'=>∃ b fp,e=.returned (.tuple #[.pointer (some ⟨b,0,none⟩),.int .i64 0])∧BP w' b (A8.new n) fp∧Bw w w'∧∀ k,fp k→w.heap.size≤k:=azZ n w h1 h2
def MyF(B:Nat)(w0 w:World)(b y n N:Nat)(A:M):Prop:=Below B w0 w∧B≤w.heap.size∧∃ bl,Tw w b y bl n N A∧∀ k,bl k→B≤k
section
variable {B:Nat}{w0 w w':World}{b y n N:Nat}{A:M}
theorem azS{fp:Nat→Prop}(h1:Below B w0 w)(h2:B≤w.heap.size)(hn:8≤n)(GJ:n≤16384)(hd:BP w b (A8.new n) fp)(hf:∀ k,fp k→B≤k):
  Calls prog 25 #[b] w fun e w'=>∃ y,e=.returned (.tuple #[.pointer (some ⟨y,0,none⟩),.int .i64 0])∧MyF B w0 w' b y n 0 []:=by
 refine(av9 n hn GJ hd).mono ?_;rintro e w'⟨y,CY,rfl,g1,g2,g3,_⟩;exact⟨y,rfl,Cz h1 g2 hf h2,Ay h2 g2.size,CY,g1,fun k hk=>(g3 k hk).elim (hf k) (fun e=>Ay h2 e)⟩
theorem AQ(w:World)(o:Obj):Bw w (w.alloc o):=(Ai _ _).alloc (Ag _) _
