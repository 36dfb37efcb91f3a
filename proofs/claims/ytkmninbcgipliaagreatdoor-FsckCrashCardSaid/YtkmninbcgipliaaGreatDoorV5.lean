/- FilCommit FilOpenW -/
import Derived.Test.YtkmninbcgipliaaGreatDoorV4
set_option maxHeartbeats 8000000
set_option maxRecDepth 100000
set_option linter.all false
namespace Go.Proofs.YtkmninbcgipliaaGreatDoor
open Tryz
open Go.RowKit
open Go.Maps
section
open Ag
theorem CO.arz{w:World}{m:Nat}{F:M}(h:CO w m F):∃ es clock,w.heap[m]?=some (.map es clock)∧CO (w.alloc (.map es clock)) w.heap.size F:=by
 obtain⟨hu,kv,hp,⟨hn,D,⟨es,clock,hb,G,hs,hD⟩,rest⟩⟩:=h;exact⟨es,clock,hb,hu,kv,hp,⟨hn,D,⟨es,clock,(MapKept.heap_alloc w _).1,G,hs,hD⟩,rest⟩⟩
theorem asB(w:World)(p:Option Nat):(binOp .eql 113 (.map p) (.map none)).run prog w=.ok (.bool p.isNone) w:=by
 have h:∀ d,(Op.equalIn (d+1) 113 (.map p) (.map none)).run prog w=.ok p.isNone w:=fun d=>by
  cases p<;>simp[Op.equalIn,Hd underlying113]
 simp only[binOp];simp[show Op.equal 113 (.map p) (.map none)=Op.equalIn (9999+1) 113 (.map p) (.map none) from rfl,h 9999]
theorem asJ(w:World)(m:Nat)(es:Array MapEntry)(clock:Nat)(hb:w.heap[m]?=some (.map es clock)):
  Calls prog 55 #[.map (some m)] w fun e w'=>e=.returned (.map (some w.heap.size))∧w'=w.alloc (.map es clock):=by
 have hq:=fun w=>asB w (some m)
 have avv:(Extern.MapsClone.clone #[.iface 113 (.map (some m))]).run prog w=.ok (.iface 113 (.map (some w.heap.size))) (w.alloc (.map es clock)):=by
  have e:Extern.MapsClone.clone #[.iface 113 (.map (some m))]=(getObj m >>= fun o=>match o with
    | .map entries clock=>(newObj (.map entries clock) >>= fun n=>pure (.iface 113 (.map (some n))))
    |_=>stuck "maps.clone: a map expected"):=rfl
  rw[e];simp[MapKept.run_getObj_map hb,Result.andThen,go_sem]
 have hta:∀ W,(Instr.typeAssert (.iface 113 (.map (some w.heap.size))) 20 113 false).run prog W=.ok (.map (some w.heap.size)) W:=fun W=>by
  simp[Instr.typeAssert,Hd underlying113,go_sem,Result.andThen]
 go_in
 have K9:=run_callFunc_extern (P:=prog) func133 (by kernel_rfl) (by kernel_rfl) (by kernel_rfl) (e:=Extern.MapsClone.clone) (by kernel_rfl) #[.iface 113 (.map (some m))] w;rw[avv] at K9;simp only[Result.andThen] at K9;go_wp2;go_ret;exact⟨rfl,rfl⟩
theorem asG(name data:T)(gone:Bool)(w:World)(hn:name.length≤maxLen)(hd:data.length≤maxLen):
  Calls prog 53 #[.agg #[.string (bs name),.string (bs data),.bool gone]] w fun e w'=>e=.returned (.bool (!Am.may ⟨name,data,gone⟩))∧Bw w w':=by
 have HM:=Hi (fun(V:World)=>qD name data gone V hn hd);generalize Am.may ⟨name,data,gone⟩=s at*
 go_in
 go_wp2_with fail;refine(HM _).mono ?_;rintro e w1⟨rfl,hb⟩;have HB:=Hi hb;clear hb;go_wp2;go_ret;exact⟨rfl,((Ai w.heap.size w).alloc (Ae _) _).trans (HB.mono (by simp))⟩
def Vb(l:List Am):Int:=match l.findIdx? (fun c=>!Am.may c) with
 |some i=>(i:Int)
 |none=> -1
theorem awO{l:List Am}{k:Nat}(hk:k < l.length)(h:Am.may l[k]=false)(hn:∀ j (hj:j < k),Am.may (l[j]'(by omega))=true):Vb l=(k:Int):=by
 have:l.findIdx? (fun c=>!Am.may c)=some k:=List.findIdx?_eq_some_iff_getElem.2 ⟨hk,by simp[h],fun j hj=>by simp[hn j hj]⟩;unfold Vb;rw[this]
theorem awN{l:List Am}(hn:∀ j (hj:j < l.length),Am.may l[j]=true):Vb l= -1:=by
 have:l.findIdx? (fun c=>!Am.may c)=none:=List.findIdx?_eq_none_iff.2 fun x hx=>by
  obtain⟨i,hi,rfl⟩:=Sy hx;simp[hn i hi]
 unfold Vb;rw[this]
theorem awM(l:List Am):decide (0≤Vb l)= !(l.all Am.may):=by
 unfold Vb;cases h:l.findIdx? (fun c=>!Am.may c) with
 |none=>
  have:=List.findIdx?_eq_none_iff.1 h;have e:l.all Am.may=true:=MH.2 fun x hx=>by simpa using this x hx
  rw[e];rfl
 |some i=>
  obtain⟨hi,h1,_⟩:=List.findIdx?_eq_some_iff_getElem.1 h;have e:l.all Am.may=false:=List.all_eq_false.2 ⟨_,CQ hi,by simpa using h1⟩;rw[e];simp
theorem at1{w:World}{a:Option Addr}{cap:Nat}{l:List Am}(hL:Eb w a l)(hlen:l.length≤1000000)(hok:∀ c∈l,c.name.length≤maxLen∧c.data.length≤maxLen):
  Calls prog 132 #[.slice a l.length cap,.func (.func 53) #[] #[]] w fun e w'=>e=.returned (.int .i64 (Vb l))∧Bw w w':=by
 have HL:=Hi hL;have Gv:=Hi hok;clear hL hok
 go_in
 go_wp2
 go_loopw [5,8] (fun _ i wr=>∃ k:Nat,k≤l.length∧i=.int .i64 k∧Bw w wr∧∀ j (hj:j < k),(h:j < l.length)→Am.may l[j]=true) (fun _ i _=>l.length -(intOf i).toNat)
 case atStart=>exact⟨0,AV _,rfl,Ai _ _,fun j hj=>by omega⟩
 case round=>
  obtain⟨k,hk,rfl,hb,D9⟩:=hrel;have DW:=Hi D9;clear D9;by_cases hlt:k < l.length
  ·obtain⟨q,Cs,hq,-⟩:=HL.index cap k hlt;have DJ:=hq.below hb;obtain⟨c0,c1,c2⟩:=DJ.cells;have D6:=Gv _ (CQ hlt);have EE:=Hi (fun(V:World)=>asG l[k].name l[k].data l[k].gone V D6.1 D6.2);have SL:=Hi (show Am.may l[k]=false→Vb l=(k:Int) from fun h=>awO hlt h (fun j hj=>DW j hj (by omega)))
   have Di:=Hi (show Am.may l[k]=true→∀ j (hj:j < k+1),(h:j < l.length)→Am.may l[j]=true from fun h j hj h'=>by
    by_cases e:j=k
    ·subst e;exact h
    ·exact DW j (by omega) h')
   generalize l[k]=x at*;obtain⟨cn,cd,cg⟩:=x;simp only at c0 c1 c2 D6 EE;have HB:=Hi hb;clear hq DJ hb;go_wp2_with fail;refine(EE _).mono ?_;rintro e w1⟨rfl,Aj⟩;have HB1:=bH HB Aj;clear Aj;generalize Am.may ⟨cn,cd,cg⟩=s at*;cases s with
   |false=>
    have iL:=Hi (SL rfl);clear SL Di;go_wp2;go_ret;exact⟨by rw[iL.out];rfl,HB1⟩
   |true=>
    have HN:=Hi (Di rfl);clear SL Di;go_wp2;go_roundw
    case rel=>exact⟨k+1,by omega,by go_num,HB1,HN⟩
    case measure=>simp[intOf];omega
  ·obtain rfl:k=l.length:=(by omega);have HN:=Hi (show Vb l= -1 from awN (fun j hj=>DW j hj hj));have HB:=Hi hb;clear hb;go_wp2;go_ret;exact⟨by rw[HN.out];rfl,HB⟩
theorem agR{w:World}{a:Option Addr}{cap:Nat}{l:List Am}(hL:Eb w a l)(hlen:l.length≤1000000)(hok:∀ c∈l,c.name.length≤maxLen∧c.data.length≤maxLen):
  Calls prog 52 #[.slice a l.length cap,.func (.func 53) #[] #[]] w fun e w'=>e=.returned (.bool (!(l.all Am.may)))∧Bw w w':=by
 have HI:=Hi (at1 (cap:=cap) hL hlen hok);have HE:=Hi (awM l);clear hL hok;generalize Vb l=i at*
 go_in
 go_wp2_with fail;refine HI.mono ?_;rintro e w1⟨rfl,hb⟩;have HB:=Hi hb;clear hb;go_wp2;go_ret;exact⟨by rw[←HE.out];rfl,HB⟩
end
section
open Ag
def Fh{σ:Type}:List (σ→σ×Int)→σ→σ×Int
 |[],s=>(s,0)
 |f :: l,s=>if(f s).2=0 then Fh l (f s).1 else f s
theorem as6{σ:Type}{fs:List (σ→σ×Int)}(h:fs=[])(s:σ):Fh fs s=(s,0):=by subst h;rfl
structure aed{σ:Type}(I:Nat→σ→World→Prop)(J:σ→World→Prop)(vs:List Value)(fs:List (σ→σ×Int)):Prop where
 len:vs.length=fs.length
 each:∀ i (h:i < vs.length) (h':i < fs.length),∃ F recv JA,vs[i]=.func (.func F) recv JA∧(∀ args w,(callFunc F args).run prog w=.ok (.enter F args) w)∧
  ∀ s W,I i s W→Calls prog F (recv++JA) W fun e W'=>e=.returned (.int .i64 (fs[i] s).2)∧((fs[i] s).2=0→I (i+1) (fs[i] s).1 W')∧((fs[i] s).2≠0→J (fs[i] s).1 W')
theorem agT{σ:Type}{w:World}{y g n cap:Nat}{I:Nat→σ→World→Prop}{J:σ→World→Prop}{vs:List Value}{fs:List (σ→σ×Int)}{s0:σ}
  (hI:I 0 s0 w)(hf:aed I J vs fs)(hv:∀ k s W,I k s W→∀ i u,vs[i]?=some u→W.cell? ⟨g,i,none⟩=some u)(hn:vs.length=n)(eH:n≤5)(hJ:∀ s W,J s W→(∃ v,W.cell? ⟨y,6,none⟩=some v)∧W.frozen? ⟨y,6,none⟩=false):
  Calls prog 63 #[.pointer (some ⟨y,0,none⟩),.slice (some ⟨g,0,none⟩) n cap] w fun e w'=>e=.returned (.int .i64 (Fh fs s0).2)∧((Fh fs s0).2=0→I n (Fh fs s0).1 w')∧((Fh fs s0).2≠0→∃ W,J (Fh fs s0).1 W∧w'=W.setCell ⟨y,6,none⟩ (.int .i64 (Fh fs s0).2)):=by
 have HI:=Hi hI;have HF:=Hi hf;have HV:=Hi hv;have HN:=Hi hn;have HJ:=Hi hJ;clear hI hf hv hn hJ
 go_in
 go_wp2
 go_loopw [10] (fun i wr=>∃ (k:Nat) (s:σ),k≤n∧i=.int .i64 k∧I k s wr∧Fh fs s0=Fh (fs.drop k) s) (fun i _=>n -(intOf i).toNat)
 case atStart=>exact⟨0,s0,AV _,rfl,HI,by rw[List.drop_zero]⟩
 case round=>
  obtain⟨k,s,hk,rfl,hIr,PQ⟩:=hrel;have xK:=Hi hIr;have Qn:=Hi PQ;clear hIr PQ;by_cases hlt:k < n
  ·have Ke:k < vs.length:=(by rw[HN.out];exact hlt);have ZI:k < fs.length:=(by rw[←HF.len];exact Ke);obtain⟨F,recv,JA,hv,NQ,K9⟩:=HF.each k Ke ZI;have hc:wr.cell? ⟨g,k,none⟩=some (.func (.func F) recv JA):=by
    rw[←hv];exact HV k s wr xK k _ (CJ Ke)
   have Bc:Fh (fs.drop k) s=if(fs[k] s).2=0 then Fh (fs.drop (k+1)) (fs[k] s).1 else fs[k] s:=by
    rw[Rk ZI];rfl
   have BN:=K9 s wr xK.out;generalize fs[k]=f at*;generalize f s=r at*;obtain⟨s1,e1⟩:=r;have EE:=Hi BN;have Bh:=Hi Bc;clear hv K9 BN Bc Ke ZI;go_wp2_with fail;refine EE.mono ?_;rintro e w1⟨rfl,h1,h2⟩;have H1:=Hi h1;have H2:=Hi h2;clear h1 h2 hc;by_cases h0:e1=0
   ·subst h0;have SH:=Hi (show Fh fs s0=Fh (fs.drop (k+1)) s1 by rw[Qn.out,Bh.out];rfl);have HI1:=Hi (H1 rfl);clear H1 H2;go_wp2;go_roundw
    case rel=>exact⟨k+1,s1,by omega,by go_num,HI1,SH⟩
    case measure=>simp[intOf];omega
   ·have Aj:(e1 != 0)=true:=(by simp[h0]);have SH:=Hi (show Fh fs s0=(s1,e1) by rw[Qn.out,Bh.out,Ab h0]);have HJ1:=Hi (H2 h0);obtain⟨⟨v6,c6⟩,cf6⟩:=HJ _ _ HJ1.out;have H0:=Hi h0;clear h0 H1 H2;go_wp2;go_ret;rw[SH.out];exact⟨rfl,fun h=>absurd h H0.out,fun _=>⟨w1,HJ1,rfl⟩⟩
  ·obtain rfl:k=n:=(by omega);have IK:fs.drop k=[]:=List.drop_eq_nil_of_le (by rw[←HF.len,HN.out];exact Ae _);have SH:=Hi (Qn.trans (as6 IK s));clear IK;go_wp2;go_ret;rw[SH.out];exact⟨rfl,fun _=>xK.out,fun h=>absurd rfl h⟩
end
section
open Ag
structure KN(V:World)(y b m x c2 c5:Nat)(gv:Value)(fp:Nat→Prop)(F:St)(s:T)(D:A8):Prop where
 disk:BB V b D fp
 Ga:Db V y b m x gv F
 c2:V.heap[c2]?=some (.cells #[.pointer (some ⟨y,0,none⟩)] 42)
 c5:V.heap[c5]?=some (.cells #[.string (bs s)] 9)
 ap:¬ fp m
section
variable {V W:World}{y b m x c2 c5:Nat}{gv:Value}{fp fp':Nat→Prop}{F:St}{s:T}{D D':A8}
theorem KN.below(h:KN V y b m x c2 c5 gv fp F s D)(hb:Bw V W):KN W y b m x c2 c5 gv fp F s D:=
 ⟨h.disk.below hb,h.Ga.below hb,(hb.block c2 (Ao h.c2)).trans h.c2,(hb.block c5 (Ao h.c5)).trans h.c5,h.ap⟩
theorem Te{V:World}{y b m x b':Nat}{gv:Value}{fp:Nat→Prop}{F:St}{D:A8}(hd:BB V b' D fp)(hf:Db V y b m x gv F)(ap:¬ fp m)(k:Nat)(hk:Tc y m x gv k):¬ fp k:=by
 rcases hk with rfl|rfl|hk
 ·exact fun e=>hd.Dl _ e (by decide) (by decide) hf.blk
 ·exact ap
 ·intro e;rcases hf.DL.kind hk with h|h
  ·exact hd.Dl _ e (by decide) (by decide) h
  ·exact hd.Dl _ e (by decide) (by decide) h
theorem KN.zK(h:KN V y b m x c2 c5 gv fp F s D)(hd:BB W b D' fp')(hu:A7 fp V W)(hs:Dj fp fp' V):KN W y b m x c2 c5 gv fp' F s D':=
 ⟨hd,h.Ga.upd hu (fun k hk e=>h.disk.Dl k e (by decide) (by decide) hk) (Te h.disk h.Ga h.ap),
  (hu.block c2 (Ao h.c2) (fun e=>h.disk.Dl _ e (by decide) (by decide) ⟨_,_,h.c2⟩)).trans h.c2,
  (hu.block c5 (Ao h.c5) (fun e=>h.disk.Dl _ e (by decide) (by decide) ⟨_,_,h.c5⟩)).trans h.c5,
  fun e=>(hs m e).elim h.ap (fun e2=>by have:=h.Ga.map.lt;omega)⟩
theorem KN.reads(h:KN V y b m x c2 c5 gv fp F s D):V.cell? ⟨c2,0,none⟩=some (.pointer (some ⟨y,0,none⟩))∧V.cell? ⟨c5,0,none⟩=some (.string (bs s))∧V.cell? ⟨y,0,none⟩=some (.pointer (some ⟨b,0,none⟩))∧V.cell? ⟨y,1,none⟩=some (.int .i64 (F.log:Int))∧V.cell? ⟨y,2,none⟩=some (.int .i64 (F.size:Int))∧V.cell? ⟨y,3,none⟩=some (.int .i64 (F.AL:Int))∧V.cell? ⟨y,5,none⟩=some (.pointer (some ⟨x,0,none⟩)):=by
 obtain⟨c0,c1,c2',c3,c4,c5',c6,_⟩:=h.Ga.cells;exact⟨Io h.c2,Io h.c5,c0,c1,c2',c3,c5'⟩
theorem axo(h:KN V y b m x c2 c5 gv fp F s D)(hs:s.length≤1000000)(I7:D.loose.length≤500000000):
  Calls prog 136 #[.pointer (some ⟨c2,0,none⟩),.pointer (some ⟨c5,0,none⟩)] V (WT V b D fp fun E=>E.write ((CV F.log F.size F.AL:Nat):Int) (Av.pad (A9.le 4 s.length++s))):=by
 have HL:=Hi h;obtain⟨f1,f2,f3,f4⟩:=h.Ga.fits;have FV:(Av.pad (A9.le 4 s.length++s)).length≤1000128:=by rw[Av.Sg,AA,A9.C9];omega
 have CP:CV F.log F.size F.AL≤40000:=by unfold CV;have:F.AL*F.size≤1*F.size:=P9 _ f4;omega
 have AR:=Hi (Ai V.heap.size V);have EY:=Hi ((Ai V.heap.size V).drew);have Vz:=Hi (h.below EY);have HW:=Hi (fun(W:World) (h:KN W y b m x c2 c5 gv fp F s D)=>nH h.disk ((CV F.log F.size F.AL:Nat):Int) (Av.pad (A9.le 4 s.length++s)) (by omega) (by omega) (by omega));have ap2:=Hi (fun(W:World)=>agO (.pointer (some ⟨b,0,none⟩)) F.log F.size F.AL W f1 f2 f4);have apR:=Hi (fun(W:World)=>qE s.length W (by omega));have HWH:=Hi (fun(W:World)=>qG (A9.le 4 s.length++s) W (by rw[AA,A9.C9];omega));have dK:∀ W,(binOp .add 9 (.string (bs (A9.le 4 s.length))) (.string (bs s))).run prog W=.ok (.string (bs (A9.le 4 s.length++s))) W:=fun W=>by
  have h4:=A9.C9 4 s.length;simp[go_sem,Op.stringOp,h4];omega
 have aDQ:∀ W,(Op.stringOp .add (bs (A9.le 4 s.length)) (bs s)).run prog W=.ok (.string (bs (A9.le 4 s.length++s))) W:=fun W=>by
  have h4:=A9.C9 4 s.length;simp[go_sem,Op.stringOp,h4];omega
 have h4:=A9.C9 4 s.length;have D7:(4:Int)+(s.length:Int)≤9223372036854775807:=by omega
 generalize Av.pad (A9.le 4 s.length++s)=P at*;generalize CV F.log F.size F.AL=B at*;obtain⟨d0,d1,d2,d3,d4,d5,d6⟩:=h.reads;clear h
 go_in
 go_wp2
 go_region_held3 (fun W=>W.cell? ⟨c2,0,none⟩=some (.pointer (some ⟨y,0,none⟩))∧W.cell? ⟨c5,0,none⟩=some (.string (bs s))∧W.cell? ⟨y,0,none⟩=some (.pointer (some ⟨b,0,none⟩))∧W.cell? ⟨y,1,none⟩=some (.int .i64 (F.log:Int))∧W.cell? ⟨y,2,none⟩=some (.int .i64 (F.size:Int))∧W.cell? ⟨y,3,none⟩=some (.int .i64 (F.AL:Int))∧W.cell? ⟨y,5,none⟩=some (.pointer (some ⟨x,0,none⟩)))
  (first|exact Vz.reads|exact G7.reads|exact Mf.reads|exact Og.reads|exact Vy.reads)
  (first
   |(go_at_call 138;refine(ap2 _).mono ?_;rintro e W1 ⟨rfl,Aj⟩;have G7:=Hi (Vz.below Aj);have HB1:=bH EY Aj;clear Aj)
   |(go_at_call 140;refine(apR _).mono ?_;rintro e W2 ⟨rfl,Ac⟩;have Mf:=Hi (G7.below Ac);have Ak:=bH HB1 Ac;clear Ac)
   |(go_at_call 139;refine(HWH _).mono ?_;rintro e W3 ⟨rfl,Ap⟩;have Og:=Hi (Mf.below Ap);have Au:=bH Ak Ap;clear Ap)
   |(go_at_call 137;refine(HW _ Og).mono ?_;rintro e W4 ⟨rfl,PH,UM,OT,RU⟩;have Vy:=Hi (Og.zK UM OT RU);have Vs:=Hi UM;have Ul:=Hi OT;have Uj:=Hi RU;clear UM OT RU))
 all_goals
  go_wp2;go_ret;exact⟨rfl,PH,Vs,(A7.of_below (F:=fp) Au).trans Ul (fun i hi=>.inl hi),fun i hi=>(Uj i hi).elim .inl (fun e=>.inr (Aw Au.size e))⟩
theorem axp(h:KN V y b m x c2 c5 gv fp F s D)(I7:D.loose.length≤500000000):
  Calls prog 141 #[.pointer (some ⟨c2,0,none⟩)] V (WT V b D fp fun E=>E.write ((0:Nat):Int) (Ag.mark F.AL ((F.w.gen+1) % 18446744073709551616))):=by
 have HL:=Hi h;obtain⟨f1,f2,f3,f4⟩:=h.Ga.fits;have Jk:(F.w.gen+1) % 18446744073709551616 < 18446744073709551616:=Nat.mod_lt _ (by decide);have EH:=Ag.O4 F.AL ((F.w.gen+1) % 18446744073709551616);have EY:=Hi ((Ai V.heap.size V).drew);have Vz:=Hi (h.below EY);have HW:=Hi (fun(W:World) (h:KN W y b m x c2 c5 gv fp F s D)=>nH h.disk ((0:Nat):Int) (Ag.mark F.AL ((F.w.gen+1) % 18446744073709551616)) (by omega) (by omega) (by omega));have Qt:=Hi (fun(W:World)=>aha F.AL ((F.w.gen+1) % 18446744073709551616) W f4 Jk);have Uc:=Hi (fun(W:World) (h:KN W y b m x c2 c5 gv fp F s D)=>aow h.Ga.DL);have e3:=adG F.w.gen;generalize Ag.mark F.AL ((F.w.gen+1) % 18446744073709551616)=P at*;generalize (F.w.gen+1) % 18446744073709551616=G at*;obtain⟨d0,d1,d2,d3,d4,d5,d6⟩:=h.reads;clear h
 go_in
 go_wp2
 go_region_held3 (fun W=>W.cell? ⟨c2,0,none⟩=some (.pointer (some ⟨y,0,none⟩))∧W.cell? ⟨c5,0,none⟩=some (.string (bs s))∧W.cell? ⟨y,0,none⟩=some (.pointer (some ⟨b,0,none⟩))∧W.cell? ⟨y,1,none⟩=some (.int .i64 (F.log:Int))∧W.cell? ⟨y,2,none⟩=some (.int .i64 (F.size:Int))∧W.cell? ⟨y,3,none⟩=some (.int .i64 (F.AL:Int))∧W.cell? ⟨y,5,none⟩=some (.pointer (some ⟨x,0,none⟩)))
  (first|exact Vz.reads|exact G7.reads|exact Mf.reads|exact Vy.reads)
  (first
   |(go_at_call 80;refine(Uc _ Vz).mono ?_;rintro e W1 ⟨rfl,rfl⟩;have G7:=Vz)
   |(go_at_call 142;refine(Qt _).mono ?_;rintro e W2 ⟨rfl,Ac⟩;have Mf:=Hi (G7.below Ac);have Ak:=bH EY Ac;clear Ac)
   |(go_at_call 137;refine(HW _ Mf).mono ?_;rintro e W4 ⟨rfl,PH,UM,OT,RU⟩;have Vy:=Hi (Mf.zK UM OT RU);have Vs:=Hi UM;have Ul:=Hi OT;have Uj:=Hi RU;clear UM OT RU))
 all_goals
  go_wp2;go_ret;exact⟨rfl,PH,Vs,(A7.of_below (F:=fp) Ak).trans Ul (fun i hi=>.inl hi),fun i hi=>(Uj i hi).elim .inl (fun e=>.inr (Aw Ak.size e))⟩
theorem arA{c6 cap:Nat}{a:Option Addr}{l:List T}(hd:BB V b D fp)(hf:Db V y b m x gv F)(ap:¬ fp m)(h2:V.heap[c2]?=some (.cells #[.pointer (some ⟨y,0,none⟩)] 42))(h6:V.heap[c6]?=some (.cells #[.slice a l.length cap] 61))(ko:¬ BS x gv c6)
  (hx:Du V a l)(W9:∀ p,a=some p→l≠[]→¬ fp p.block∧¬ BS x gv p.block)(hlen:l.length≤1000000)(D7:rowLen l≤1000000)(I7:D.loose.length≤400000000)(OI:F.w.groups.length≤1000000):
  Calls prog 64 #[.pointer (some ⟨c2,0,none⟩),.pointer (some ⟨c6,0,none⟩)] V fun e w'=>Ze V x b gv fp (Dx D F.w l) e w':=by
 have EY:=Hi ((Ai V.heap.size V).drew);have HA:=Hi (aqF (cap:=cap) (hd.below EY) (hf.DL.below EY) (hx.below EY) W9 hlen D7 I7 OI);obtain⟨_,_,_,_,_,d5,_⟩:=hf.cells;have c2':=Io h2;have c6':=Io h6
 have HK:=Hi (fun(W:World) (hu:A7 (fun k=>fp k∨BS x gv k) V.drew W)=>(by
  refine⟨(hu.cell (p:=⟨c2,0,none⟩) (Ao h2) ?_).trans c2',(hu.cell (p:=⟨c6,0,none⟩) (Ao h6) ?_).trans c6',(hu.cell (p:=⟨y,5,none⟩) (hf.lt y (.inl rfl)) ?_).trans d5⟩
  ·rintro(e|e)
   ·exact hd.Dl _ e (by decide) (by decide) ⟨_,_,h2⟩
   ·rcases hf.DL.kind e with h|h
    ·exact Bb.ne ⟨_,_,h2⟩ h (by decide) rfl
    ·exact Bb.ne ⟨_,_,h2⟩ h (by decide) rfl
  ·rintro(e|e)
   ·exact hd.Dl _ e (by decide) (by decide) ⟨_,_,h6⟩
   ·exact ko e
  ·rintro(e|e)
   ·exact Te hd hf ap y (.inl rfl) e
   ·exact hf.Yr.2.1 e:W.cell? ⟨c2,0,none⟩=some (.pointer (some ⟨y,0,none⟩))∧W.cell? ⟨c6,0,none⟩=some (.slice a l.length cap)∧W.cell? ⟨y,5,none⟩=some (.pointer (some ⟨x,0,none⟩))))
 clear hd hf hx W9 h2 h6
 go_in
 go_wp2
 go_region_held3 (fun W=>W.cell? ⟨c2,0,none⟩=some (.pointer (some ⟨y,0,none⟩))∧W.cell? ⟨c6,0,none⟩=some (.slice a l.length cap)∧W.cell? ⟨y,5,none⟩=some (.pointer (some ⟨x,0,none⟩)))
  (first|exact HK _ (A7.refl _ _)|exact HK _ MU)
  (first
   |(go_at_call 65;refine HA.mono ?_;rintro e W1 ⟨rfl,EO,Ev,g1,g2,g3,g4,g5⟩;have MU:=Hi g3;have HG:=Hi (Cw g1 (Cw g2 (Cw g4 g5)));clear g1 g2 g3 g4 g5))
 all_goals
  go_wp2;go_ret;exact⟨rfl,EO,Ev,HG.1,HG.2.1,(A7.of_below (F:=fun k=>fp k∨BS x gv k) EY).trans MU (fun i hi=>.inl hi),HG.2.2.1,HG.2.2.2⟩
end
end
section
open Ag
def QY(F:St)(s:T):List (A8×BD→(A8×BD)×Int):=
 [fun E=>(((E.1.write ((CV F.log F.size F.AL:Nat):Int) (Av.pad (A9.le 4 s.length++s))).1,E.2),(E.1.write ((CV F.log F.size F.AL:Nat):Int) (Av.pad (A9.le 4 s.length++s))).2),
  fun E=>((E.1.flush.1,E.2),E.1.flush.2),
  fun E=>(((E.1.write ((0:Nat):Int) (Ag.mark F.AL ((E.2.gen+1) % 18446744073709551616))).1,E.2),(E.1.write ((0:Nat):Int) (Ag.mark F.AL ((E.2.gen+1) % 18446744073709551616))).2),
  fun E=>((E.1.flush.1,E.2),E.1.flush.2),
  fun E=>(((DN E.1 E.2).1,(DN E.1 E.2).2.1),(DN E.1 E.2).2.2)]
def al8(F:St)(r:(A8×BD)×Int):St:={ F with AL:=1 -F.AL,w:=r.1.2,fault:=if r.2=0 then F.fault else r.2 }
theorem as7(f1 f2 f4:A8→A8×Int)(f3:BD→A8→A8×Int)(D:A8)(L:BD):
  Fh [fun E:A8×BD=>(((f1 E.1).1,E.2),(f1 E.1).2),fun E=>(((f2 E.1).1,E.2),(f2 E.1).2),fun E=>(((f3 E.2 E.1).1,E.2),(f3 E.2 E.1).2),fun E=>(((f4 E.1).1,E.2),(f4 E.1).2),fun E=>(((DN E.1 E.2).1,(DN E.1 E.2).2.1),(DN E.1 E.2).2.2)] (D,L)=
  if(Bu [f1,f2,f3 L,f4] D).2=0 then(((DN (Bu [f1,f2,f3 L,f4] D).1 L).1,(DN (Bu [f1,f2,f3 L,f4] D).1 L).2.1),(DN (Bu [f1,f2,f3 L,f4] D).1 L).2.2) else(((Bu [f1,f2,f3 L,f4] D).1,L),(Bu [f1,f2,f3 L,f4] D).2):=by
 by_cases h1:(f1 D).2=0
 ·by_cases h2:(f2 (f1 D).1).2=0
  ·by_cases h3:(f3 L (f2 (f1 D).1).1).2=0
   ·by_cases h4:(f4 (f3 L (f2 (f1 D).1).1).1).2=0
    ·by_cases h5:(DN (f4 (f3 L (f2 (f1 D).1).1).1).1 L).2.2=0
     ·simp[Bu,Fh,h1,h2,h3,h4,h5]
     ·simp[Bu,Fh,h1,h2,h3,h4,h5]
    ·simp[Bu,Fh,h1,h2,h3,h4]
   ·simp[Bu,Fh,h1,h2,h3]
  ·simp[Bu,Fh,h1,h2]
 ·simp[Bu,Fh,h1]
theorem al9(D:A8)(F:St)(m:M):OW D F m=((Fh (QY { F with AL:=1 -F.AL } (Ag.bytes m)) (D,F.w)).1.1,
  { al8 F (Fh (QY { F with AL:=1 -F.AL } (Ag.bytes m)) (D,F.w)) with m:=if(Fh (QY { F with AL:=1 -F.AL } (Ag.bytes m)) (D,F.w)).2=0 then m else F.m },
  (Fh (QY { F with AL:=1 -F.AL } (Ag.bytes m)) (D,F.w)).2):=by
 have e:Fh (QY { F with AL:=1 -F.AL } (Ag.bytes m)) (D,F.w)=if(Bu (Ib F m) D).2=0 then(((DN (Bu (Ib F m) D).1 F.w).1,(DN (Bu (Ib F m) D).1 F.w).2.1),(DN (Bu (Ib F m) D).1 F.w).2.2) else(((Bu (Ib F m) D).1,F.w),(Bu (Ib F m) D).2):=
  as7 (fun E=>E.write ((CV F.log F.size (1 -F.AL):Nat):Int) (Qz m)) A8.flush A8.flush (fun L E=>E.write ((0:Nat):Int) (Ag.mark (1 -F.AL) ((L.gen+1) % 18446744073709551616))) D F.w
 rw[e];unfold OW al8;by_cases h1:(Bu (Ib F m) D).2=0
 ·by_cases h2:(DN (Bu (Ib F m) D).1 F.w).2.2=0
  ·simp[h1,h2]
  ·simp[h1,h2]
 ·simp[h1]
theorem KN.aCw{V W:World}{y b m x c2 c5:Nat}{gv Fp:Value}{fp fp':Nat→Prop}{F:St}{s:T}{D D':A8}{L:BD}(h:KN V y b m x c2 c5 gv fp F s D)(hd:BB W b D' fp')(hw:Cm W x b Fp L)(hu:A7 (fun k=>fp k∨BS x gv k) V W)(hs:Dj fp fp' V):KN W y b m x c2 c5 Fp fp' { F with w:=L } s D':=by
 have hk:∀ {k t},Bb V k t→t≠144→t≠242→t≠224→t≠61→¬ (fp k∨BS x gv k):=fun hb h1 h2 h3 h4 e=>by
  rcases e with e|e
  ·exact h.disk.Dl _ e h1 h2 hb
  ·rcases h.Ga.DL.kind e with g|g
   ·exact Bb.ne hb g h3 rfl
   ·exact Bb.ne hb g h4 rfl
 exact⟨hd,⟨(hu.block y (Ao h.Ga.struct) (hk h.Ga.blk (by decide) (by decide) (by decide) (by decide))).trans h.Ga.struct,h.Ga.map.upd hu (fun e=>e.elim h.ap h.Ga.Yr.2.2),hw,h.Ga.fits⟩,
  (hu.block c2 (Ao h.c2) (hk ⟨_,_,h.c2⟩ (by decide) (by decide) (by decide) (by decide))).trans h.c2,
  (hu.block c5 (Ao h.c5) (hk ⟨_,_,h.c5⟩ (by decide) (by decide) (by decide) (by decide))).trans h.c5,
  fun e=>(hs m e).elim h.ap (fun e2=>by have:=h.Ga.map.lt;omega)⟩
theorem alV(a b c k:Nat)(h1:a≤b+100000)(h2:b≤c+100000*k):a≤c+100000*(k+1):=by
 rw[Nat.mul_succ,←Nat.add_assoc];generalize 100000*k=m at*;omega
def Px(w:World)(y b m x c2 c5:Nat)(QD:Nat→Prop)(UC:Value)(F:St)(s:T)(n0:Nat)(k:Nat)(E:A8×BD)(W:World):Prop:=
 ∃ fp gv,KN W y b m x c2 c5 gv fp { F with w:=E.2 } s E.1∧A7 (fun k=>QD k∨BS x UC k) w W∧Dj QD fp w∧Dj (BS x UC) (BS x gv) w∧E.1.loose.length≤n0+100000*k
section
variable {w V W:World}{y b m x c2 c5:Nat}{UC:Value}{QD:Nat→Prop}{F:St}{s:T}{n0 k:Nat}{D:A8}{L:BD}{e:Ending}
theorem Px.step{fp:Nat→Prop}{gv:Value}{f:A8→A8×Int}(h:KN V y b m x c2 c5 gv fp { F with w:=L } s D)(hu:A7 (fun k=>QD k∨BS x UC k) w V)(h1:Dj QD fp w)(h2:Dj (BS x UC) (BS x gv) w)(hl:D.loose.length≤n0+100000*k)
  (hp:WT V b D fp f e W)(hm:(f D).1.loose.length≤D.loose.length+100000):e=.returned (.int .i64 (f D).2)∧Px w y b m x c2 c5 QD UC F s n0 (k+1) ((f D).1,L) W:=by
 obtain⟨he,fp',p1,p2,p3⟩:=hp;refine⟨he,fp',gv,h.zK p1 p2 p3,hu.trans p2 (fun i hi=>(h1 i hi).imp .inl id),fun i hi=>?_,h2,alV _ _ _ _ hm hl⟩;rcases p3 i hi with e|e
 ·exact h1 i e
 ·exact .inr (Aw hu.size e)
theorem Px.reset(h:Px w y b m x c2 c5 QD UC F s n0 k (D,L) V)(hn:n0+100000*k≤400000000)(hm:(DN D L).1.loose.length≤D.loose.length+100000):
  Calls prog 83 #[.pointer (some ⟨x,0,none⟩)] V fun e W=>e=.returned (.int .i64 (DN D L).2.2)∧Px w y b m x c2 c5 QD UC F s n0 (k+1) ((DN D L).1,(DN D L).2.1) W:=by
 obtain⟨fp,gv,h,hu,h1,h2,hl⟩:=h;have hl:D.loose.length≤n0+100000*k:=hl;refine(amU h.disk h.Ga.DL (by omega)).mono ?_;rintro e W⟨rfl,fp',Fp,p1,p2,p3,p4,p5⟩;refine⟨rfl,fp',Fp,h.aCw p1 p2 p3 p4,hu.trans p3 (fun i hi=>hi.elim (fun e=>(h1 i e).imp .inl id) (fun e=>(h2 i e).imp .inr id)),fun i hi=>?_,fun i hi=>?_,alV _ _ _ _ hm hl⟩
 ·rcases p4 i hi with e|e
  ·exact h1 i e
  ·exact .inr (Aw hu.size e)
 ·rcases p5 i hi with e|e
  ·exact h2 i e
  ·exact .inr (Aw hu.size e)
theorem aCM(D:A8)(L:BD):(DN D L).1.loose.length≤D.loose.length+100000:=by
 have key:(Bu L.LZ D).1.loose.length≤D.loose.length+1:=by
  unfold BD.LZ;simp only[Bu];have h1:=A8.TY D (L.from_:Int) (Av.mark ((L.gen+1) % 18446744073709551616) 0);rw[Av.O4] at h1;split
  ·have h2:=A8.Uz (D.write (L.from_:Int) (Av.mark ((L.gen+1) % 18446744073709551616) 0)).1;split
   ·show(D.write (L.from_:Int) (Av.mark ((L.gen+1) % 18446744073709551616) 0)).1.flush.1.loose.length≤_;omega
   ·omega
  ·omega
 unfold DN;split
 ·exact Nat.le_add_right _ _
 ·split
  ·show(Bu L.LZ D).1.loose.length≤_;omega
  ·show(Bu L.LZ D).1.loose.length≤_;omega
theorem atg(hs:s.length≤1000000)(hn:n0≤300000000):
  aed (Px w y b m x c2 c5 QD UC F s n0) (fun E W=>∃ k,Px w y b m x c2 c5 QD UC F s n0 k E W)
   [.func (.func 136) #[] #[.pointer (some ⟨c2,0,none⟩),.pointer (some ⟨c5,0,none⟩)],.func (.func 143) #[.pointer (some ⟨b,0,none⟩)] #[],.func (.func 141) #[] #[.pointer (some ⟨c2,0,none⟩)],.func (.func 143) #[.pointer (some ⟨b,0,none⟩)] #[],.func (.func 83) #[.pointer (some ⟨x,0,none⟩)] #[]] (QY F s):=by
 have FV:(Av.pad (A9.le 4 s.length++s)).length≤1000128:=by rw[Av.Sg,AA,A9.C9];omega
 refine⟨rfl,fun i h h'=>?_⟩
 match i,h with
 |0,_=>
  refine⟨_,_,_,rfl,enters_of func136 (by kernel_rfl) rfl,fun E W hI=>?_⟩;obtain⟨fp,gv,h,hu,h1,h2,hl⟩:=hI;refine(axo h hs (by omega)).mono fun e W' hp=>?_
  have:=Px.step h hu h1 h2 hl hp (by have:=A8.TY E.1 ((CV F.log F.size F.AL:Nat):Int) (Av.pad (A9.le 4 s.length++s));show(E.1.write ((CV F.log F.size F.AL:Nat):Int) (Av.pad (A9.le 4 s.length++s))).1.loose.length≤_;omega);exact⟨this.1,fun _=>this.2,fun _=>⟨_,this.2⟩⟩
 |1,_=>
  refine⟨_,_,_,rfl,enters_of func143 (by kernel_rfl) rfl,fun E W hI=>?_⟩;obtain⟨fp,gv,h,hu,h1,h2,hl⟩:=hI;refine(qC h.disk (by omega)).mono fun e W' hp=>?_
  have:=Px.step (f:=A8.flush) h hu h1 h2 hl hp (by have:=A8.Uz E.1;omega);exact⟨this.1,fun _=>this.2,fun _=>⟨_,this.2⟩⟩
 |2,_=>
  refine⟨_,_,_,rfl,enters_of func141 (by kernel_rfl) rfl,fun E W hI=>?_⟩;obtain⟨fp,gv,h,hu,h1,h2,hl⟩:=hI;refine(axp h (by omega)).mono fun e W' hp=>?_
  have:=Px.step h hu h1 h2 hl hp (by have:=A8.TY E.1 ((0:Nat):Int) (Ag.mark F.AL ((E.2.gen+1) % 18446744073709551616));rw[Ag.O4] at this;show(E.1.write ((0:Nat):Int) (Ag.mark F.AL ((E.2.gen+1) % 18446744073709551616))).1.loose.length≤_;omega);exact⟨this.1,fun _=>this.2,fun _=>⟨_,this.2⟩⟩
 |3,_=>
  refine⟨_,_,_,rfl,enters_of func143 (by kernel_rfl) rfl,fun E W hI=>?_⟩;obtain⟨fp,gv,h,hu,h1,h2,hl⟩:=hI;refine(qC h.disk (by omega)).mono fun e W' hp=>?_
  have:=Px.step (f:=A8.flush) h hu h1 h2 hl hp (by have:=A8.Uz E.1;omega);exact⟨this.1,fun _=>this.2,fun _=>⟨_,this.2⟩⟩
 |4,_=>
  refine⟨_,_,_,rfl,enters_of func83 (by kernel_rfl) rfl,fun E W hI=>?_⟩;refine(Px.reset hI (by omega) (aCM _ _)).mono fun e W' hp=>?_
  exact⟨hp.1,fun _=>hp.2,fun _=>⟨_,hp.2⟩⟩
end
end
section
open Ag
def Vp(w:World)(y b _m x:Nat)(gv:Value)(fp:Nat→Prop)(r:A8×St×Int)(m':Nat)(e:Ending)(w':World):Prop:=
 e=.returned (.int .i64 r.2.2)∧∃ fp' Fp,BB w' b r.1 fp'∧Db w' y b m' x Fp r.2.1∧¬ fp' m'∧A7 (fun k=>fp k∨k=y∨BS x gv k) w w'∧Dj fp fp' w∧Dj (BS x gv) (BS x Fp) w
theorem aqL{a:Nat}(h:a≤1):IntKind.i64.wrap (1 -(a:Int))=((1 -a:Nat):Int):=by
 rw[ET _ (by omega)];omega
theorem Db.aAy{w:World}{y b m x:Nat}{gv:Value}{F:St}(h:Db w y b m x gv F)(a:Nat)(ha:a≤1):Db (w.setCell ⟨y,3,none⟩ (.int .i64 (a:Int))) y b m x gv { F with AL:=a }:=by
 have hu:A7 (fun k=>k=y) w (w.setCell ⟨y,3,none⟩ (.int .i64 (a:Int))):=(A7.refl (fun k=>k=y) w).setCell (p:=⟨y,3,none⟩) (.inl rfl) _;exact⟨Cu w y 3 _ _ _ h.struct,h.map.upd hu (fun e=>h.Yr.1 e.symm),h.DL.upd hu (fun k hk e=>by subst e;exact Bb.ne hk h.blk (by decide) rfl) (fun k hk e=>by subst e;exact h.Yr.2.1 hk),⟨h.fits.1,h.fits.2.1,h.fits.2.2.1,ha⟩⟩
theorem Db.vI{w:World}{y b m x:Nat}{gv:Value}{F:St}(h:Db w y b m x gv F)(k:Int):Db (w.setCell ⟨y,6,none⟩ (.int .i64 k)) y b m x gv { F with fault:=k }:=by
 have hu:A7 (fun k=>k=y) w (w.setCell ⟨y,6,none⟩ (.int .i64 k)):=(A7.refl (fun k=>k=y) w).setCell (p:=⟨y,6,none⟩) (.inl rfl) _;exact⟨Cu w y 6 _ _ _ h.struct,h.map.upd hu (fun e=>h.Yr.1 e.symm),h.DL.upd hu (fun k hk e=>by subst e;exact Bb.ne hk h.blk (by decide) rfl) (fun k hk e=>by subst e;exact h.Yr.2.1 hk),h.fits⟩
def fE(b x c2 c5:Nat):Array Value:=#[.func (.func 136) #[] #[.pointer (some ⟨c2,0,none⟩),.pointer (some ⟨c5,0,none⟩)],.func (.func 143) #[.pointer (some ⟨b,0,none⟩)] #[],.func (.func 141) #[] #[.pointer (some ⟨c2,0,none⟩)],.func (.func 143) #[.pointer (some ⟨b,0,none⟩)] #[],.func (.func 83) #[.pointer (some ⟨x,0,none⟩)] #[]]
theorem axr{V:World}{y b m x c2 c5:Nat}{gv:Value}{fp:Nat→Prop}{F:St}{S:T}{D:A8}(h:KN V y b m x c2 c5 gv fp F S D)(hs:S.length≤1000000)(I7:D.loose.length≤300000000)(nq:Nat):
  Calls prog 63 #[.pointer (some ⟨y,0,none⟩),.slice (some ⟨V.heap.size,0,none⟩) 5 5] ((V.alloc (.cells (fE b x c2 c5) 129)).drewN nq) fun e w'=>e=.returned (.int .i64 (Fh (QY F S) (D,F.w)).2)∧∃ fp' Fp,BB w' b (Fh (QY F S) (D,F.w)).1.1 fp'∧Db w' y b m x Fp { F with w:=(Fh (QY F S) (D,F.w)).1.2,fault:=if(Fh (QY F S) (D,F.w)).2=0 then F.fault else(Fh (QY F S) (D,F.w)).2 }∧¬ fp' m∧A7 (fun k=>fp k∨k=y∨BS x gv k) V w'∧Dj fp fp' V∧Dj (BS x gv) (BS x Fp) V∧w'.heap[c2]?=some (.cells #[.pointer (some ⟨y,0,none⟩)] 42):=by
 have hb:Bw V ((V.alloc (.cells (fE b x c2 c5) 129)).drewN nq):=((Ai _ _).alloc (Ae _) _).trans ((FB _ nq).mono (by rw[Ay];omega));have Af:((V.alloc (.cells (fE b x c2 c5) 129)).drewN nq).heap[V.heap.size]?=some (.cells (fE b x c2 c5) 129):=((FB _ nq).block V.heap.size (by rw[Ay];omega)).trans (AQ V _);have h0:=h.below hb;have Fq:=A7.of_below (F:=fun k=>fp k∨k=y∨BS x gv k) hb;have hbs:=hb.size;generalize (V.alloc (.cells (fE b x c2 c5) 129)).drewN nq=w0 at*;have Bc:∀ {P P':Nat→Prop},Dj P P' w0→Dj P P' V:=fun hs i hi=>(hs i hi).imp id (fun e=>Aw hbs e)
 generalize V.heap.size=g at*;have hg:¬ (fp g∨BS x gv g):=fun e=>by
  rcases e with e|e
  ·exact h0.disk.Dl _ e (by decide) (by decide) ⟨_,_,Af⟩
  ·rcases h0.Ga.DL.kind e with k|k
   ·exact Bb.ne ⟨_,_,Af⟩ k (by decide) rfl
   ·exact Bb.ne ⟨_,_,Af⟩ k (by decide) rfl
 refine(agT (I:=Px w0 y b m x c2 c5 fp gv F S D.loose.length) (J:=fun E W=>∃ k,Px w0 y b m x c2 c5 fp gv F S D.loose.length k E W) (s0:=(D,F.w)) (cap:=5) (g:=g) (n:=5)
  ⟨fp,gv,h0,A7.refl _ _,fun _ h=>.inl h,fun _ h=>.inl h,Nat.le_add_right _ _⟩ (atg hs I7) ?_ rfl (Ae 5) ?_).mono ?_
 ·rintro k E W ⟨EO,Ev,g1,g2,g3,g4,g5⟩ i u hu;rw[BL W g i _ _ _ ((g2.block g (Ao Af) hg).trans Af),←hu]
  show(fE b x c2 c5)[i]?=_
  rw[←Dy];rfl
 ·rintro E W ⟨k,EO,Ev,g1,g2,g3,g4,g5⟩;have c:=g1.Ga.cells;exact⟨⟨_,c.2.2.2.2.2.2.1⟩,c.2.2.2.2.2.2.2 6⟩
 ·generalize Fh (QY F S) (D,F.w)=r;rintro e w'⟨rfl,r1,r2⟩;refine⟨rfl,?_⟩;by_cases hr:r.2=0
  ·obtain⟨EO,Ev,g1,g2,g3,g4,g5⟩:=r1 hr;rw[Ad hr];exact⟨EO,Ev,g1.disk,g1.Ga,g1.ap,Fq.trans (g2.mono (fun i hi=>hi.elim .inl (fun e=>.inr (.inr e)))) (fun i hi=>.inl hi),Bc g3,Bc g4,g1.c2⟩
  ·obtain⟨W,⟨k,EO,Ev,g1,g2,g3,g4,g5⟩,rfl⟩:=r2 hr;rw[Ab hr];have hu:A7 (fun k=>k=y) W (W.setCell ⟨y,6,none⟩ (.int .i64 r.2)):=(A7.refl (fun k=>k=y) W).setCell (p:=⟨y,6,none⟩) (.inl rfl) _;refine⟨EO,Ev,g1.disk.upd hu (fun k hk e=>by subst e;exact Te g1.disk g1.Ga g1.ap k (.inl rfl) hk),g1.Ga.vI r.2,g1.ap,(Fq.trans (g2.mono (fun i hi=>hi.elim .inl (fun e=>.inr (.inr e)))) (fun i hi=>.inl hi)).trans hu (fun i hi=>.inl (.inr (.inl hi))),Bc g3,Bc g4,(hu.block c2 (Ao g1.c2) (fun e=>by subst e;exact Bb.ne ⟨_,_,g1.c2⟩ g1.Ga.blk (by decide) rfl)).trans g1.c2⟩
theorem ah7{w:World}{y b m x mv:Nat}{gv:Value}{fp:Nat→Prop}{F:St}{D:A8}{A:M}(hd:BB w b D fp)(hf:Db w y b m x gv F)(ap:¬ fp m)(hM:CO w mv A)(hg:Ag.Good A)(hc:used A≤1000000)(I7:D.loose.length≤300000000):
  Calls prog 62 #[.pointer (some ⟨y,0,none⟩),.map (some mv)] w fun e w'=>Vp w y b m x gv fp ((OW D F A).1,{ (OW D F A).2.1 with m:=F.m },(OW D F A).2.2) m e w':=by
 have HD:=Hi hd;have HF:=Hi hf;have Bg:=(Ai w.heap.size w).alloc (Ae _) (.cells #[.pointer (some ⟨y,0,none⟩)] 42);have AR:=Hi Bg;have HBY:=Hi (asH (hM.below Bg) hg hc);have Md:=Hi (AQ w (.cells #[.pointer (some ⟨y,0,none⟩)] 42));have hyl:=hf.lt y (.inl rfl);have jU:=hf.fits.2.2.2;have e1:=aqL jU;have XJ:1 -F.AL≤1:=by omega
 have Vz:=Hi (al9 D F A);have CG:(Ag.bytes A).length≤1000000:=by rw[zn];exact hc
 clear hd hf Bg hM;generalize Ag.bytes A=S at*
 go_in
 go_wp2_with fail;refine HBY.mono ?_;rintro e w1⟨rfl,Aj⟩;have HB1:=bH AR Aj;have GY:=(Aj.block w.heap.size (Ao Md)).trans Md.out;have Qk:=Hi GY;have c0:=Io GY;have iC:=Hi (HF.below HB1);obtain⟨_,_,_,d3,_,_,_,df⟩:=iC.cells;have Zj:=df 3;have eD:w.heap.size < w1.heap.size:=Ao GY;have aES:y < w1.heap.size:=by omega
 clear Aj GY df;go_wp2;go_region;have FM:A7 (fun k=>k=y) w1 (w1.setCell ⟨y,3,none⟩ (.int .i64 ((1 -F.AL:Nat):Int))):=(A7.refl (fun k=>k=y) w1).setCell (p:=⟨y,3,none⟩) (.inl rfl) _;have BF:Below (w1.setCell ⟨y,3,none⟩ (.int .i64 ((1 -F.AL:Nat):Int))).heap.size (w1.setCell ⟨y,3,none⟩ (.int .i64 ((1 -F.AL:Nat):Int))) (((w1.setCell ⟨y,3,none⟩ (.int .i64 ((1 -F.AL:Nat):Int))).alloc (.cells #[.string (bs S)] 9)).drew):=((Ai _ _).alloc (Ae _) _).drew;have eH:(((w1.setCell ⟨y,3,none⟩ (.int .i64 ((1 -F.AL:Nat):Int))).alloc (.cells #[.string (bs S)] 9)).drew).heap[w1.heap.size]?=some (.cells #[.string (bs S)] 9):=by
  have:=AQ (w1.setCell ⟨y,3,none⟩ (.int .i64 ((1 -F.AL:Nat):Int))) (.cells #[.string (bs S)] 9);rwa[show(w1.setCell ⟨y,3,none⟩ (.int .i64 ((1 -F.AL:Nat):Int))).heap.size=w1.heap.size by simp[World.setCell]] at this
 have OC:=HD.below HB1.out;have hys:∀ k,fp k→¬ k=y:=fun k hk e=>by subst e;exact Te OC iC ap k (.inl rfl) hk
 have hfa:=(iC.aAy (1 -F.AL) XJ).below BF;have aiL:=(BF.block w.heap.size (by simp[World.setCell];omega)).trans ((FM.block w.heap.size eD (by omega)).trans Qk);have GL:KN (((w1.setCell ⟨y,3,none⟩ (.int .i64 ((1 -F.AL:Nat):Int))).alloc (.cells #[.string (bs S)] 9)).drew) y b m x w.heap.size w1.heap.size gv fp { F with AL:=1 -F.AL } S D:=⟨(OC.upd FM hys).below BF,hfa,aiL,eH,ap⟩;have De:A7 (fun k=>fp k∨k=y∨BS x gv k) w (((w1.setCell ⟨y,3,none⟩ (.int .i64 ((1 -F.AL:Nat):Int))).alloc (.cells #[.string (bs S)] 9)).drew):=((A7.of_below (F:=fun k=>fp k∨k=y∨BS x gv k) HB1).trans (FM.mono (fun i hi=>.inr (.inl hi))) (fun i hi=>.inl hi)).trans (A7.of_below BF) (fun i hi=>.inl hi);have JX:=Hi De;have Og:=Hi GL;clear FM BF eH OC hys hfa aiL De GL d3 Zj e1 c0;generalize (((w1.setCell ⟨y,3,none⟩ (.int .i64 ((1 -F.AL:Nat):Int))).alloc (.cells #[.string (bs S)] 9)).drew)=w3 at*;have Qn:=Hi (fun nq=>axr Og CG I7 nq);generalize Fh (QY { F with AL:=1 -F.AL } S) (D,F.w)=r at*;have K1:=Hi (fun(V:World) (f:Db V y b m x gv { F with AL:=1 -F.AL }) (h:V.heap[w.heap.size]?=some (.cells #[.pointer (some ⟨y,0,none⟩)] 42))=>(⟨Io h,f.cells.1,f.cells.2.2.2.2.2.1⟩:V.cell? ⟨w.heap.size,0,none⟩=some (.pointer (some ⟨y,0,none⟩))∧V.cell? ⟨y,0,none⟩=some (.pointer (some ⟨b,0,none⟩))∧V.cell? ⟨y,5,none⟩=some (.pointer (some ⟨x,0,none⟩))));obtain⟨d1,d2,d3⟩:=K1 _ Og.Ga Og.c2;go_wp2
 go_region_held3 (fun V=>V.cell? ⟨w.heap.size,0,none⟩=some (.pointer (some ⟨y,0,none⟩))∧V.cell? ⟨y,0,none⟩=some (.pointer (some ⟨b,0,none⟩))∧V.cell? ⟨y,5,none⟩=some (.pointer (some ⟨x,0,none⟩)))
  (first|exact⟨d1,d2,d3⟩|exact⟨c1,xD.cells.1,xD.cells.2.2.2.2.2.1⟩|go_keep)
  (first
   |(go_at_call 63;refine(Qn 1).mono ?_;rintro e w4 ⟨rfl,PH,gv4,g1,g2,g3,g4,g5,g6,g7⟩;have c1:=Io g7;have xD:=Hi g2;have HG:=Hi (Cw g1 (Cw g3 (Cw g4 (Cw g5 g6))));clear g1 g2 g3 g4 g5 g6 g7))
 all_goals
  go_wp2;go_ret;unfold Vp;rw[Vz.out];exact⟨rfl,PH,gv4,HG.1,xD,HG.2.1,JX.trans HG.2.2.1 (fun i hi=>.inl hi),fun i hi=>(HG.2.2.2.1 i hi).imp id (fun e=>Aw JX.size e),fun i hi=>(HG.2.2.2.2 i hi).imp id (fun e=>Aw JX.size e)⟩
end
section
open Ag
theorem Db.ado{w:World}{y b m x mv:Nat}{gv:Value}{F:St}{A:M}(h:Db w y b m x gv F)(hM:CO w mv A):Db (w.setCell ⟨y,4,none⟩ (.map (some mv))) y b mv x gv { F with m:=A }:=by
 have hu:A7 (fun k=>k=y) w (w.setCell ⟨y,4,none⟩ (.map (some mv))):=(A7.refl (fun k=>k=y) w).setCell (p:=⟨y,4,none⟩) (.inl rfl) _;exact⟨Cu w y 4 _ _ _ h.struct,hM.upd hu (fun e=>hM.Dl (e▸h.blk)),h.DL.upd hu (fun k hk e=>by subst e;exact Bb.ne hk h.blk (by decide) rfl) (fun k hk e=>by subst e;exact h.Yr.2.1 hk),h.fits⟩
theorem ala(D:A8)(F:St)(A:M):(OW D F A).2.1.m=if(OW D F A).2.2=0 then A else F.m:=by rw[al9]
theorem aqG{V:World}{y b m x c2 c6 cap:Nat}{gv:Value}{fp:Nat→Prop}{F:St}{D:A8}{q:Option Addr}{G:List T}(hd:BB V b D fp)(hf:Db V y b m x gv F)(ap:¬ fp m)(h2:V.heap[c2]?=some (.cells #[.pointer (some ⟨y,0,none⟩)] 42))(h6:V.heap[c6]?=some (.cells #[.slice q G.length cap] 61))(ko:¬ BS x gv c6)
  (hx:Du V q G)(W9:∀ p,q=some p→G≠[]→¬ fp p.block∧¬ BS x gv p.block)(hlen:G.length≤1000000)(D7:rowLen G≤1000000)(I7:D.loose.length≤400000000)(OI:F.w.groups.length≤1000000)(nq:Nat):
  Calls prog 63 #[.pointer (some ⟨y,0,none⟩),.slice (some ⟨V.heap.size,0,none⟩) 1 1] ((V.alloc (.cells #[.func (.func 64) #[] #[.pointer (some ⟨c2,0,none⟩),.pointer (some ⟨c6,0,none⟩)]] 129)).drewN nq) fun e w'=>e=.returned (.int .i64 (Dx D F.w G).2.2)∧∃ fp' Fp,BB w' b (Dx D F.w G).1 fp'∧Db w' y b m x Fp { F with w:=(Dx D F.w G).2.1,fault:=if(Dx D F.w G).2.2=0 then F.fault else(Dx D F.w G).2.2 }∧¬ fp' m∧A7 (fun k=>fp k∨k=y∨BS x gv k) V w'∧Dj fp fp' V∧Dj (BS x gv) (BS x Fp) V∧w'.heap[c2]?=some (.cells #[.pointer (some ⟨y,0,none⟩)] 42):=by
 have hb:Bw V ((V.alloc (.cells #[.func (.func 64) #[] #[.pointer (some ⟨c2,0,none⟩),.pointer (some ⟨c6,0,none⟩)]] 129)).drewN nq):=((Ai _ _).alloc (Ae _) _).trans ((FB _ nq).mono (by rw[Ay];omega));have Af:((V.alloc (.cells #[.func (.func 64) #[] #[.pointer (some ⟨c2,0,none⟩),.pointer (some ⟨c6,0,none⟩)]] 129)).drewN nq).heap[V.heap.size]?=some (.cells #[.func (.func 64) #[] #[.pointer (some ⟨c2,0,none⟩),.pointer (some ⟨c6,0,none⟩)]] 129):=((FB _ nq).block V.heap.size (by rw[Ay];omega)).trans (AQ V _);have kz:=hd.below hb;have OE:=hf.below hb;have S9:=hx.below hb;have UD:=(hb.block c2 (Ao h2)).trans h2;have Zm:=(hb.block c6 (Ao h6)).trans h6;have Fq:=A7.of_below (F:=fun k=>fp k∨k=y∨BS x gv k) hb;have Bc:∀ {P P':Nat→Prop},Dj P P' ((V.alloc (.cells #[.func (.func 64) #[] #[.pointer (some ⟨c2,0,none⟩),.pointer (some ⟨c6,0,none⟩)]] 129)).drewN nq)→Dj P P' V:=fun hs i hi=>(hs i hi).imp id (fun e=>Aw hb.size e)
 generalize (V.alloc (.cells #[.func (.func 64) #[] #[.pointer (some ⟨c2,0,none⟩),.pointer (some ⟨c6,0,none⟩)]] 129)).drewN nq=w0 at*;generalize V.heap.size=g at*;have hk:∀ {k t},Bb w0 k t→t≠144→t≠242→t≠224→t≠61→¬ (fp k∨BS x gv k):=fun hb h1 h2 h3 h4 e=>by
  rcases e with e|e
  ·exact kz.Dl _ e h1 h2 hb
  ·rcases OE.DL.kind e with g|g
   ·exact Bb.ne hb g h3 rfl
   ·exact Bb.ne hb g h4 rfl
 refine(agT (σ:=A8×BD) (I:=fun k E W=>(k=0→W=w0∧E=(D,F.w))∧∃ EO Ev,BB W b E.1 EO∧Cm W x b Ev E.2∧A7 (fun k=>fp k∨BS x gv k) w0 W∧Dj fp EO w0∧Dj (BS x gv) (BS x Ev) w0)
  (J:=fun E W=>∃ EO Ev,BB W b E.1 EO∧Cm W x b Ev E.2∧A7 (fun k=>fp k∨BS x gv k) w0 W∧Dj fp EO w0∧Dj (BS x gv) (BS x Ev) w0) (s0:=(D,F.w)) (cap:=1) (g:=g) (n:=1) (fs:=[fun E=>(((Dx E.1 E.2 G).1,(Dx E.1 E.2 G).2.1),(Dx E.1 E.2 G).2.2)])
  (vs:=[.func (.func 64) #[] #[.pointer (some ⟨c2,0,none⟩),.pointer (some ⟨c6,0,none⟩)]])
  ⟨fun _=>⟨rfl,rfl⟩,fp,gv,kz,OE.DL,A7.refl _ _,fun _ h=>.inl h,fun _ h=>.inl h⟩ ⟨rfl,fun i h h'=>?_⟩ ?_ rfl (by omega) ?_).mono ?_
 ·match i,h with
  |0,_=>
   refine⟨_,_,_,rfl,enters_of func64 (by kernel_rfl) rfl,fun E W hI=>?_⟩;obtain⟨rfl,rfl⟩:=hI.1 rfl;refine(arA kz OE ap UD Zm ko S9 W9 hlen D7 I7 OI).mono fun e W' hp=>?_
   exact⟨hp.1,fun _=>⟨fun h=>absurd h (by omega),hp.2⟩,fun _=>hp.2⟩
 ·rintro k E W ⟨_,EO,Ev,g1,g2,g3,g4,g5⟩ i u hu;rw[BL W g i _ _ _ ((g3.block g (Ao Af) (hk ⟨_,_,Af⟩ (by decide) (by decide) (by decide) (by decide))).trans Af),←hu];rw[←Dy]
 ·rintro E W ⟨EO,Ev,g1,g2,g3,g4,g5⟩;have e:=(g3.block y (Ao OE.struct) (hk OE.blk (by decide) (by decide) (by decide) (by decide))).trans OE.struct;exact⟨⟨.int .i64 F.fault,by rw[BL W y _ _ _ _ e];rfl⟩,Dt W y 6 _ _ e⟩
 ·have hG1:Fh [fun E:A8×BD=>(((Dx E.1 E.2 G).1,(Dx E.1 E.2 G).2.1),(Dx E.1 E.2 G).2.2)] (D,F.w)=(((Dx D F.w G).1,(Dx D F.w G).2.1),(Dx D F.w G).2.2):=by
   by_cases hr:(Dx D F.w G).2.2=0<;>simp[Fh,hr]
  rw[hG1];generalize Dx D F.w G=r at*;rintro e w'⟨rfl,r1,r2⟩;refine⟨rfl,?_⟩;have key:∀ W,(∃ EO Ev,BB W b r.1 EO∧Cm W x b Ev r.2.1∧A7 (fun k=>fp k∨BS x gv k) w0 W∧Dj fp EO w0∧Dj (BS x gv) (BS x Ev) w0)→∃ fp' Fp,BB W b r.1 fp'∧Db W y b m x Fp { F with w:=r.2.1 }∧¬ fp' m∧A7 (fun k=>fp k∨k=y∨BS x gv k) V W∧Dj fp fp' V∧Dj (BS x gv) (BS x Fp) V∧W.heap[c2]?=some (.cells #[.pointer (some ⟨y,0,none⟩)] 42):=by
   rintro W⟨EO,Ev,g1,g2,g3,g4,g5⟩;exact⟨EO,Ev,g1,⟨(g3.block y (Ao OE.struct) (hk OE.blk (by decide) (by decide) (by decide) (by decide))).trans OE.struct,OE.map.upd g3 (fun e=>e.elim ap OE.Yr.2.2),g2,OE.fits⟩,fun e=>(g4 m e).elim ap (fun e2=>by have:=OE.map.lt;omega),Fq.trans (g3.mono (fun i hi=>hi.elim .inl (fun e=>.inr (.inr e)))) (fun i hi=>.inl hi),Bc g4,Bc g5,(g3.block c2 (Ao UD) (hk ⟨_,_,UD⟩ (by decide) (by decide) (by decide) (by decide))).trans UD⟩
  by_cases hr:r.2.2=0
  ·obtain⟨EO,Ev,g⟩:=key _ (r1 hr).2;rw[Ad hr];exact⟨EO,Ev,g⟩
  ·obtain⟨W,hW,rfl⟩:=r2 hr;obtain⟨EO,Ev,g1,g2,g3,g4,g5,g6,g7⟩:=key _ hW;rw[Ab hr];have hu:A7 (fun k=>k=y) W (W.setCell ⟨y,6,none⟩ (.int .i64 r.2.2)):=(A7.refl (fun k=>k=y) W).setCell (p:=⟨y,6,none⟩) (.inl rfl) _;exact⟨EO,Ev,g1.upd hu (fun k hk e=>by subst e;exact Te g1 g2 g3 k (.inl rfl) hk),g2.vI r.2.2,g3,g4.trans hu (fun i hi=>.inl (.inr (.inl hi))),g5,g6,(hu.block c2 (Ao g7) (fun e=>by subst e;exact Bb.ne ⟨_,_,g7⟩ g2.blk (by decide) rfl)).trans g7⟩
def SB(w:World)(y b m x:Nat)(gv:Value)(fp:Nat→Prop)(r:A8×St×Int)(e:Ending)(w':World):Prop:=
 ∃ m',Vp w y b m x gv fp r m' e w'∧(m'=m∨w.heap.size≤m')
section
variable {w:World}{y b m x cap:Nat}{gv:Value}{fp:Nat→Prop}{F:St}{D:A8}{a:Option Addr}{l:List Am}
theorem agc{w':World}{e:Ending}{k:Int}(hd:BB w b D fp)(hf:Db w y b m x gv F)(ap:¬ fp m)(hr:JC D F l=(D,F,k))(he:e=.returned (.int .i64 k))(hb:Bw w w'):SB w y b m x gv fp (JC D F l) e w':=by
 rw[hr];exact⟨m,⟨he,fp,gv,hd.below hb,hf.below hb,ap,A7.of_below hb,fun _ h=>.inl h,fun _ h=>.inl h⟩,.inl rfl⟩
theorem agP(hd:BB w b D fp)(hf:Db w y b m x gv F)(ap:¬ fp m)(hL:Eb w a l)(hlen:l.length≤100000)(hok:∀ c∈l,c.name.length≤maxLen∧c.data.length≤maxLen)(h0:F.fault=0)(hall:l.all Am.may=false):
  Calls prog 17 #[.pointer (some ⟨y,0,none⟩),.slice a l.length cap] w fun e w'=>SB w y b m x gv fp (JC D F l) e w':=by
 have HD:=Hi hd;have HF:=Hi hf;have hR:JC D F l=(D,F,2):=by unfold JC;rw[Ab (by simp[h0]),Ad hall]
 have HR:=Hi hR;have Bg:=(Ai w.heap.size w).alloc (Ae _) (.cells #[.pointer (some ⟨y,0,none⟩)] 42);have AR:=Hi Bg;obtain⟨_,_,_,_,_,_,c6,_⟩:=(hf.below Bg).cells;have HC:=Hi (agR (cap:=cap) (hL.below Bg) (by omega) hok);rw[hall] at HC;rw[h0] at c6;clear hd hf hR Bg h0 hL hok hall
 go_in
 go_wp2_with fail;refine HC.mono ?_;rintro e w1⟨rfl,hb⟩;have HB1:=bH AR hb;clear hb;go_wp2;go_ret;exact agc HD HF ap HR rfl HB1.out
theorem agQ(hd:BB w b D fp)(hf:Db w y b m x gv F)(ap:¬ fp m)(hL:Eb w a l)(hlen:l.length≤100000)(hok:∀ c∈l,c.name.length≤1000000∧c.data.length≤maxLen)(avF:Ag.Good F.m)(FM:used (made F.m l)≤1000000000)(XE:F.m.length≤1000000000)(BQ:F.size≤8192)(Af:rowLen (group l)≤1000000)(I7:D.loose.length≤300000000)(OI:F.w.groups.length≤1000000)
  (h0:F.fault=0)(hall:l.all Am.may=true):
  Calls prog 17 #[.pointer (some ⟨y,0,none⟩),.slice a l.length cap] w fun e w'=>SB w y b m x gv fp (JC D F l) e w':=by
 have HD:=Hi hd;have HF:=Hi hf;have HL:=Hi hL;have Gv:=Hi hok
 have HR:Hid (JC D F l=if F.room < used (made F.m l) then(D,F,4) else
   if F.fits (group l)=true then
    if(Dx D F.w (group l)).2.2=0 then((Dx D F.w (group l)).1,{ F with m:=made F.m l,w:=(Dx D F.w (group l)).2.1 },0)
    else((Dx D F.w (group l)).1,{ F with w:=(Dx D F.w (group l)).2.1,fault:=(Dx D F.w (group l)).2.2 },(Dx D F.w (group l)).2.2)
   else OW D F (made F.m l)):=Hi (by unfold JC;rw[Ab (by simp[h0]),Ab (by simp[hall])])
 have Bg:=(Ai w.heap.size w).alloc (Ae _) (.cells #[.pointer (some ⟨y,0,none⟩)] 42);have AR:=Hi Bg;have Md:=Hi (AQ w (.cells #[.pointer (some ⟨y,0,none⟩)] 42));obtain⟨_,_,_,_,_,_,c6,_⟩:=(hf.below Bg).cells;have HC:=Hi (agR (cap:=cap) (hL.below Bg) (by omega) (fun c hc=>⟨Aw (hok c hc).1 (by unfold maxLen;omega),(hok c hc).2⟩));rw[hall] at HC;rw[h0] at c6;have HG:=Hi (show Ag.Good (made F.m l) from avF.made hf.map.1 (MH.1 hall));have H0:=Hi h0;clear hd hf Bg h0 hL hok hall
 go_in
 go_wp2_with fail;refine HC.mono ?_;rintro e w1⟨rfl,hb⟩;have HB1:=bH AR hb;have GY:=(hb.block w.heap.size (Ao Md)).trans Md.out;have Qk:=Hi GY;have c0:=Io GY;have XT:=HF.below HB1.out;obtain⟨_,_,_,_,c4,_,_,_⟩:=XT.cells;obtain⟨es,clock,OD,BN⟩:=XT.map.arz;have SI:=Hi OD;have EE:=Hi BN;clear hb GY c6 HC XT OD BN;go_wp2_with fail;refine(asJ _ m es clock SI).mono ?_;rintro e w2⟨rfl,rfl⟩;have eD:w.heap.size < w1.heap.size:=Ao Qk.out;have Ce:Bw w1 (w1.alloc (.map es clock)):=(Ai _ _).alloc (Ae _) _;have Ak:=bH HB1 Ce;have Mf:=Hi (HL.below Ak);have xg:=Hi ((Ce.block w.heap.size eD).trans Qk);have Ex:w.heap.size≤w1.heap.size:=HB1.size;clear c0 c4 Qk HB1;generalize w1.heap.size=mv at*;generalize w1.alloc (.map es clock)=w2 at*;clear Ce;go_wp2_with fail;refine(aa2 (cap:=cap) EE Mf (by omega) (by omega) (fun c hc=>Aw (Gv c hc).1 (by unfold maxLen;omega))).mono ?_;rintro e w3⟨rfl,UU,De⟩;have X6:=Hi UU;have Au:=Hi (Cy Ak De (fun k e=>by subst e;exact Ex) Ak.size);have K8:=(De.block w.heap.size (Ao xg) (by omega)).trans xg.out;have WV:=Hi K8;have c0:=Io K8;clear UU De K8;have HF3:=Hi (HF.below Au);have EY:=Hi ((Ai w3.heap.size w3).drew);have Fz:=Hi (atF (X6.below EY) FM);have K0:=Hi (fun(V:World) (h:Bw w3 V)=>(h.cell (p:=⟨w.heap.size,0,none⟩) (Ao WV)).trans c0);have xE:=Hi (HF3.below EY);by_cases Tt:F.room < used (made F.m l)
 ·have Ff:=Hi (HR.trans (Ad Tt));have hq:(F.room:Int) < (used (made F.m l):Int):=by omega
  clear Tt HR;have VD:=Hi (fun(V:World) (h:Below w3.drew.heap.size w3.drew V)=>ahh (xE.below h));generalize used (made F.m l)=U at*;generalize F.room=R at*;go_wp2
  go_region_held3 (fun V=>V.cell? ⟨w.heap.size,0,none⟩=some (.pointer (some ⟨y,0,none⟩)))
   (first|exact K0 _ EY|exact K0 _ AX)
   (first
    |(go_at_call 57;refine Fz.mono ?_;rintro e w4 ⟨rfl,AB⟩;have DV:=Hi AB;have AX:=bH EY AB;clear AB)
    |(go_at_call 58;refine(VD _ DV).mono ?_;rintro e w5 ⟨rfl,rfl⟩))
  all_goals
   go_wp2;go_ret;exact agc HD HF ap Ff rfl (bT Au AX)
 ·have Ff:=Hi (HR.trans (Ab Tt));have hq:¬ F.room < used (made F.m l):=Tt;have Wy:used (made F.m l)≤1000000:=by unfold St.room at Tt;omega
  have afr:=Hi Wy;clear Tt HR Wy;have VD:=Hi (fun(V:World) (h:Below w3.drew.heap.size w3.drew V)=>ahh (xE.below h));generalize hA:made F.m l=A at*;generalize hU:used A=U at*;generalize F.room=R at*;go_wp2
  go_region_held3 (fun V=>V.cell? ⟨w.heap.size,0,none⟩=some (.pointer (some ⟨y,0,none⟩)))
   (first|exact K0 _ EY|exact K0 _ AX)
   (first
    |(go_at_call 57;refine Fz.mono ?_;rintro e w4 ⟨rfl,AB⟩;have DV:=Hi AB;have AX:=bH EY AB;clear AB)
    |(go_at_call 58;refine(VD _ DV).mono ?_;rintro e w5 ⟨rfl,rfl⟩))
  have CZ:=bH Au AX;have G8:=Hi (X6.below AX);have xu:=Hi ((AX.block w.heap.size (Ao WV)).trans WV);have bE:=Hi (HL.below CZ);clear DV AX VD xE K0 Fz EY HF3 WV Au X6 c0 Mf;go_wp2_with fail;refine(asQ (cap:=cap) bE (by omega) (fun c hc=>(Gv c hc).1)).mono ?_;rintro e w6⟨q6,cap6,rfl,IM,CS⟩;have dG:=ahQ l;clear hq;generalize group l=G at*;obtain⟨q,aDo,e6,fB⟩:=vS IM;injection e6 with e6a e6b e6c
  subst e6a e6c;have HX6:=Hi fB
  have oF:=Hi (show ∀ p,q6=some p→w4.heap.size≤p.block from fun p hp=>by
   rcases IM.2 with⟨e1,_⟩|⟨g,c2,cur,e1,Mq,_⟩
   ·rw[hp] at e1;simp at e1
   ·rw[hp] at e1;injection e1 with e1;injection e1 with e1;subst e1;exact Mq)
  have Ce:Bw w6 (w6.alloc (.cells #[.slice q6 G.length cap6] 61)):=(Ai _ _).alloc (Ae _) _;have qR:=CS.trans (Ce.mono CS.size);have Eo:=bH CZ qR;have xx:=Hi ((qR.block w.heap.size (Ao xu)).trans xu);have HM7:=Hi (G8.below qR);have yB:=Hi (HX6.below Ce);have h6n:=AQ w6 (.cells #[.slice q6 G.length cap6] 61);have wS:=Hi h6n;have Ka:w.heap.size≤w6.heap.size:=Aw CZ.size CS.size;have c6:=Io h6n;have HQW:=Hi (show ∀ p,q6=some p→w.heap.size≤p.block from fun p hp=>Aw CZ.size (oF p hp));have og:=Hi (aCq G q6 cap6 _ yB (by unfold maxLen;omega) (by omega))
  have Ol:=Hi (show ∀ k,w.heap.size≤k→¬ (fp k∨k=y∨BS x gv k) from fun k hk e=>by
   have h1:=HD.lt k;have h2:=HF.lt k;rcases e with e|e|e
   ·have:=h1 e;omega
   ·have:=h2 (.inl e);omega
   ·have:=h2 (.inr (.inr e));omega)
  clear Ce qR CS IM fB HX6 oF h6n CZ xu G8 bE xg EE SI Ak e6b;have aDL:G.length≤200000:=by omega
  clear dG;go_wp2_with fail;refine og.mono ?_;rintro e w8⟨rfl,KU⟩;have Rp:=bH Eo KU;have bn:=Hi ((KU.block w.heap.size (Ao xx)).trans xx);have Uf:=Hi (HM7.below KU);have HX8:=Hi (yB.below KU);have H68:=Hi ((KU.block w6.heap.size (Ao wS)).trans wS);clear KU Eo xx HM7 yB wS og c6;generalize w6.heap.size=zo at*;have HF8:=Hi (HF.below Rp);have c2:=Io bn.out;obtain⟨_,_,_,_,_,c5,_,_⟩:=HF8.cells;cases Jj:Av.I4 G with
  |none=>
   have BX:=Hi (Ff.trans (Ab (by unfold St.fits;rw[Jj];simp)));have hv:JD G=([],5):=(by unfold JD;rw[Jj]);rw[hv];clear Jj hv Ff;have MN:=Rp;have U7:=bn;have Rv:=Uf;clear c5 c2;have iy:=Hi (HD.below MN);have iE:=Hi (HF.below MN);have Ty:=ala D F A;have ZJ:=ah7 iy iE ap Rv HG (by rw[hU];exact afr.out) I7;have c2:=Io U7.out;obtain⟨D1,F1,k1,hr⟩:∃ D1 F1 k1,OW D F A=(D1,F1,k1):=⟨_,_,_,rfl⟩;rw[hr] at Ty ZJ BX;have nZ:=Hi ZJ;have iO:=Hi (show F1.m=if k1=0 then A else F.m from Ty);clear Ty ZJ hr;go_wp2_with fail;refine nZ.mono ?_;rintro e EB⟨rfl,EO,Ev,g1,g2,g3,g4,g5,g6⟩;have kg:=(g4.block w.heap.size (Ao U7) (Ol _ (Ae _))).trans U7.out;have iP:=Hi (Rv.upd g4 (Ol _ Ex));have c2:=Io kg;have IG:=Hi g1;have Dg:=Hi (show Db EB y b m x Ev { F1 with m:=F.m } from g2);have FR:=Hi g3;have GR:=Hi ((A7.of_below (F:=fun k=>fp k∨k=y∨BS x gv k) MN).trans g4 (fun i hi=>.inl hi));have iK:=Hi g5;have GU:=Hi (show Dj fp EO w from fun i hi=>(g5 i hi).imp id (fun e=>Aw MN.size e));have Qq:=Hi (show Dj (BS x gv) (BS x Ev) w from fun i hi=>(g6 i hi).imp id (fun e=>Aw MN.size e));obtain⟨_,_,_,_,c4,_,_,cf⟩:=Dg.cells;have pM:=cf 4;clear g1 g2 g3 g4 g5 g6 cf kg;by_cases h0:k1=0
   ·subst h0;have Ti:{ ({ F1 with m:=F.m }:St) with m:=A }=F1:=(by have:=iO.out;rw[Ad rfl] at this;rw[←this]);have Ua:=Hi Ti;clear Ti;go_wp2;go_ret;unfold SB Vp;rw[BX.out];have hu:A7 (fun k=>k=y) EB (EB.setCell ⟨y,4,none⟩ (.map (some mv))):=(A7.refl (fun k=>k=y) EB).setCell (p:=⟨y,4,none⟩) (.inl rfl) _;refine⟨mv,⟨rfl,EO,Ev,IG.upd hu (fun k hk e=>by subst e;exact Te IG Dg FR k (.inl rfl) hk),?_,fun e=>(iK mv e).elim (fun f=>Ol _ Ex (.inl f)) (fun f=>by have:=Rv.lt;omega),GR.trans hu (fun i hi=>.inl (.inr (.inl hi))),GU.out,Qq.out⟩,.inr Ex⟩;have:=Dg.ado iP.out;rwa[Ua.out] at this
   ·have Aj:(k1 == 0)=false:=(by simp[h0]);have Ti:({ F1 with m:=F.m }:St)=F1:=(by have:=iO.out;rw[Ab h0] at this;rw[←this]);have Ua:=Hi Ti;clear Ti h0;go_wp2;go_ret;unfold SB Vp;rw[BX.out];exact⟨m,⟨rfl,EO,Ev,IG,by rw[←Ua.out];exact Dg.out,FR,GR,GU,Qq⟩,.inl rfl⟩
  |some s=>
   have hv:JD G=(s,0):=(by unfold JD;rw[Jj]);rw[hv];have VD:=Hi (fun(V:World) (h:Bw w8 V)=>aCv (HF8.DL.below h));by_cases Ji:s.length / 64≤F.w.n -1 -F.w.used
   ·have BX:=Hi (Ff.trans (Ad (by unfold St.fits;rw[Jj];simp[Ji])));have hq:¬ F.w.n -1 -F.w.used < s.length / 64:=(by omega);clear Jj hv Ff Ji;generalize s.length / 64=N at*;generalize F.w.n -1 -F.w.used=N2 at*;go_wp2_with fail;refine(VD _ (Ai _ _)).mono ?_;rintro e w9⟨rfl,FD⟩;have MN:=bH Rp FD;have U7:=Hi ((FD.block w.heap.size (Ao bn)).trans bn);have Rv:=Hi (Uf.below FD);have HX9:=Hi (HX8.below FD);have H69:=Hi ((FD.block zo (Ao H68)).trans H68);clear FD VD c5 c2;have iy:=Hi (HD.below MN);have iE:=Hi (HF.below MN);have hcw:¬ BS x gv zo:=fun e=>Ol zo Ka (.inr (.inr e))
    have aaN:=aqG iy iE ap U7 H69 hcw HX9 (fun p hp _=>⟨fun e=>Ol _ (HQW p hp) (.inl e),fun e=>Ol _ (HQW p hp) (.inr (.inr e))⟩) (by omega) Af (by omega) OI 0;have c2:=Io U7.out;obtain⟨D1,L1,k1,hr⟩:∃ D1 L1 k1,Dx D F.w G=(D1,L1,k1):=⟨_,_,_,rfl⟩;rw[hr] at aaN BX;have nS:=Hi aaN;clear aaN hr hcw;go_wp2_with fail;refine nS.mono ?_;rintro e EB⟨rfl,EO,Ev,g1,g2,g3,g4,g5,g6,g7⟩;have iP:=Hi (Rv.upd g4 (Ol _ Ex));have c2:=Io g7;have IG:=Hi g1;have FR:=Hi g3;have Dg:=Hi (show Db EB y b m x Ev { F with w:=L1,fault:=if k1=0 then F.fault else k1 } from g2);have GR:=Hi ((A7.of_below (F:=fun k=>fp k∨k=y∨BS x gv k) MN).trans g4 (fun i hi=>.inl hi));have iK:=Hi g5;have GU:=Hi (show Dj fp EO w from fun i hi=>(g5 i hi).imp id (fun e=>Aw MN.size e));have Qq:=Hi (show Dj (BS x gv) (BS x Ev) w from fun i hi=>(g6 i hi).imp id (fun e=>Aw MN.size e));obtain⟨_,_,_,_,c4,_,_,cf⟩:=Dg.cells;have pM:=cf 4;clear g1 g2 g3 g4 g5 g6 g7 cf;by_cases h0:k1=0
    ·subst h0;have MS:=Hi (BX.trans (Ad rfl));clear BX;go_wp2;go_ret;unfold SB Vp;rw[MS.out];have hu:A7 (fun k=>k=y) EB (EB.setCell ⟨y,4,none⟩ (.map (some mv))):=(A7.refl (fun k=>k=y) EB).setCell (p:=⟨y,4,none⟩) (.inl rfl) _;exact⟨mv,⟨rfl,EO,Ev,IG.upd hu (fun k hk e=>by subst e;exact Te IG Dg FR k (.inl rfl) hk),Dg.ado iP.out,fun e=>(iK mv e).elim (fun f=>Ol _ Ex (.inl f)) (fun f=>by have:=Rv.lt;omega),GR.trans hu (fun i hi=>.inl (.inr (.inl hi))),GU.out,Qq.out⟩,.inr Ex⟩
    ·have Aj:(k1 == 0)=false:=(by simp[h0]);have MS:=Hi (BX.trans (Ab h0));have apk:Hid (Db EB y b m x Ev { F with w:=L1,fault:=k1 }):=Hi (by have:=Dg.out;rwa[Ab h0] at this);clear BX h0;go_wp2;go_ret;unfold SB Vp;rw[MS.out];exact⟨m,⟨rfl,EO,Ev,IG,apk,FR,GR,GU,Qq⟩,.inl rfl⟩
   ·have BX:=Hi (Ff.trans (Ab (by unfold St.fits;rw[Jj];simp[Ji])));have hq:F.w.n -1 -F.w.used < s.length / 64:=(by omega);clear Jj hv Ff Ji;generalize s.length / 64=N at*;generalize F.w.n -1 -F.w.used=N2 at*;go_wp2_with fail;refine(VD _ (Ai _ _)).mono ?_;rintro e w9⟨rfl,FD⟩;have MN:=bH Rp FD;have U7:=Hi ((FD.block w.heap.size (Ao bn)).trans bn);have Rv:=Hi (Uf.below FD);clear FD VD c5 c2;have iy:=Hi (HD.below MN);have iE:=Hi (HF.below MN);have Ty:=ala D F A;have ZJ:=ah7 iy iE ap Rv HG (by rw[hU];exact afr.out) I7;have c2:=Io U7.out;obtain⟨D1,F1,k1,hr⟩:∃ D1 F1 k1,OW D F A=(D1,F1,k1):=⟨_,_,_,rfl⟩;rw[hr] at Ty ZJ BX;have nZ:=Hi ZJ;have iO:=Hi (show F1.m=if k1=0 then A else F.m from Ty);clear Ty ZJ hr;go_wp2_with fail;refine nZ.mono ?_;rintro e EB⟨rfl,EO,Ev,g1,g2,g3,g4,g5,g6⟩;have kg:=(g4.block w.heap.size (Ao U7) (Ol _ (Ae _))).trans U7.out;have iP:=Hi (Rv.upd g4 (Ol _ Ex));have c2:=Io kg;have IG:=Hi g1;have Dg:=Hi (show Db EB y b m x Ev { F1 with m:=F.m } from g2);have FR:=Hi g3;have GR:=Hi ((A7.of_below (F:=fun k=>fp k∨k=y∨BS x gv k) MN).trans g4 (fun i hi=>.inl hi));have iK:=Hi g5;have GU:=Hi (show Dj fp EO w from fun i hi=>(g5 i hi).imp id (fun e=>Aw MN.size e));have Qq:=Hi (show Dj (BS x gv) (BS x Ev) w from fun i hi=>(g6 i hi).imp id (fun e=>Aw MN.size e));obtain⟨_,_,_,_,c4,_,_,cf⟩:=Dg.cells;have pM:=cf 4;clear g1 g2 g3 g4 g5 g6 cf kg;by_cases h0:k1=0
    ·subst h0;have Ti:{ ({ F1 with m:=F.m }:St) with m:=A }=F1:=(by have:=iO.out;rw[Ad rfl] at this;rw[←this]);have Ua:=Hi Ti;clear Ti;go_wp2;go_ret;unfold SB Vp;rw[BX.out];have hu:A7 (fun k=>k=y) EB (EB.setCell ⟨y,4,none⟩ (.map (some mv))):=(A7.refl (fun k=>k=y) EB).setCell (p:=⟨y,4,none⟩) (.inl rfl) _;refine⟨mv,⟨rfl,EO,Ev,IG.upd hu (fun k hk e=>by subst e;exact Te IG Dg FR k (.inl rfl) hk),?_,fun e=>(iK mv e).elim (fun f=>Ol _ Ex (.inl f)) (fun f=>by have:=Rv.lt;omega),GR.trans hu (fun i hi=>.inl (.inr (.inl hi))),GU.out,Qq.out⟩,.inr Ex⟩;have:=Dg.ado iP.out;rwa[Ua.out] at this
    ·have Aj:(k1 == 0)=false:=(by simp[h0]);have Ti:({ F1 with m:=F.m }:St)=F1:=(by have:=iO.out;rw[Ab h0] at this;rw[←this]);have Ua:=Hi Ti;clear Ti h0;go_wp2;go_ret;unfold SB Vp;rw[BX.out];exact⟨m,⟨rfl,EO,Ev,IG,by rw[←Ua.out];exact Dg.out,FR,GR,GU,Qq⟩,.inl rfl⟩
end
end
section
open Ag
theorem ahS:∀ {L:List (List (List UInt8))} {S:List UInt8},Av.KT L=some S→64*L.length≤S.length∧∀ l∈L,rowLen l≤S.length
 |[],S,h=>by simp[Av.KT] at h;subst h;simp
 |t :: L,S,h=>by
  simp only[Av.KT] at h;cases h1:Av.I4 t with
  |none=>rw[h1] at h;cases h
  |some a=>
   rw[h1] at h;simp only[CL] at h;cases h2:Av.KT L with
   |none=>rw[h2] at h;cases h
   |some b=>
    rw[h2] at h;simp only[EK,Ci] at h;subst h;obtain⟨g1,g2⟩:=ahS h2;obtain⟨_,g4⟩:=Av.jC h1;obtain⟨c,hc,e⟩:=Av.qO h1;have g5:=vB hc;have g6:c.length≤a.length:=(by rw[e,Av.Sg,AA,A9.C9];omega);rw[AA,BG];refine⟨by omega,fun l hl=>?_⟩;rcases Cc.1 hl with rfl|hl
    ·omega
    ·have:=g2 l hl;omega
theorem aA2(l:List T):2*l.length≤rowLen l∧∀ s∈l,s.length≤rowLen l:=by
 unfold rowLen
 induction l with
 |nil=>simp
 |cons x l ih=>
  obtain⟨h1,h2⟩:=ih;simp only[Ca,DR,BG];refine⟨by omega,fun s hs=>?_⟩;rcases Cc.1 hs with rfl|hs
  ·omega
  ·have:=h2 s hs;omega
theorem alq{D:A8}(hF:D.BO){g u:Nat}{G:List (List T)}{n:Nat}(h1:1≤n)(hn:1+n≤D.n)(h:Av.Jq (A8.text D.now 1 n) n=some (g,u,G)):g < 18446744073709551616∧G.length≤20000∧∀ l∈G,l.length≤1000000∧∀ s∈l,s.length≤2000000:=by
 have GM:=hF.n2;have hlen:(A8.text D.now 1 n).length=64*n:=A8.mX hF.now 1 n (by omega);obtain⟨b1,b2,b3,_⟩:=Av.mg h (by rw[hlen];exact Ae _) h1;have hS:(((A8.text D.now 1 n).drop 64).take (64*u)).length≤64*n:=by rw[AZ,Ct,hlen];omega
 obtain⟨c1,c2⟩:=ahS b3;refine⟨b2,by omega,fun l hl=>?_⟩;have:=c2 l hl;obtain⟨d1,d2⟩:=aA2 l;exact⟨by omega,fun s hs=>by have:=d2 s hs;omega⟩
theorem alo{f:Nat→T}{log size a num:Nat}{A:M}(h:Nn f log size=some (a,num,A)):(f 0=Av.pad [0]∧a=0∧num=0∧A=[])∨(a≤1∧f 0=Ag.mark a num∧num=A9.val (((f 0).take 13).drop 5)∧∃ t r,cut (A8.text f (CV log size a) size)=some (t,r)∧Ag.read t=some A):=by
 unfold Nn at h;by_cases h2:f 0=Av.pad [0]
 ·rw[Ad h2] at h;simp only[Ci,ML] at h;exact .inl ⟨h2,h.1.symm,h.2.1.symm,h.2.2.symm⟩
 ·rw[Ab h2] at h;by_cases h3:((f 0).getD 4 0).toNat≤1∧f 0=Ag.mark ((f 0).getD 4 0).toNat (A9.val (((f 0).take 13).drop 5))
  ·rw[Ad h3] at h;cases hc:cut (A8.text f (CV log size ((f 0).getD 4 0).toNat) size) with
   |none=>rw[hc] at h;cases h
   |some p=>
    rw[hc] at h;simp only[CL] at h;obtain⟨m,hm,e⟩:=SA.1 h;simp only[ML] at e;obtain⟨e1,e2,e3⟩:=e;rw[e1,e2] at h3;rw[e1] at hc;exact .inr ⟨h3.1,h3.2,e2.symm,p.1,p.2,hc,by rw[hm,e3]⟩
  ·rw[Ab h3] at h;cases h
theorem ayF{D D':A8}{F:St}{k:Int}(h:fP D=(some F,D',k)):k=0∧8≤D.n∧D.down=false∧∃ a num A g u G cs,Nn D.now (lg D.n) (sz D.n)=some (a,num,A)∧Av.Jq (A8.text D.now 1 (lg D.n)) (lg D.n)=some (g,u,G)∧¬ (0 < num∧g < num -1)∧Qd G=some cs∧
  ((g < num∧DN D ⟨1,lg D.n,g,u,G,0⟩=(D',F.w,0)∧F=⟨lg D.n,sz D.n,a,A,F.w,0⟩)∨(¬ g < num∧D'=D∧F=⟨lg D.n,sz D.n,a,OX A cs,⟨1,lg D.n,g,u,G,0⟩,0⟩)):=by
 unfold fP at h;by_cases h8:D.n < 8
 ·rw[Ad h8] at h;simp at h
 rw[Ab h8] at h;by_cases hd:D.down=true
 ·rw[Ad hd] at h;simp at h
 rw[Ab hd] at h;cases h1:Nn D.now (lg D.n) (sz D.n) with
 |none=>rw[h1] at h;simp at h
 |some p=>
  obtain⟨a,num,A⟩:=p;rw[h1] at h;simp only at h;cases h2:Av.Jq (A8.text D.now 1 (lg D.n)) (lg D.n) with
  |none=>rw[h2] at h;simp at h
  |some p=>
   obtain⟨g,u,G⟩:=p;rw[h2] at h;simp only at h;by_cases h3:0 < num∧g < num -1
   ·rw[Ad h3] at h;simp at h
   rw[Ab h3] at h;cases h4:Qd G with
   |none=>rw[h4] at h;simp at h
   |some cs=>
    rw[h4] at h;simp only at h;by_cases h5:g < num
    ·rw[Ad h5] at h;by_cases h6:(DN D ⟨1,lg D.n,g,u,G,0⟩).2.2=0
     ·rw[Ad h6] at h;simp only[ML,Ci] at h;obtain⟨e1,e2,e3⟩:=h;subst e1;exact⟨e3.symm,by omega,by simpa using hd,a,num,A,g,u,G,cs,rfl,rfl,h3,h4,.inl ⟨h5,Prod.ext e2 (Prod.ext rfl h6),rfl⟩⟩
     ·rw[Ab h6] at h;simp at h
    ·rw[Ab h5] at h;simp only[ML,Ci] at h;obtain⟨e1,e2,e3⟩:=h;exact⟨e3.symm,by omega,by simpa using hd,a,num,A,g,u,G,cs,rfl,rfl,h3,h4,.inr ⟨h5,e2.symm,e1.symm⟩⟩
theorem nz:∀ (n:Nat) (l:List T) (cs:List Am),l.length≤n→ungroup l=some cs→2*cs.length=l.length:=by
 intro n
 induction n with
 |zero=>
  intro l cs hl h;have:l=[]:=List.eq_nil_of_length_eq_zero (by omega);subst this;simp only[ungroup,Ci] at h;subst h;rfl
 |succ n ih=>
  intro l cs hl h
  match l,hl,h with
  |[],_,h=>simp only[ungroup,Ci] at h;subst h;rfl
  |[_],_,h=>simp[ungroup] at h
  |[] :: _ :: _,_,h=>simp[ungroup] at h
  |(b :: n') :: d :: R,hl,h=>
   simp only[ungroup] at h;split at h
   ·obtain⟨cs',h1,h2⟩:=SA.1 h;subst h2;have:=ih R cs' (by simp at hl;omega) h1;simp;omega
   ·cases h
theorem aog:∀ {G:List (List T)} {cs:List (List Am)},Qd G=some cs→cs.length=G.length∧∀ k (h:k < G.length) (h':k < cs.length),ungroup G[k]=some cs[k]
 |[],cs,h=>by simp only[Qd,Ci] at h;subst h;exact⟨rfl,fun k hk=>by simp at hk⟩
 |g :: G,cs,h=>by
  simp only[Qd] at h;cases h1:ungroup g with
  |none=>rw[h1] at h;cases h
  |some c=>
   rw[h1] at h;simp only[CL] at h;obtain⟨cs',h2,h3⟩:=SA.1 h;subst h3;obtain⟨g1,g2⟩:=aog h2;refine⟨by simp[g1],fun k hk hk'=>?_⟩;cases k with
   |zero=>exact h1
   |succ k=>exact g2 k (by simpa using hk) (by simpa using hk')
theorem alz(A:M)(cs:List (List Am))(k:Nat)(h:k < cs.length):OX A (cs.take (k+1))=made (OX A (cs.take k)) cs[k]:=by
 rw[Cx h,aly]
theorem alx(A:M)(cs:List (List Am))(b:Nat)(hb:∀ c∈cs,c.length≤b):(OX A cs).length≤A.length+cs.length*b:=by
 induction cs generalizing A with
 |nil=>simp[OX]
 |cons c cs ih=>
  have h1:=ih (made A c) (fun x hx=>hb x (F9 _ hx));have h2:=acC A c;have h3:=hb c Gf
  show(OX (made A c) cs).length≤_
  rw[BG,Nat.succ_mul];omega
theorem Kw.index{w:World}{q:Option Addr}{c:Nat}{L:List (List T)}(h:Kw w (.slice q L.length c) L)(k:Nat)(hk:k < L.length):
  ∃ p:Addr,(∀ W,(Instr.indexAt 155 (.slice q L.length c) (.int .i64 (k:Int))).run prog W=.ok (.pointer (some p)) W)∧∃ ar cr,w.cell? p=some (.slice ar L[k].length cr)∧Du w ar L[k]:=by
 obtain⟨cs,h1,h2,h3,h4⟩:=h;rcases h1.2 with⟨e1,e2⟩|⟨g,cap,cur,e1,_⟩
 ·omega
 ·injection e1 with e1 e2 e3
  subst e1;have QJ:k < cs.length:=by omega
  obtain⟨ar,cr,er,ht⟩:=(h4 k hk QJ).texts;have hc:=h1.cells (g:=g) rfl k cs[k] (CJ QJ);rw[add_plain,er] at hc;refine⟨⟨g,k,Option.none⟩,fun W=>?_,ar,cr,hc,ht⟩;have:=IB prog 155 61 underlying155 1 (by kernel_rfl) ⟨g,0,Option.none⟩ L.length c k hk W;rw[Nat.mul_one,add_plain] at this;exact this
theorem at6{w:World}{y log size b:Nat}{D:A8}{fp:Nat→Prop}(hd:BB w b D fp)(hy:w.heap[y]?=some (.cells (Km log size 0 b none none) 116))(DY:D.down=false){a num:Nat}{A:M}(hl:Nn D.now log size=some (a,num,A))
  (kQ:log≤16384)(JJ:size≤8192)(Ji:∀ a,a≤1→CV log size a+size≤D.n):
  Calls prog 78 #[.pointer (some ⟨y,0,none⟩)] w fun e w'=>yJ w y log size b a num A e w':=by
 rcases alo hl with⟨h0,rfl,rfl,rfl⟩|⟨ha,h0,hn,t,r,hc,hr⟩
 ·exact ata hd hy DY h0
 ·have hv:num < 18446744073709551616:=by
   rw[hn];refine Hw (A9.JS _) ?_;have hlen:(((D.now 0).take 13).drop 5).length≤8:=(by rw[Ct,AZ];omega);exact Aw (Nat.pow_le_pow_right (by decide) hlen) (by decide)
  exact at7 hd hy DY ha hv h0 kQ JJ (Ji a ha) hc hr
theorem amJ:∀ (n:Nat) (lo:Option T) (s:T) (r:M×T),JO n lo s=some r→8*r.1.length+r.2.length≤s.length
 |0,lo,s,r,h=>by simp only[JO,Ci] at h;subst h;simp
 |n+1,lo,s,r,h=>by
  simp only[JO] at h;cases h1:cut s with
  |none=>rw[h1] at h;cases h
  |some p=>
   rw[h1] at h;simp only[CL] at h;cases h2:cut p.2 with
   |none=>rw[h2] at h;cases h
   |some q=>
    rw[h2] at h;simp only[CL] at h;split at h
    ·obtain⟨r',h3,h4⟩:=SA.1 h;subst h4;have g1:=VT (p:=p.1) (q:=p.2) h1;have g2:=VT (p:=q.1) (q:=q.2) h2;have g3:=amJ n _ _ _ h3;simp only[BG];omega
    ·cases h
theorem azM{s:T}{A:M}(h:Ag.read s=some A):8*A.length≤s.length:=by
 unfold Ag.read at h;split at h
 ·cases h
 ·cases h1:JO (A9.val (s.take 4)) none (s.drop 4) with
  |none=>rw[h1] at h;cases h
  |some r=>
   rw[h1] at h;simp only[CL] at h;split at h
   ·have:=amJ _ _ _ _ h1;simp only[Ci] at h;subst h;rw[Ct] at this;omega
   ·cases h
theorem axC{D:A8}(hF:D.BO){log size a num:Nat}{A:M}(h:Nn D.now log size=some (a,num,A))(JJ:size≤8192)(Ji:∀ a,a≤1→CV log size a+size≤D.n):a≤1∧A.length≤100000:=by
 rcases alo h with⟨_,h1,_,rfl⟩|⟨ha,_,_,t,r,hc,hr⟩
 ·exact⟨by omega,by simp⟩
 ·have h1:=VT hc;have h2:=azM hr;rw[A8.mX hF.now _ _ (Ji a ha)] at h1;exact⟨ha,by omega⟩
end
section
open Ag
def aoR(w:World)(b:Nat)(fp:Nat→Prop)(F:St)(D':A8)(e:Ending)(w':World):Prop:=
 ∃ y m x gv fp',e=.returned (.tuple #[.pointer (some ⟨y,0,none⟩),.int .i64 0])∧BB w' b D' fp'∧Db w' y b m x gv F∧¬ fp' m∧A7 fp w w'∧Dj fp fp' w∧∀ k,Tc y m x gv k→w.heap.size≤k
theorem Kw.adr{w:World}{v:Value}{L:List (List T)}(h:Kw w v L):∃ q cap,v=.slice q L.length cap:=by
 obtain⟨cs,h1,_⟩:=h;exact Bo h1
theorem Db.ofRaw{W:World}{y mb x b log size a:Nat}{gv:Value}{L:BD}{A:M}(hy:W.heap[y]?=some (.cells (Km log size a b (some mb) none) 116))(hm:CO W mb A)(hw:Cm W x b gv L)(h1:log≤16384)(h2:size≤16384)(h3:1≤size)(h4:a≤1):
  Db (W.setCell ⟨y,5,none⟩ (.pointer (some ⟨x,0,none⟩))) y b mb x gv ⟨log,size,a,A,L,0⟩:=by
 have hu:A7 (fun k=>k=y) W (W.setCell ⟨y,5,none⟩ (.pointer (some ⟨x,0,none⟩))):=(A7.refl (fun k=>k=y) W).setCell (p:=⟨y,5,none⟩) (.inl rfl) _;have hb:Bb W y 116:=⟨_,_,hy⟩
 exact⟨Cu W y 5 _ _ _ hy,hm.upd hu (fun e=>hm.Dl (e▸hb)),hw.upd hu (fun k hk e=>by subst e;exact Bb.ne hk hb (by decide) rfl) (fun k hk e=>by
  subst e;rcases hk with h|h
  ·exact Bb.ne hb (h▸⟨_,_,hw.struct⟩:Bb W k 224) (by decide) rfl
  ·obtain⟨cs',g1,_⟩:=hw.groups;exact Bb.ne hb (Cn g1 h) (by decide) rfl),⟨h1,h2,h3,h4⟩⟩
theorem atn{w:World}{b:Nat}{D D':A8}{fp:Nat→Prop}{F:St}(hd:BB w b D fp)(h:fP D=(some F,D',0))(I7:D.loose.length≤300000000):
  Calls prog 25 #[.pointer (some ⟨b,0,none⟩)] w fun e w'=>aoR w b fp F D' e w':=by
 obtain⟨_,h8,DY,a,num,A,g,u,G,cs,hl,ho,hng,DF,hend⟩:=ayF h;have PT:=hd.fine;have GM:=PT.n2;obtain⟨l1,l2,l3⟩:=aA h8;have HD:=Hi hd;obtain⟨s1,s2,s3⟩:=alq PT (by omega) (by omega) ho;have HS:=Hi (fun(V:World) (h:BB V b D fp)=>Yy h);have hlg:(max ((D.n:Int) / 8) 2)=((lg D.n:Nat):Int):=by unfold lg;omega
 have BQ:((D.n:Int) -1 -((lg D.n:Nat):Int)) / 2=((sz D.n:Nat):Int):=by unfold sz;omega
 have h8':¬ (D.n:Int) < 8:=by omega
 clear hd
 go_in
 go_wp2_with fail;refine(HS _ HD).mono ?_;rintro e w1⟨rfl,rfl⟩;go_wp2_with fail;refine(HS _ HD).mono ?_;rintro e w1⟨rfl,rfl⟩;go_wp2_with fail;have fC:=AQ w (.cells (Km (lg D.n) 0 0 b none none) 116);have Bg:Bw w (w.alloc (.cells (Km (lg D.n) 0 0 b none none) 116)).drew:=((Ai w.heap.size w).alloc (Ae _) _).drew;have AR:=Hi Bg;have yF:=Hi (show(w.alloc (.cells (Km (lg D.n) 0 0 b none none) 116)).drew.heap[w.heap.size]?=_ from fC);have e1:IntKind.i64.wrap ((D.n:Int) -1)=(D.n:Int) -1:=ET _ (by omega);have e2:IntKind.i64.wrap ((D.n:Int) -1 -((lg D.n:Nat):Int))=(D.n:Int) -1 -((lg D.n:Nat):Int):=ET _ (by omega);have e3:IntKind.i64.wrap (((D.n:Int) -1 -((lg D.n:Nat):Int)).tdiv 2)=((sz D.n:Nat):Int):=by
  rw[Int.tdiv_eq_ediv_of_nonneg (by omega),BQ];exact ET _ (by omega)
 have Jo:(Km (lg D.n) 0 0 b none none).setIfInBounds 2 (.int .i64 (IntKind.i64.wrap (((D.n:Int) -1 -((lg D.n:Nat):Int)).tdiv 2)))=Km (lg D.n) (sz D.n) 0 b none none:=by rw[e3];rfl
 have oN:=Hi Jo;have Um:=Hi (show(w.alloc (.cells ((Km (lg D.n) 0 0 b none none).setIfInBounds 2 (.int .i64 (IntKind.i64.wrap (((D.n:Int) -1 -((lg D.n:Nat):Int)).tdiv 2)))) 116)).drew.heap[w.heap.size]?=some (.cells (Km (lg D.n) (sz D.n) 0 b none none) 116) by rw[Jo];exact AQ w _);have HD0:=Hi (HD.below Bg);obtain⟨_,d1,d2,_,_,_,_,df⟩:=Kn yF.out;have df2:=df 2;clear df fC Bg Jo e3
 go_region_held3 (fun W=>W.cell? ⟨w.heap.size,1,none⟩=some (.int .i64 ((lg D.n:Nat):Int)))
  (first|exact(Kn yF).2.1|exact(Kn Um).2.1)
  (first
   |(go_at_call 77;refine(HS _ HD0).mono ?_;rintro e w1 ⟨rfl,rfl⟩))
 all_goals
  clear d1 d2 df2;go_wp2_with fail;have akt:(Km (lg D.n) 0 0 b none none).setIfInBounds 2 (.int .i64 (((D.n:Int) -1 -((lg D.n:Nat):Int)) / 2))=Km (lg D.n) (sz D.n) 0 b none none:=by rw[BQ];rfl
  rw[akt];have Un:=Hi (show(w.alloc (.cells (Km (lg D.n) (sz D.n) 0 b none none) 116)).drew.heap[w.heap.size]?=_ from AQ w _);have Ak:=Hi (show Bw w (w.alloc (.cells (Km (lg D.n) (sz D.n) 0 b none none) 116)).drew from((Ai w.heap.size w).alloc (Ae _) _).drew);have Ny:=Hi (HD.below Ak);clear akt oN Um yF AR HD0 e1 e2;generalize (w.alloc (.cells (Km (lg D.n) (sz D.n) 0 b none none) 116)).drew=w2 at*
  refine(at6 Ny Un DY hl (by omega) (by omega) (fun a ha=>by
   unfold CV;have:a*sz D.n≤1*sz D.n:=P9 _ ha;omega)).mono ?_
  rintro e w3⟨mb,rfl,hy3,UU,De,hn3⟩;have RH:=Hi hy3;have X6:=Hi UU;have Ug:=Hi (show w.heap.size≤mb from Aw Ak.size hn3);have Au:=Hi (Cy Ak De (fun k e=>by subst e;exact Ae _) Ak.size);have Pj:=Hi (HD.below Au);clear hy3 UU De hn3 Un Ak Ny;obtain⟨_,d1,_⟩:=Kn RH.out;have hW:D.TT 1 ((lg D.n:Nat):Int)=(some ⟨1,lg D.n,g,u,G,0⟩,0):=by
   unfold A8.TT;rw[Ab (by omega),Ab (by simp[DY])]
   show(match Av.Jq (A8.text D.now 1 (lg D.n)) (lg D.n) with
    |none=>((none,50):Option BD×Int)
    |some (g,u,l)=>(some (⟨1,lg D.n,g,u,l,0⟩:BD),(0:Int)))=_
   rw[ho]
  have tQ:=aCr Pj 1 ((lg D.n:Nat):Int) (by omega) (by omega);unfold VM at tQ;rw[hW] at tQ;have Xh:=Hi tQ;clear tQ hW;go_wp2_with fail;refine Xh.mono ?_;rintro e w4⟨x,gv,rfl,IP,AB,hn4⟩;have oW:=Hi (show ∀ k,BS x gv k→w.heap.size≤k from fun k hk=>Aw Au.size (hn4 k hk));have AX:=bH Au AB;have Qv:=Hi ((AB.block w.heap.size (Ao RH)).trans RH);have VA:=Hi (X6.below AB);have SX:=Hi IP;have Uc:=Hi (fun(V:World) (h:Cm V x b gv ⟨1,lg D.n,g,u,G,0⟩)=>aow h);have bA:=Hi (aCp IP (by show G.length≤_;omega) (fun l hl=>by have:=(s3 l hl).1;omega));clear IP AB hn4 Au RH X6 Pj Xh d1;have TJ:=aog DF;have Pt:=Hi TJ;have Jw:=Hi s3
  obtain⟨rC,hAl⟩:=axC PT hl (by omega) (fun a ha=>by
   unfold CV;have:a*sz D.n≤1*sz D.n:=P9 _ ha;omega)
  have Vz:=Hi hl;have HHO:=Hi ho;clear s3 hl ho TJ hlg BQ h8';rcases hend with⟨hlt,eZ,hF⟩|⟨Jj,e,rfl⟩
  ·have h1:(0:Int) < (num:Int):=(by omega);have Kk:IntKind.u64.wrap ((num:Int) -1)=((num -1:Nat):Int):=by
    have:num≤18446744073709551616:=(by omega);simp[IntKind.wrap,IntKind.bits,IntKind.signed];omega
   have Gp:¬ g < num -1:=(by omega);have DJ:g < num:=hlt;have Po:=Hi eZ;generalize hL2:F.w=L2 at*;clear eZ;subst hF;clear hng hL2;go_wp2_with fail;refine(Uc _ SX).mono ?_;rintro e w4'⟨rfl,rfl⟩;go_wp2_with fail;refine bA.mono ?_;rintro e w5⟨v5,rfl,PW,BF,TK⟩;obtain⟨q5,c5,rfl⟩:=PW.adr;have GU:=Hi PW;have CZ:=bH AX BF;have II:=Hi ((BF.block w.heap.size (Ao Qv)).trans Qv);have G8:=Hi (VA.below BF);have KL:=Hi (SX.below BF);obtain⟨es,ck,OD⟩:=G8.is;have SI:=Hi OD
   have Jv:=Hi (show ∀ (F:Nat→Prop) (W:World),A7 F w5 W→(∀ k,F k→k=mb)→Cm W x b gv ⟨1,lg D.n,g,u,G,0⟩ from fun F W hu hF=>KL.upd hu (fun k hk e=>by rw[hF k e] at hk;exact G8.Dl hk) (fun k hk e=>by
    rw[hF k e] at hk;rcases hk with h|h
    ·exact G8.Dl (t:=224) (h▸⟨_,_,KL.struct⟩)
    ·obtain⟨cs',h1,_⟩:=KL.groups;exact G8.Dl (Cn h1 h)))
   clear PW BF TK OD Qv VA SX bA;go_wp2
   go_loopw [9,10,11,75] (fun _ _ _ i wr=>∃ k:Nat,k≤G.length∧i=.int .i64 k∧CO wr mb A∧A7 (fun k=>k=mb) w5 wr) (fun _ _ _ i _=>G.length -(intOf i).toNat)
   case atStart=>exact⟨0,AV _,rfl,G8,A7.refl _ _⟩
   case round=>
    obtain⟨k,hk,rfl,hm,hu⟩:=hrel;by_cases hlt:k < G.length
    ·have UR:k < cs.length:=(by rw[Pt.1];exact hlt);obtain⟨p,Cs,ar,cr,hc,H8⟩:=GU.index k hlt;have NP:wr.cell? p=some (.slice ar G[k].length cr):=(hu.cell (Cr hc) (aF hc SI)).trans hc
     have Yc:Du wr ar G[k]:=H8.upd hu (fun p' Nh hne=>by
      obtain⟨p2,JI,h3⟩:=H8 0 (List.length_pos_iff.2 hne);rw[Nh] at JI;injection JI with JI
      subst JI;have:=aF h3 SI;rwa[add_block] at this)
     have jG:=Jw _ (CQ hlt);have Hm:=Pt.2 k hlt UR;have Mv:=adJ _ _ _ (Ae _) Hm;have I9:=nz _ _ _ (Ae _) Hm;have PV:=aa7 (cap:=cr) Yc (by omega) (fun s hs=>by have:=jG.2 s hs;omega);unfold Xl at PV;rw[Hm] at PV;have BN:cs[k].length≤1000000:=(by omega);have SK:=Hi PV;have Pk:=Hi Mv;have HM:=Hi hm;have HU:=Hi hu;clear hc H8 Yc Hm Mv I9 PV hm hu;generalize G[k]=Gk at*;generalize cs[k]=ck at*;clear UR;go_wp2_with fail;refine SK.mono ?_;rintro e w6⟨q6,c6,rfl,IM,CS⟩;have nY:=Hi (Eb.CX IM);have iQ:=Hi (HM.below CS);have KJ:=Hi (HU.trans (A7.of_below (F:=fun k=>k=mb) CS) (fun i hi=>.inl hi));clear IM CS NP;have Nj:=Jv _ _ KJ (fun k e=>e);have Nk:=(KJ.block w.heap.size (Ao II) (fun e=>G8.Dl (t:=116) (e▸⟨_,_,II⟩))).trans II.out;obtain⟨_,_,_,_,d4,_⟩:=Kn Nk;have Mi:=Hi Nj;clear Nj Nk;go_wp2_with fail;refine(Uc _ Mi).mono ?_;rintro e w7⟨rfl,rfl⟩;go_wp2;go_roundw
     case rel=>exact⟨k+1,by omega,by go_num,iQ,KJ⟩
     case measure=>simp[intOf];omega
    ·obtain rfl:k=G.length:=(by omega);have HM:=Hi hm;have HU:=Hi hu;clear hm hu;have Nj:=Jv _ _ HU (fun k e=>e);have Nk:=(HU.block w.heap.size (Ao II) (fun e=>G8.Dl (t:=116) (e▸⟨_,_,II⟩))).trans II.out;have Mi:=Hi Nj;have Ov:=Hi Nk;clear Nj Nk;go_wp2_with fail;refine(Uc _ Mi).mono ?_;rintro e w7⟨rfl,rfl⟩;have FK:=Cy CZ HU (fun k e=>by subst e;exact Ug.out) CZ.size;have Eo:=Hi FK;have Mw:=amU (HD.below FK) Mi (by omega);rw[Po.out] at Mw;have EZ:=Hi Mw;clear FK Mw;go_wp2_with fail;refine EZ.mono ?_;rintro e w9⟨rfl,fp9,gv9,g1,g2,g3,g4,g5⟩;have Ol:=Hi (show ∀ k,w.heap.size≤k→¬ fp k from fun k hk e=>by have:=HD.lt _ e;omega);have hny:¬ (fp w.heap.size∨BS x gv w.heap.size):=by
      rintro(e|e|e)
      ·exact Ol _ (Ae _) e
      ·exact Bb.ne (⟨_,_,Ov⟩:Bb _ w.heap.size 116) (e▸⟨_,_,Mi.struct⟩:Bb _ w.heap.size 224) (by decide) rfl
      ·obtain⟨cs',h1,_⟩:=Mi.groups;exact Bb.ne (⟨_,_,Ov⟩:Bb _ w.heap.size 116) (Cn h1 e) (by decide) rfl
     have Jm:¬ (fp mb∨BS x gv mb):=by
      rintro(e|e|e)
      ·exact Ol _ Ug e
      ·exact HM.Dl (t:=224) (e▸⟨_,_,Mi.struct⟩)
      ·obtain⟨cs',h1,_⟩:=Mi.groups;exact HM.Dl (Cn h1 e)
     have hy9:=(g3.block w.heap.size (Ao Ov) hny).trans Ov.out;have yI:=Hi hy9;have Rv:=Hi (HM.upd g3 Jm);have IG:=Hi g1;have Dg:=Hi g2;have FR:=Hi g3;have GR:=Hi g4;have GU:=Hi g5;have apI:=Hi HM.lt;clear g1 g2 g3 g4 g5 hny Jm hy9;obtain⟨_,_,_,_,_,d5,_,df⟩:=Kn yI.out;have T9:=df 5;clear df;go_wp2;go_ret2;have Bc:Dj fp fp9 w:=fun i hi=>(GR i hi).imp id (fun e=>Aw Eo.size e)
     refine⟨w.heap.size,mb,x,gv9,fp9,rfl,IG.upd ((A7.refl (fun k=>k=w.heap.size) _).setCell (p:=⟨w.heap.size,5,none⟩) (.inl rfl) _) (fun k hk e=>by subst e;exact IG.Dl _ hk (by decide) (by decide) ⟨_,_,yI⟩),Db.ofRaw yI Rv Dg (by omega) (by omega) (by omega) rC,fun e=>(GR mb e).elim (Ol _ Ug) (fun f=>by have:=apI.out;omega),((A7.of_below Eo).trans FR (fun i hi=>hi.elim .inl (fun e=>.inr (oW i e)))).setCell (p:=⟨w.heap.size,5,none⟩) (.inr (Ae _)) _,Bc,?_⟩;rintro k (rfl|rfl|hk)
     ·exact Ae _
     ·exact Ug.out
     ·exact(GU k hk).elim (oW k) (fun e=>Aw Eo.size e)
  ·have e:=e.symm;subst e;by_cases h0:num=0
   ·subst h0;clear hng Jj;go_wp2_with fail;refine bA.mono ?_;rintro e w5⟨v5,rfl,PW,BF,TK⟩;obtain⟨q5,c5,rfl⟩:=PW.adr;have GU:=Hi PW;have CZ:=bH AX BF;have II:=Hi ((BF.block w.heap.size (Ao Qv)).trans Qv);have G8:=Hi (VA.below BF);have KL:=Hi (SX.below BF);obtain⟨es,ck,OD⟩:=G8.is;have SI:=Hi OD
    have Jv:=Hi (show ∀ (F:Nat→Prop) (W:World),A7 F w5 W→(∀ k,F k→k=mb)→Cm W x b gv ⟨1,lg D.n,g,u,G,0⟩ from fun F W hu hF=>KL.upd hu (fun k hk e=>by rw[hF k e] at hk;exact G8.Dl hk) (fun k hk e=>by
     rw[hF k e] at hk;rcases hk with h|h
     ·exact G8.Dl (t:=224) (h▸⟨_,_,KL.struct⟩)
     ·obtain⟨cs',h1,_⟩:=KL.groups;exact G8.Dl (Cn h1 h)))
    clear PW BF TK OD Qv VA SX bA;go_wp2
    go_loopw [9,10,11,75] (fun _ _ _ i wr=>∃ k:Nat,k≤G.length∧i=.int .i64 k∧CO wr mb (OX A (cs.take k))∧A7 (fun k=>k=mb) w5 wr) (fun _ _ _ i _=>G.length -(intOf i).toNat)
    case atStart=>exact⟨0,AV _,rfl,G8,A7.refl _ _⟩
    case round=>
     obtain⟨k,hk,rfl,hm,hu⟩:=hrel;by_cases hlt:k < G.length
     ·have UR:k < cs.length:=(by rw[Pt.1];exact hlt);obtain⟨p,Cs,ar,cr,hc,H8⟩:=GU.index k hlt;have NP:wr.cell? p=some (.slice ar G[k].length cr):=(hu.cell (Cr hc) (aF hc SI)).trans hc
      have Yc:Du wr ar G[k]:=H8.upd hu (fun p' Nh hne=>by
       obtain⟨p2,JI,h3⟩:=H8 0 (List.length_pos_iff.2 hne);rw[Nh] at JI;injection JI with JI
       subst JI;have:=aF h3 SI;rwa[add_block] at this)
      have jG:=Jw _ (CQ hlt);have Hm:=Pt.2 k hlt UR;have Mv:=adJ _ _ _ (Ae _) Hm;have I9:=nz _ _ _ (Ae _) Hm;have PV:=aa7 (cap:=cr) Yc (by omega) (fun s hs=>by have:=jG.2 s hs;omega);unfold Xl at PV;rw[Hm] at PV;have xR:=Hi (alz A cs k UR)
      have hlen:=alx A (cs.take k) 1000000 (fun c hc=>by
       obtain⟨j,hj,rfl⟩:=Sy (List.mem_of_mem_take hc);have h1:=Pt.2 j (by rw[←Pt.1];exact hj) hj;have h2:=nz _ _ _ (Ae _) h1;have h3:=(Jw _ (CQ (by rw[←Pt.1];exact hj:j < G.length))).1;omega)
      have QJ:(cs.take k).length≤20000:=(by rw[AZ];omega);have kP:(OX A (cs.take k)).length≤1000000000000000:=by
       refine Aw hlen ?_;have:(cs.take k).length*1000000≤20000*1000000:=P9 _ QJ;omega
      have BN:cs[k].length≤1000000:=(by omega);have SK:=Hi PV;have Pk:=Hi Mv;have HM:=Hi hm;have HU:=Hi hu;have Mf:=Hi kP;clear hc H8 Yc Hm Mv I9 PV hlen kP hm hu QJ;generalize G[k]=Gk at*;generalize cs[k]=ck at*;clear UR;go_wp2_with fail;refine SK.mono ?_;rintro e w6⟨q6,c6,rfl,IM,CS⟩;have nY:=Hi (Eb.CX IM);have iQ:=Hi (HM.below CS);have KJ:=Hi (HU.trans (A7.of_below (F:=fun k=>k=mb) CS) (fun i hi=>.inl hi));clear IM CS NP;have Nj:=Jv _ _ KJ (fun k e=>e);have Nk:=(KJ.block w.heap.size (Ao II) (fun e=>G8.Dl (t:=116) (e▸⟨_,_,II⟩))).trans II.out;obtain⟨_,_,_,_,d4,_⟩:=Kn Nk;have Mi:=Hi Nj;clear Nj Nk;go_wp2_with fail;refine(Uc _ Mi).mono ?_;rintro e w7⟨rfl,rfl⟩;go_wp2_with fail
      refine(aa2 (cap:=c6) iQ nY BN Mf (fun c hc=>by
       have:=Pk c hc;unfold Am.may Fu at this;simp at this;unfold maxLen;omega)).mono ?_
      rintro e w8⟨rfl,Wo,Q7⟩;have Uf:=Hi Wo;have j5:=Hi (KJ.trans Q7 (fun i hi=>.inl hi));clear Wo Q7 d4;go_wp2;go_roundw
      case rel=>exact⟨k+1,by omega,by go_num,by rw[xR.out];exact Uf.out,j5⟩
      case measure=>simp[intOf];omega
     ·obtain rfl:k=G.length:=(by omega);have J3:cs.take G.length=cs:=(by rw[←Pt.1,Da]);rw[J3] at hm;have HM:=Hi hm;have HU:=Hi hu;clear J3 hm hu;have Nj:=Jv _ _ HU (fun k e=>e);have Nk:=(HU.block w.heap.size (Ao II) (fun e=>G8.Dl (t:=116) (e▸⟨_,_,II⟩))).trans II.out;have Mi:=Hi Nj;have Ov:=Hi Nk;clear Nj Nk;go_wp2_with fail;refine(Uc _ Mi).mono ?_;rintro e w7⟨rfl,rfl⟩;obtain⟨_,_,_,_,_,d5,_,df⟩:=Kn Ov.out;have T9:=df 5;clear df;go_wp2;go_ret2;have FK:=Cy CZ HU (fun k e=>by subst e;exact Ug.out) CZ.size;refine⟨w.heap.size,mb,x,gv,fp,rfl,(HD.below FK).upd ((A7.refl (fun k=>k=w.heap.size) _).setCell (p:=⟨w.heap.size,5,none⟩) (.inl rfl) _) (fun k hk e=>by subst e;have:=HD.lt _ hk;omega),Db.ofRaw Ov HM Mi (by omega) (by omega) (by omega) rC,fun e=>by have:=HD.lt _ e;have:=Ug.out;omega,(A7.of_below FK).setCell (p:=⟨w.heap.size,5,none⟩) (.inr (Ae _)) _,fun _ h=>.inl h,?_⟩;rintro k (rfl|rfl|hk)
      ·exact Ae _
      ·exact Ug.out
      ·exact oW k hk
   ·have h1:(0:Int) < (num:Int):=(by omega);have Kk:IntKind.u64.wrap ((num:Int) -1)=((num -1:Nat):Int):=by
     simp[IntKind.wrap,IntKind.bits,IntKind.signed];omega
    have Gp:¬ g < num -1:=(by omega);have DJ:num≤g:=(by omega);clear hng Jj h0;go_wp2_with fail;refine(Uc _ SX).mono ?_;rintro e w4'⟨rfl,rfl⟩;go_wp2_with fail;refine bA.mono ?_;rintro e w5⟨v5,rfl,PW,BF,TK⟩;obtain⟨q5,c5,rfl⟩:=PW.adr;have GU:=Hi PW;have CZ:=bH AX BF;have II:=Hi ((BF.block w.heap.size (Ao Qv)).trans Qv);have G8:=Hi (VA.below BF);have KL:=Hi (SX.below BF);obtain⟨es,ck,OD⟩:=G8.is;have SI:=Hi OD
    have Jv:=Hi (show ∀ (F:Nat→Prop) (W:World),A7 F w5 W→(∀ k,F k→k=mb)→Cm W x b gv ⟨1,lg D.n,g,u,G,0⟩ from fun F W hu hF=>KL.upd hu (fun k hk e=>by rw[hF k e] at hk;exact G8.Dl hk) (fun k hk e=>by
     rw[hF k e] at hk;rcases hk with h|h
     ·exact G8.Dl (t:=224) (h▸⟨_,_,KL.struct⟩)
     ·obtain⟨cs',h1,_⟩:=KL.groups;exact G8.Dl (Cn h1 h)))
    clear PW BF TK OD Qv VA SX bA;go_wp2
    go_loopw [9,10,11,75] (fun _ _ _ i wr=>∃ k:Nat,k≤G.length∧i=.int .i64 k∧CO wr mb (OX A (cs.take k))∧A7 (fun k=>k=mb) w5 wr) (fun _ _ _ i _=>G.length -(intOf i).toNat)
    case atStart=>exact⟨0,AV _,rfl,G8,A7.refl _ _⟩
    case round=>
     obtain⟨k,hk,rfl,hm,hu⟩:=hrel;by_cases hlt:k < G.length
     ·have UR:k < cs.length:=(by rw[Pt.1];exact hlt);obtain⟨p,Cs,ar,cr,hc,H8⟩:=GU.index k hlt;have NP:wr.cell? p=some (.slice ar G[k].length cr):=(hu.cell (Cr hc) (aF hc SI)).trans hc
      have Yc:Du wr ar G[k]:=H8.upd hu (fun p' Nh hne=>by
       obtain⟨p2,JI,h3⟩:=H8 0 (List.length_pos_iff.2 hne);rw[Nh] at JI;injection JI with JI
       subst JI;have:=aF h3 SI;rwa[add_block] at this)
      have jG:=Jw _ (CQ hlt);have Hm:=Pt.2 k hlt UR;have Mv:=adJ _ _ _ (Ae _) Hm;have I9:=nz _ _ _ (Ae _) Hm;have PV:=aa7 (cap:=cr) Yc (by omega) (fun s hs=>by have:=jG.2 s hs;omega);unfold Xl at PV;rw[Hm] at PV;have xR:=Hi (alz A cs k UR)
      have hlen:=alx A (cs.take k) 1000000 (fun c hc=>by
       obtain⟨j,hj,rfl⟩:=Sy (List.mem_of_mem_take hc);have h1:=Pt.2 j (by rw[←Pt.1];exact hj) hj;have h2:=nz _ _ _ (Ae _) h1;have h3:=(Jw _ (CQ (by rw[←Pt.1];exact hj:j < G.length))).1;omega)
      have QJ:(cs.take k).length≤20000:=(by rw[AZ];omega);have kP:(OX A (cs.take k)).length≤1000000000000000:=by
       refine Aw hlen ?_;have:(cs.take k).length*1000000≤20000*1000000:=P9 _ QJ;omega
      have BN:cs[k].length≤1000000:=(by omega);have SK:=Hi PV;have Pk:=Hi Mv;have HM:=Hi hm;have HU:=Hi hu;have Mf:=Hi kP;clear hc H8 Yc Hm Mv I9 PV hlen kP hm hu QJ;generalize G[k]=Gk at*;generalize cs[k]=ck at*;clear UR;go_wp2_with fail;refine SK.mono ?_;rintro e w6⟨q6,c6,rfl,IM,CS⟩;have nY:=Hi (Eb.CX IM);have iQ:=Hi (HM.below CS);have KJ:=Hi (HU.trans (A7.of_below (F:=fun k=>k=mb) CS) (fun i hi=>.inl hi));clear IM CS NP;have Nj:=Jv _ _ KJ (fun k e=>e);have Nk:=(KJ.block w.heap.size (Ao II) (fun e=>G8.Dl (t:=116) (e▸⟨_,_,II⟩))).trans II.out;obtain⟨_,_,_,_,d4,_⟩:=Kn Nk;have Mi:=Hi Nj;clear Nj Nk;go_wp2_with fail;refine(Uc _ Mi).mono ?_;rintro e w7⟨rfl,rfl⟩;go_wp2_with fail
      refine(aa2 (cap:=c6) iQ nY BN Mf (fun c hc=>by
       have:=Pk c hc;unfold Am.may Fu at this;simp at this;unfold maxLen;omega)).mono ?_
      rintro e w8⟨rfl,Wo,Q7⟩;have Uf:=Hi Wo;have j5:=Hi (KJ.trans Q7 (fun i hi=>.inl hi));clear Wo Q7 d4;go_wp2;go_roundw
      case rel=>exact⟨k+1,by omega,by go_num,by rw[xR.out];exact Uf.out,j5⟩
      case measure=>simp[intOf];omega
     ·obtain rfl:k=G.length:=(by omega);have J3:cs.take G.length=cs:=(by rw[←Pt.1,Da]);rw[J3] at hm;have HM:=Hi hm;have HU:=Hi hu;clear J3 hm hu;have Nj:=Jv _ _ HU (fun k e=>e);have Nk:=(HU.block w.heap.size (Ao II) (fun e=>G8.Dl (t:=116) (e▸⟨_,_,II⟩))).trans II.out;have Mi:=Hi Nj;have Ov:=Hi Nk;clear Nj Nk;go_wp2_with fail;refine(Uc _ Mi).mono ?_;rintro e w7⟨rfl,rfl⟩;obtain⟨_,_,_,_,_,d5,_,df⟩:=Kn Ov.out;have T9:=df 5;clear df;go_wp2;go_ret2;have FK:=Cy CZ HU (fun k e=>by subst e;exact Ug.out) CZ.size;refine⟨w.heap.size,mb,x,gv,fp,rfl,(HD.below FK).upd ((A7.refl (fun k=>k=w.heap.size) _).setCell (p:=⟨w.heap.size,5,none⟩) (.inl rfl) _) (fun k hk e=>by subst e;have:=HD.lt _ hk;omega),Db.ofRaw Ov HM Mi (by omega) (by omega) (by omega) rC,fun e=>by have:=HD.lt _ e;have:=Ug.out;omega,(A7.of_below FK).setCell (p:=⟨w.heap.size,5,none⟩) (.inr (Ae _)) _,fun _ h=>.inl h,?_⟩;rintro k (rfl|rfl|hk)
      ·exact Ae _
      ·exact Ug.out
      ·exact oW k hk
