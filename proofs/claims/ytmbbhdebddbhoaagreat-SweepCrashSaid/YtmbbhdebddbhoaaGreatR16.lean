/- FilCommit -/
import Derived.Test.YtmbbhdebddbhoaaGreatR13
import Derived.Test.YtmbbhdebddbhoaaGreatR15
import Derived.Test.YtmbbhdebddbhoaaGreatR11
set_option maxHeartbeats 8000000
set_option maxRecDepth 100000
set_option linter.all false
namespace Go.Proofs.YtmbbhdebddbhoaaGreat
open Tryz
section
open Go.RowKit Go.Maps
open Fil
theorem Co.aqC{w:World}{m:Nat}{F:M}(h:Co w m F):∃ es clock,w.heap[m]?=some (.map es clock)∧Co (w.alloc (.map es clock)) w.heap.size F:=by
 obtain⟨hu,kv,hp,⟨hn,D,⟨es,clock,hb,G,hs,hD⟩,rest⟩⟩:=h;exact⟨es,clock,hb,hu,kv,hp,⟨hn,D,⟨es,clock,(MapKept.heap_alloc w _).1,G,hs,hD⟩,rest⟩⟩
theorem arA(w:World)(p:Option Nat):(binOp .eql 110 (.map p) (.map none)).run prog w=.ok (.bool p.isNone) w:=by
 have h:∀ d,(Op.equalIn (d+1) 110 (.map p) (.map none)).run prog w=.ok p.isNone w:=fun d=>by
  cases p<;>simp[Op.equalIn,Gp underlying110]
 simp only[binOp];simp[show Op.equal 110 (.map p) (.map none)=Op.equalIn (9999+1) 110 (.map p) (.map none) from rfl,h 9999]
theorem fclone_any(w:World)(m:Nat)(es:Array MapEntry)(clock:Nat)(hb:w.heap[m]?=some (.map es clock)):
  Calls prog 94 #[.map (some m)] w fun e w'=>e=.returned (.map (some w.heap.size))∧w'=w.alloc (.map es clock):=by
 have hq:=fun w=>arA w (some m)
 have au7:(Extern.MapsClone.clone #[.iface 110 (.map (some m))]).run prog w=.ok (.iface 110 (.map (some w.heap.size))) (w.alloc (.map es clock)):=by
  have e:Extern.MapsClone.clone #[.iface 110 (.map (some m))]=(getObj m >>= fun o=>match o with
    | .map entries clock=>(newObj (.map entries clock) >>= fun n=>pure (.iface 110 (.map (some n))))
    |_=>stuck "maps.clone: a map expected"):=rfl
  rw[e];simp[MapKept.run_getObj_map hb,Result.andThen,go_sem]
 have hta:∀ W,(Instr.typeAssert (.iface 110 (.map (some w.heap.size))) 20 110 false).run prog W=.ok (.map (some w.heap.size)) W:=fun W=>by
  simp[Instr.typeAssert,Gp underlying110,go_sem,Result.andThen]
 go_enter func94,ntmps94;have LB:=run_callFunc_extern (P:=prog) func169 (by kernel_rfl) (by kernel_rfl) (by kernel_rfl) (e:=Extern.MapsClone.clone) (by kernel_rfl) #[.iface 110 (.map (some m))] w;rw[au7] at LB;simp only[Result.andThen] at LB;go_wp2_with fail;go_ret;exact⟨rfl,rfl⟩
theorem arO(name data:T)(gone:Bool)(w:World)(hn:name.length≤maxLen)(hd:data.length≤maxLen):
  Calls prog 92 #[.agg #[.string (bs name),.string (bs data),.bool gone]] w fun e w'=>e=.returned (.bool (!Aj.may ⟨name,data,gone⟩))∧Bw w w':=by
 have HM:=Hi (fun(V:World)=>oQ name data gone V hn hd);generalize Aj.may ⟨name,data,gone⟩=s at*;go_enter func92,ntmps92;go_wp2_with fail;refine(HM _).mono ?_;rintro e w1⟨rfl,hb⟩;have HB:=Hi hb;clear hb;go_wp2_with fail;go_ret;exact⟨rfl,((Af w.heap.size w).alloc (Ac _) _).trans (HB.mono (by simp))⟩
def Ui(l:List Aj):Int:=match l.findIdx? (fun c=>!Aj.may c) with
 |some i=>(i:Int)
 |none=> -1
theorem avj{l:List Aj}{k:Nat}(hk:k < l.length)(h:Aj.may l[k]=false)(hn:∀ j (hj:j < k),Aj.may (l[j]'(by omega))=true):Ui l=(k:Int):=by
 have:l.findIdx? (fun c=>!Aj.may c)=some k:=List.findIdx?_eq_some_iff_getElem.2 ⟨hk,by simp[h],fun j hj=>by simp[hn j hj]⟩;unfold Ui;rw[this]
theorem avi{l:List Aj}(hn:∀ j (hj:j < l.length),Aj.may l[j]=true):Ui l= -1:=by
 have:l.findIdx? (fun c=>!Aj.may c)=none:=List.findIdx?_eq_none_iff.2 fun x hx=>by
  obtain⟨i,hi,rfl⟩:=List.getElem_of_mem hx;simp[hn i hi]
 unfold Ui;rw[this]
theorem avh(l:List Aj):decide (0≤Ui l)= !(l.all Aj.may):=by
 unfold Ui;cases h:l.findIdx? (fun c=>!Aj.may c) with
 |none=>
  have:=List.findIdx?_eq_none_iff.1 h;have e:l.all Aj.may=true:=Nz.2 fun x hx=>by simpa using this x hx
  rw[e];rfl
 |some i=>
  obtain⟨hi,h1,_⟩:=List.findIdx?_eq_some_iff_getElem.1 h;have e:l.all Aj.may=false:=List.all_eq_false.2 ⟨_,Ci hi,by simpa using h1⟩;rw[e];simp
theorem as2{w:World}{a:Option Addr}{cap:Nat}{l:List Aj}(hL:DW w a l)(hlen:l.length≤1000000)(Cb:∀ c∈l,c.name.length≤maxLen∧c.data.length≤maxLen):
  Calls prog 168 #[.slice a l.length cap,.func (.func 92) #[] #[]] w fun e w'=>e=.returned (.int .i64 (Ui l))∧Bw w w':=by
 have HL:=Hi hL;have FQ:=Hi Cb;clear hL Cb;go_enter func168,ntmps168;go_wp2_with fail
 go_loopw [5,8] (fun _ i wr=>∃ k:Nat,k≤l.length∧i=.int .i64 k∧Bw w wr∧∀ j (hj:j < k),(h:j < l.length)→Aj.may l[j]=true) (fun _ i _=>l.length -(intOf i).toNat)
 case atStart=>exact⟨0,AB _,rfl,Af _ _,fun j hj=>by omega⟩
 case round=>
  obtain⟨k,hk,rfl,hb,CO⟩:=hrel;have Eb:=Hi CO;clear CO;by_cases hlt:k < l.length
  ·obtain⟨q,Cu,hq,-⟩:=HL.index cap k hlt;have CV:=hq.below hb;obtain⟨c0,c1,c2⟩:=CV.cells;have Be:=FQ _ (Ci hlt);have Ev:=Hi (fun(V:World)=>arO l[k].name l[k].data l[k].gone V Be.1 Be.2);have Y4:=Hi (show Aj.may l[k]=false→Ui l=(k:Int) from fun h=>avj hlt h (fun j hj=>Eb j hj (by omega)))
   have EL:=Hi (show Aj.may l[k]=true→∀ j (hj:j < k+1),(h:j < l.length)→Aj.may l[j]=true from fun h j hj h'=>by
    by_cases e:j=k
    ·subst e;exact h
    ·exact Eb j (by omega) h')
   generalize l[k]=x at*;obtain⟨cn,cd,cg⟩:=x;simp only at c0 c1 c2 Be Ev;have HB:=Hi hb;clear hq CV hb;go_wp2_with fail;refine(Ev _).mono ?_;rintro e w1⟨rfl,Ad⟩;have HB1:=Hi (HB.trans (Ad.mono HB.size));clear Ad;generalize Aj.may ⟨cn,cd,cg⟩=s at*;cases s with
   |false=>
    have vT:=Hi (Y4 rfl);clear Y4 EL;go_wp2_with fail;go_ret;exact⟨by rw[vT.out];rfl,HB1⟩
   |true=>
    have HN:=Hi (EL rfl);clear Y4 EL;go_wp2_with fail;go_roundw
    case rel=>exact⟨k+1,by omega,by go_num,HB1,HN⟩
    case measure=>simp[intOf];omega
  ·obtain rfl:k=l.length:=(by omega);have HN:=Hi (show Ui l= -1 from avi (fun j hj=>Eb j hj hj));have HB:=Hi hb;clear hb;go_wp2_with fail;go_ret;exact⟨by rw[HN.out];rfl,HB⟩
theorem agm{w:World}{a:Option Addr}{cap:Nat}{l:List Aj}(hL:DW w a l)(hlen:l.length≤1000000)(Cb:∀ c∈l,c.name.length≤maxLen∧c.data.length≤maxLen):
  Calls prog 91 #[.slice a l.length cap,.func (.func 92) #[] #[]] w fun e w'=>e=.returned (.bool (!(l.all Aj.may)))∧Bw w w':=by
 have HI:=Hi (as2 (cap:=cap) hL hlen Cb);have HE:=Hi (avh l);clear hL Cb;generalize Ui l=i at*;go_enter func91,ntmps91;go_wp2_with fail;refine HI.mono ?_;rintro e w1⟨rfl,hb⟩;have HB:=Hi hb;clear hb;go_wp2_with fail;go_ret;exact⟨by rw[←HE.out];rfl,HB⟩
end
section
open Go.RowKit Go.Maps
open Fil
def doG{σ:Type}:List (σ→σ×Int)→σ→σ×Int
 |[],s=>(s,0)
 |f :: l,s=>if(f s).2=0 then doG l (f s).1 else f s
theorem ar5{σ:Type}{fs:List (σ→σ×Int)}(h:fs=[])(s:σ):doG fs s=(s,0):=by subst h;rfl
structure adI{σ:Type}(I:Nat→σ→World→Prop)(J:σ→World→Prop)(vs:List Value)(fs:List (σ→σ×Int)):Prop where
 len:vs.length=fs.length
 each:∀ i (h:i < vs.length) (h':i < fs.length),∃ F recv Lt,vs[i]=.func (.func F) recv Lt∧(∀ args w,(callFunc F args).run prog w=.ok (.enter F args) w)∧
  ∀ s W,I i s W→Calls prog F (recv++Lt) W fun e W'=>e=.returned (.int .i64 (fs[i] s).2)∧((fs[i] s).2=0→I (i+1) (fs[i] s).1 W')∧((fs[i] s).2≠0→J (fs[i] s).1 W')
theorem agp{σ:Type}{w:World}{y g n cap:Nat}{I:Nat→σ→World→Prop}{J:σ→World→Prop}{vs:List Value}{fs:List (σ→σ×Int)}{s0:σ}
  (hI:I 0 s0 w)(hf:adI I J vs fs)(hv:∀ k s W,I k s W→∀ i u,vs[i]?=some u→W.cell? ⟨g,i,none⟩=some u)(hn:vs.length=n)(R7:n≤5)(hJ:∀ s W,J s W→(∃ v,W.cell? ⟨y,6,none⟩=some v)∧W.frozen? ⟨y,6,none⟩=false):
  Calls prog 101 #[.pointer (some ⟨y,0,none⟩),.slice (some ⟨g,0,none⟩) n cap] w fun e w'=>e=.returned (.int .i64 (doG fs s0).2)∧((doG fs s0).2=0→I n (doG fs s0).1 w')∧((doG fs s0).2≠0→∃ W,J (doG fs s0).1 W∧w'=W.setCell ⟨y,6,none⟩ (.int .i64 (doG fs s0).2)):=by
 have HI:=Hi hI;have HF:=Hi hf;have HV:=Hi hv;have HN:=Hi hn;have HJ:=Hi hJ;clear hI hf hv hn hJ;go_enter func101,ntmps101;go_wp2_with fail
 go_loopw [10] (fun i wr=>∃ (k:Nat) (s:σ),k≤n∧i=.int .i64 k∧I k s wr∧doG fs s0=doG (fs.drop k) s) (fun i _=>n -(intOf i).toNat)
 case atStart=>exact⟨0,s0,AB _,rfl,HI,by rw[List.drop_zero]⟩
 case round=>
  obtain⟨k,s,hk,rfl,hIr,OT⟩:=hrel;have vU:=Hi hIr;have Pw:=Hi OT;clear hIr OT;by_cases hlt:k < n
  ·have Jv:k < vs.length:=(by rw[HN.out];exact hlt);have YY:k < fs.length:=(by rw[←HF.len];exact Jv);obtain⟨F,recv,Lt,hv,KJ,LB⟩:=HF.each k Jv YY;have hc:wr.cell? ⟨g,k,none⟩=some (.func (.func F) recv Lt):=by
    rw[←hv];exact HV k s wr vU k _ (Cn Jv)
   have AP:doG (fs.drop k) s=if(fs[k] s).2=0 then doG (fs.drop (k+1)) (fs[k] s).1 else fs[k] s:=by
    rw[Qz YY];rfl
   have BH:=LB s wr vU.out;generalize fs[k]=f at*;generalize f s=r at*;obtain⟨s1,e1⟩:=r;have Ev:=Hi BH;have AR:=Hi AP;clear hv LB BH AP Jv YY;go_wp2_with fail;refine Ev.mono ?_;rintro e w1⟨rfl,h1,h2⟩;have H1:=Hi h1;have H2:=Hi h2;clear h1 h2 hc;by_cases h0:e1=0
   ·subst h0;have RB:=Hi (show doG fs s0=doG (fs.drop (k+1)) s1 by rw[Pw.out,AR.out];rfl);have HI1:=Hi (H1 rfl);clear H1 H2;go_wp2_with fail;go_roundw
    case rel=>exact⟨k+1,s1,by omega,by go_num,HI1,RB⟩
    case measure=>simp[intOf];omega
   ·have Ad:(e1 != 0)=true:=(by simp[h0]);have RB:=Hi (show doG fs s0=(s1,e1) by rw[Pw.out,AR.out,Aa h0]);have HJ1:=Hi (H2 h0);obtain⟨⟨v6,c6⟩,cf6⟩:=HJ _ _ HJ1.out;have H0:=Hi h0;clear h0 H1 H2;go_wp2_with fail;go_ret;rw[RB.out];exact⟨rfl,fun h=>absurd h H0,fun _=>⟨w1,HJ1,rfl⟩⟩
  ·obtain rfl:k=n:=(by omega);have Gx:fs.drop k=[]:=List.drop_eq_nil_of_le (by rw[←HF.len,HN.out];exact Ac _);have RB:=Hi (Pw.trans (ar5 Gx s));clear Gx;go_wp2_with fail;go_ret;rw[RB.out];exact⟨rfl,fun _=>vU.out,fun h=>absurd rfl h⟩
end
section
open Go.RowKit Go.Maps
open Fil
structure JY(V:World)(y b m x c2 c5:Nat)(gv:Value)(fp:Nat→Prop)(F:St)(s:T)(D:Dsk):Prop where
 disk:Bl V b D fp
 Fs:CK V y b m x gv F
 c2:V.heap[c2]?=some (.cells #[.pointer (some ⟨y,0,none⟩)] 35)
 c5:V.heap[c5]?=some (.cells #[.string (bs s)] 9)
 ap:¬ fp m
section
variable {V W:World}{y b m x c2 c5:Nat}{gv:Value}{fp fp':Nat→Prop}{F:St}{s:T}{D D':Dsk}
theorem JY.below(h:JY V y b m x c2 c5 gv fp F s D)(hb:Bw V W):JY W y b m x c2 c5 gv fp F s D:=
 ⟨h.disk.below hb,h.Fs.below hb,(hb.block c2 (Ai h.c2)).trans h.c2,(hb.block c5 (Ai h.c5)).trans h.c5,h.ap⟩
theorem RZ{V:World}{y b m x b':Nat}{gv:Value}{fp:Nat→Prop}{F:St}{D:Dsk}(hd:Bl V b' D fp)(hf:CK V y b m x gv F)(ap:¬ fp m)(k:Nat)(hk:RX y m x gv k):¬ fp k:=by
 rcases hk with rfl|rfl|hk
 ·exact fun e=>hd.Cv _ e (by decide) (by decide) hf.blk
 ·exact ap
 ·intro e;rcases hf.Dl.kind hk with h|h
  ·exact hd.Cv _ e (by decide) (by decide) h
  ·exact hd.Cv _ e (by decide) (by decide) h
theorem JY.yZ(h:JY V y b m x c2 c5 gv fp F s D)(hd:Bl W b D' fp')(hu:A7 fp V W)(hs:D6 fp fp' V):JY W y b m x c2 c5 gv fp' F s D':=
 ⟨hd,h.Fs.upd hu (fun k hk e=>h.disk.Cv k e (by decide) (by decide) hk) (RZ h.disk h.Fs h.ap),
  (hu.block c2 (Ai h.c2) (fun e=>h.disk.Cv _ e (by decide) (by decide) ⟨_,_,h.c2⟩)).trans h.c2,
  (hu.block c5 (Ai h.c5) (fun e=>h.disk.Cv _ e (by decide) (by decide) ⟨_,_,h.c5⟩)).trans h.c5,
  fun e=>(hs m e).elim h.ap (fun e2=>by have:=h.Fs.map.lt;omega)⟩
theorem JY.reads(h:JY V y b m x c2 c5 gv fp F s D):V.cell? ⟨c2,0,none⟩=some (.pointer (some ⟨y,0,none⟩))∧V.cell? ⟨c5,0,none⟩=some (.string (bs s))∧V.cell? ⟨y,0,none⟩=some (.pointer (some ⟨b,0,none⟩))∧V.cell? ⟨y,1,none⟩=some (.int .i64 (F.log:Int))∧V.cell? ⟨y,2,none⟩=some (.int .i64 (F.size:Int))∧V.cell? ⟨y,3,none⟩=some (.int .i64 (F.Av:Int))∧V.cell? ⟨y,5,none⟩=some (.pointer (some ⟨x,0,none⟩)):=by
 obtain⟨c0,c1,c2',c3,c4,c5',c6,_⟩:=h.Fs.cells;exact⟨Hf h.c2,Hf h.c5,c0,c1,c2',c3,c5'⟩
theorem avP(h:JY V y b m x c2 c5 gv fp F s D)(hs:s.length≤1000000)(GU:D.loose.length≤500000000):
  Calls prog 172 #[.pointer (some ⟨c2,0,none⟩),.pointer (some ⟨c5,0,none⟩)] V (VV V b D fp fun E=>E.write ((Cs F.log F.size F.Av:Nat):Int) (Wal.pad (Crc.le 4 s.length++s))):=by
 have HL:=Hi h;obtain⟨f1,f2,f3,f4⟩:=h.Fs.fits;have Fu:(Wal.pad (Crc.le 4 s.length++s)).length≤1000128:=by rw[Wal.Rh,Au,Crc.BK];omega
 have De:Cs F.log F.size F.Av≤40000:=by unfold Cs;have:F.Av*F.size≤1*F.size:=NC _ f4;omega
 have Bc:=Hi (Af V.heap.size V);have G8:=Hi ((Af V.heap.size V).drew);have UE:=Hi (h.below G8);have HW:=Hi (fun(W:World) (h:JY W y b m x c2 c5 gv fp F s D)=>lW h.disk ((Cs F.log F.size F.Av:Nat):Int) (Wal.pad (Crc.le 4 s.length++s)) (by omega) (by omega) (by omega));have aoj:=Hi (fun(W:World)=>agj (.pointer (some ⟨b,0,none⟩)) F.log F.size F.Av W f1 f2 f4);have ap1:=Hi (fun(W:World)=>oU s.length W (by omega));have HWH:=Hi (fun(W:World)=>oZ (Crc.le 4 s.length++s) W (by rw[Au,Crc.BK];omega));have qh:∀ W,(binOp .add 9 (.string (bs (Crc.le 4 s.length))) (.string (bs s))).run prog W=.ok (.string (bs (Crc.le 4 s.length++s))) W:=fun W=>by
  have h4:=Crc.BK 4 s.length;simp[go_sem,Op.stringOp,h4];omega
 have aBw:∀ W,(Op.stringOp .add (bs (Crc.le 4 s.length)) (bs s)).run prog W=.ok (.string (bs (Crc.le 4 s.length++s))) W:=fun W=>by
  have h4:=Crc.BK 4 s.length;simp[go_sem,Op.stringOp,h4];omega
 have h4:=Crc.BK 4 s.length;have CB:(4:Int)+(s.length:Int)≤9223372036854775807:=by omega
 generalize Wal.pad (Crc.le 4 s.length++s)=P at*;generalize Cs F.log F.size F.Av=B at*;obtain⟨d0,d1,d2,d3,d4,d5,d6⟩:=h.reads;clear h;go_enter func172,ntmps172;go_wp2_with fail
 go_region_held3 (fun W=>W.cell? ⟨c2,0,none⟩=some (.pointer (some ⟨y,0,none⟩))∧W.cell? ⟨c5,0,none⟩=some (.string (bs s))∧W.cell? ⟨y,0,none⟩=some (.pointer (some ⟨b,0,none⟩))∧W.cell? ⟨y,1,none⟩=some (.int .i64 (F.log:Int))∧W.cell? ⟨y,2,none⟩=some (.int .i64 (F.size:Int))∧W.cell? ⟨y,3,none⟩=some (.int .i64 (F.Av:Int))∧W.cell? ⟨y,5,none⟩=some (.pointer (some ⟨x,0,none⟩)))
  (first|exact UE.reads|exact Ga.reads|exact J3.reads|exact NJ.reads|exact UD.reads)
  (first
   |(go_at_call 124;refine(aoj _).mono ?_;rintro e W1 ⟨rfl,Ad⟩;have Ga:=Hi (UE.below Ad);have HB1:=Hi (G8.trans (Ad.mono G8.size));clear Ad)
   |(go_at_call 173;refine(ap1 _).mono ?_;rintro e W2 ⟨rfl,A8⟩;have J3:=Hi (Ga.below A8);have Ag:=Hi (HB1.trans (A8.mono HB1.size));clear A8)
   |(go_at_call 121;refine(HWH _).mono ?_;rintro e W3 ⟨rfl,Ak⟩;have NJ:=Hi (J3.below Ak);have Am:=Hi (Ag.trans (Ak.mono Ag.size));clear Ak)
   |(go_at_call 134;refine(HW _ NJ).mono ?_;rintro e W4 ⟨rfl,OI,U1,SI,Ub⟩;have UD:=Hi (NJ.yZ U1 SI Ub);have UA:=Hi U1;have QQ:=Hi SI;have NP:=Hi Ub;clear U1 SI Ub))
 all_goals
  go_wp2_with fail;go_ret;exact⟨rfl,OI,UA,(A7.of_below (F:=fp) Am).trans QQ (fun i hi=>.inl hi),fun i hi=>(NP i hi).elim .inl (fun e=>.inr (Ap Am.size e))⟩
theorem avQ(h:JY V y b m x c2 c5 gv fp F s D)(GU:D.loose.length≤500000000):
  Calls prog 174 #[.pointer (some ⟨c2,0,none⟩)] V (VV V b D fp fun E=>E.write ((0:Nat):Int) (Fil.mark F.Av ((F.w.gen+1) % 18446744073709551616))):=by
 have HL:=Hi h;obtain⟨f1,f2,f3,f4⟩:=h.Fs.fits;have Nl:(F.w.gen+1) % 18446744073709551616 < 18446744073709551616:=Nat.mod_lt _ (by decide);have EC:=Fil.Nu F.Av ((F.w.gen+1) % 18446744073709551616);have G8:=Hi ((Af V.heap.size V).drew);have UE:=Hi (h.below G8);have HW:=Hi (fun(W:World) (h:JY W y b m x c2 c5 gv fp F s D)=>lW h.disk ((0:Nat):Int) (Fil.mark F.Av ((F.w.gen+1) % 18446744073709551616)) (by omega) (by omega) (by omega));have MV:=Hi (fun(W:World)=>agG F.Av ((F.w.gen+1) % 18446744073709551616) W f4 Nl);have Tw:=Hi (fun(W:World) (h:JY W y b m x c2 c5 gv fp F s D)=>anP h.Fs.Dl);have e3:=adf F.w.gen;generalize Fil.mark F.Av ((F.w.gen+1) % 18446744073709551616)=P at*;generalize (F.w.gen+1) % 18446744073709551616=G at*;obtain⟨d0,d1,d2,d3,d4,d5,d6⟩:=h.reads;clear h;go_enter func174,ntmps174;go_wp2_with fail
 go_region_held3 (fun W=>W.cell? ⟨c2,0,none⟩=some (.pointer (some ⟨y,0,none⟩))∧W.cell? ⟨c5,0,none⟩=some (.string (bs s))∧W.cell? ⟨y,0,none⟩=some (.pointer (some ⟨b,0,none⟩))∧W.cell? ⟨y,1,none⟩=some (.int .i64 (F.log:Int))∧W.cell? ⟨y,2,none⟩=some (.int .i64 (F.size:Int))∧W.cell? ⟨y,3,none⟩=some (.int .i64 (F.Av:Int))∧W.cell? ⟨y,5,none⟩=some (.pointer (some ⟨x,0,none⟩)))
  (first|exact UE.reads|exact Ga.reads|exact J3.reads|exact UD.reads)
  (first
   |(go_at_call 54;refine(Tw _ UE).mono ?_;rintro e W1 ⟨rfl,rfl⟩;have Ga:=UE)
   |(go_at_call 123;refine(MV _).mono ?_;rintro e W2 ⟨rfl,A8⟩;have J3:=Hi (Ga.below A8);have Ag:=Hi (G8.trans (A8.mono G8.size));clear A8)
   |(go_at_call 134;refine(HW _ J3).mono ?_;rintro e W4 ⟨rfl,OI,U1,SI,Ub⟩;have UD:=Hi (J3.yZ U1 SI Ub);have UA:=Hi U1;have QQ:=Hi SI;have NP:=Hi Ub;clear U1 SI Ub))
 all_goals
  go_wp2_with fail;go_ret;exact⟨rfl,OI,UA,(A7.of_below (F:=fp) Ag).trans QQ (fun i hi=>.inl hi),fun i hi=>(NP i hi).elim .inl (fun e=>.inr (Ap Ag.size e))⟩
theorem aqD{c6 cap:Nat}{a:Option Addr}{l:List T}(hd:Bl V b D fp)(hf:CK V y b m x gv F)(ap:¬ fp m)(h2:V.heap[c2]?=some (.cells #[.pointer (some ⟨y,0,none⟩)] 35))(h6:V.heap[c6]?=some (.cells #[.slice a l.length cap] 27))(jf:¬ BD x gv c6)
  (hx:Cg V a l)(Ve:∀ p,a=some p→l≠[]→¬ fp p.block∧¬ BD x gv p.block)(hlen:l.length≤1000000)(CB:rowLen l≤1000000)(GU:D.loose.length≤400000000)(O6:F.w.groups.length≤1000000):
  Calls prog 102 #[.pointer (some ⟨c2,0,none⟩),.pointer (some ⟨c6,0,none⟩)] V fun e w'=>Yu V x b gv fp (wappend D F.w l) e w':=by
 have G8:=Hi ((Af V.heap.size V).drew);have HA:=Hi (apV (cap:=cap) (hd.below G8) (hf.Dl.below G8) (hx.below G8) Ve hlen CB GU O6);obtain⟨_,_,_,_,_,d5,_⟩:=hf.cells;have c2':=Hf h2;have c6':=Hf h6
 have HK:=Hi (fun(W:World) (hu:A7 (fun k=>fp k∨BD x gv k) V.drew W)=>(by
  refine⟨(hu.cell (p:=⟨c2,0,none⟩) (Ai h2) ?_).trans c2',(hu.cell (p:=⟨c6,0,none⟩) (Ai h6) ?_).trans c6',(hu.cell (p:=⟨y,5,none⟩) (hf.lt y (.inl rfl)) ?_).trans d5⟩
  ·rintro(e|e)
   ·exact hd.Cv _ e (by decide) (by decide) ⟨_,_,h2⟩
   ·rcases hf.Dl.kind e with h|h
    ·exact AA.ne ⟨_,_,h2⟩ h (by decide) rfl
    ·exact AA.ne ⟨_,_,h2⟩ h (by decide) rfl
  ·rintro(e|e)
   ·exact hd.Cv _ e (by decide) (by decide) ⟨_,_,h6⟩
   ·exact jf e
  ·rintro(e|e)
   ·exact RZ hd hf ap y (.inl rfl) e
   ·exact hf.XC.2.1 e:W.cell? ⟨c2,0,none⟩=some (.pointer (some ⟨y,0,none⟩))∧W.cell? ⟨c6,0,none⟩=some (.slice a l.length cap)∧W.cell? ⟨y,5,none⟩=some (.pointer (some ⟨x,0,none⟩))))
 clear hd hf hx Ve h2 h6;go_enter func102,ntmps102;go_wp2_with fail
 go_region_held3 (fun W=>W.cell? ⟨c2,0,none⟩=some (.pointer (some ⟨y,0,none⟩))∧W.cell? ⟨c6,0,none⟩=some (.slice a l.length cap)∧W.cell? ⟨y,5,none⟩=some (.pointer (some ⟨x,0,none⟩)))
  (first|exact HK _ (A7.refl _ _)|exact HK _ Jo)
  (first
   |(go_at_call 103;refine HA.mono ?_;rintro e W1 ⟨rfl,Eo,DX,g1,g2,g3,g4,g5⟩;have Jo:=Hi g3;have HG:=Hi (Cc g1 (Cc g2 (Cc g4 g5)));clear g1 g2 g3 g4 g5))
 all_goals
  go_wp2_with fail;go_ret;exact⟨rfl,Eo,DX,HG.1,HG.2.1,(A7.of_below (F:=fun k=>fp k∨BD x gv k) G8).trans Jo (fun i hi=>.inl hi),HG.2.2.1,HG.2.2.2⟩
end
end
section
open Go.RowKit Go.Maps
open Fil
def Qn(F:St)(s:T):List (Dsk×Bn→(Dsk×Bn)×Int):=
 [fun E=>(((E.1.write ((Cs F.log F.size F.Av:Nat):Int) (Wal.pad (Crc.le 4 s.length++s))).1,E.2),(E.1.write ((Cs F.log F.size F.Av:Nat):Int) (Wal.pad (Crc.le 4 s.length++s))).2),
  fun E=>((E.1.flush.1,E.2),E.1.flush.2),
  fun E=>(((E.1.write ((0:Nat):Int) (Fil.mark F.Av ((E.2.gen+1) % 18446744073709551616))).1,E.2),(E.1.write ((0:Nat):Int) (Fil.mark F.Av ((E.2.gen+1) % 18446744073709551616))).2),
  fun E=>((E.1.flush.1,E.2),E.1.flush.2),
  fun E=>(((Dm E.1 E.2).1,(Dm E.1 E.2).2.1),(Dm E.1 E.2).2.2)]
def akw(F:St)(r:(Dsk×Bn)×Int):St:={ F with Av:=1 -F.Av,w:=r.1.2,fault:=if r.2=0 then F.fault else r.2 }
theorem ar6(f1 f2 f4:Dsk→Dsk×Int)(f3:Bn→Dsk→Dsk×Int)(D:Dsk)(L:Bn):
  doG [fun E:Dsk×Bn=>(((f1 E.1).1,E.2),(f1 E.1).2),fun E=>(((f2 E.1).1,E.2),(f2 E.1).2),fun E=>(((f3 E.2 E.1).1,E.2),(f3 E.2 E.1).2),fun E=>(((f4 E.1).1,E.2),(f4 E.1).2),fun E=>(((Dm E.1 E.2).1,(Dm E.1 E.2).2.1),(Dm E.1 E.2).2.2)] (D,L)=
  if(doS [f1,f2,f3 L,f4] D).2=0 then(((Dm (doS [f1,f2,f3 L,f4] D).1 L).1,(Dm (doS [f1,f2,f3 L,f4] D).1 L).2.1),(Dm (doS [f1,f2,f3 L,f4] D).1 L).2.2) else(((doS [f1,f2,f3 L,f4] D).1,L),(doS [f1,f2,f3 L,f4] D).2):=by
 by_cases h1:(f1 D).2=0
 ·by_cases h2:(f2 (f1 D).1).2=0
  ·by_cases h3:(f3 L (f2 (f1 D).1).1).2=0
   ·by_cases h4:(f4 (f3 L (f2 (f1 D).1).1).1).2=0
    ·by_cases h5:(Dm (f4 (f3 L (f2 (f1 D).1).1).1).1 L).2.2=0
     ·simp[doS,doG,h1,h2,h3,h4,h5]
     ·simp[doS,doG,h1,h2,h3,h4,h5]
    ·simp[doS,doG,h1,h2,h3,h4]
   ·simp[doS,doG,h1,h2,h3]
  ·simp[doS,doG,h1,h2]
 ·simp[doS,doG,h1]
theorem akx(D:Dsk)(F:St)(m:M):Og D F m=((doG (Qn { F with Av:=1 -F.Av } (Fil.bytes m)) (D,F.w)).1.1,
  { akw F (doG (Qn { F with Av:=1 -F.Av } (Fil.bytes m)) (D,F.w)) with m:=if(doG (Qn { F with Av:=1 -F.Av } (Fil.bytes m)) (D,F.w)).2=0 then m else F.m },
  (doG (Qn { F with Av:=1 -F.Av } (Fil.bytes m)) (D,F.w)).2):=by
 have e:doG (Qn { F with Av:=1 -F.Av } (Fil.bytes m)) (D,F.w)=if(doS (GV F m) D).2=0 then(((Dm (doS (GV F m) D).1 F.w).1,(Dm (doS (GV F m) D).1 F.w).2.1),(Dm (doS (GV F m) D).1 F.w).2.2) else(((doS (GV F m) D).1,F.w),(doS (GV F m) D).2):=
  ar6 (fun E=>E.write ((Cs F.log F.size (1 -F.Av):Nat):Int) (PQ m)) Dsk.flush Dsk.flush (fun L E=>E.write ((0:Nat):Int) (Fil.mark (1 -F.Av) ((L.gen+1) % 18446744073709551616))) D F.w
 rw[e];unfold Og akw;by_cases h1:(doS (GV F m) D).2=0
 ·by_cases h2:(Dm (doS (GV F m) D).1 F.w).2.2=0
  ·simp[h1,h2]
  ·simp[h1,h2]
 ·simp[h1]
theorem JY.aAp{V W:World}{y b m x c2 c5:Nat}{gv EN:Value}{fp fp':Nat→Prop}{F:St}{s:T}{D D':Dsk}{L:Bn}(h:JY V y b m x c2 c5 gv fp F s D)(hd:Bl W b D' fp')(hw:BZ W x b EN L)(hu:A7 (fun k=>fp k∨BD x gv k) V W)(hs:D6 fp fp' V):JY W y b m x c2 c5 EN fp' { F with w:=L } s D':=by
 have hk:∀ {k t},AA V k t→t≠117→t≠195→t≠207→t≠27→¬ (fp k∨BD x gv k):=fun hb h1 h2 h3 h4 e=>by
  rcases e with e|e
  ·exact h.disk.Cv _ e h1 h2 hb
  ·rcases h.Fs.Dl.kind e with g|g
   ·exact AA.ne hb g h3 rfl
   ·exact AA.ne hb g h4 rfl
 exact⟨hd,⟨(hu.block y (Ai h.Fs.struct) (hk h.Fs.blk (by decide) (by decide) (by decide) (by decide))).trans h.Fs.struct,h.Fs.map.upd hu (fun e=>e.elim h.ap h.Fs.XC.2.2),hw,h.Fs.fits⟩,
  (hu.block c2 (Ai h.c2) (hk ⟨_,_,h.c2⟩ (by decide) (by decide) (by decide) (by decide))).trans h.c2,
  (hu.block c5 (Ai h.c5) (hk ⟨_,_,h.c5⟩ (by decide) (by decide) (by decide) (by decide))).trans h.c5,
  fun e=>(hs m e).elim h.ap (fun e2=>by have:=h.Fs.map.lt;omega)⟩
theorem al8(a b c k:Nat)(h1:a≤b+100000)(h2:b≤c+100000*k):a≤c+100000*(k+1):=by
 rw[Nat.mul_succ,←Nat.add_assoc];generalize 100000*k=m at*;omega
def OA(w:World)(y b m x c2 c5:Nat)(PW:Nat→Prop)(TR:Value)(F:St)(s:T)(n0:Nat)(k:Nat)(E:Dsk×Bn)(W:World):Prop:=
 ∃ fp gv,JY W y b m x c2 c5 gv fp { F with w:=E.2 } s E.1∧A7 (fun k=>PW k∨BD x TR k) w W∧D6 PW fp w∧D6 (BD x TR) (BD x gv) w∧E.1.loose.length≤n0+100000*k
section
variable {w V W:World}{y b m x c2 c5:Nat}{TR:Value}{PW:Nat→Prop}{F:St}{s:T}{n0 k:Nat}{D:Dsk}{L:Bn}{e:Ending}
theorem OA.step{fp:Nat→Prop}{gv:Value}{f:Dsk→Dsk×Int}(h:JY V y b m x c2 c5 gv fp { F with w:=L } s D)(hu:A7 (fun k=>PW k∨BD x TR k) w V)(h1:D6 PW fp w)(h2:D6 (BD x TR) (BD x gv) w)(hl:D.loose.length≤n0+100000*k)
  (hp:VV V b D fp f e W)(hm:(f D).1.loose.length≤D.loose.length+100000):e=.returned (.int .i64 (f D).2)∧OA w y b m x c2 c5 PW TR F s n0 (k+1) ((f D).1,L) W:=by
 obtain⟨he,fp',p1,p2,p3⟩:=hp;refine⟨he,fp',gv,h.yZ p1 p2 p3,hu.trans p2 (fun i hi=>(h1 i hi).imp .inl id),fun i hi=>?_,h2,al8 _ _ _ _ hm hl⟩;rcases p3 i hi with e|e
 ·exact h1 i e
 ·exact .inr (Ap hu.size e)
theorem OA.reset(h:OA w y b m x c2 c5 PW TR F s n0 k (D,L) V)(hn:n0+100000*k≤400000000)(hm:(Dm D L).1.loose.length≤D.loose.length+100000):
  Calls prog 58 #[.pointer (some ⟨x,0,none⟩)] V fun e W=>e=.returned (.int .i64 (Dm D L).2.2)∧OA w y b m x c2 c5 PW TR F s n0 (k+1) ((Dm D L).1,(Dm D L).2.1) W:=by
 obtain⟨fp,gv,h,hu,h1,h2,hl⟩:=h;have hl:D.loose.length≤n0+100000*k:=hl;refine(am6 h.disk h.Fs.Dl (by omega)).mono ?_;rintro e W⟨rfl,fp',EN,p1,p2,p3,p4,p5⟩;refine⟨rfl,fp',EN,h.aAp p1 p2 p3 p4,hu.trans p3 (fun i hi=>hi.elim (fun e=>(h1 i e).imp .inl id) (fun e=>(h2 i e).imp .inr id)),fun i hi=>?_,fun i hi=>?_,al8 _ _ _ _ hm hl⟩
 ·rcases p4 i hi with e|e
  ·exact h1 i e
  ·exact .inr (Ap hu.size e)
 ·rcases p5 i hi with e|e
  ·exact h2 i e
  ·exact .inr (Ap hu.size e)
theorem aAx(D:Dsk)(L:Bn):(Dm D L).1.loose.length≤D.loose.length+100000:=by
 have key:(doS L.L9 D).1.loose.length≤D.loose.length+1:=by
  unfold Bn.L9;simp only[doS];have h1:=Dsk.Te D (L.from_:Int) (Wal.mark ((L.gen+1) % 18446744073709551616) 0);rw[Wal.Nu] at h1;split
  ·have h2:=Dsk.TP (D.write (L.from_:Int) (Wal.mark ((L.gen+1) % 18446744073709551616) 0)).1;split
   ·show(D.write (L.from_:Int) (Wal.mark ((L.gen+1) % 18446744073709551616) 0)).1.flush.1.loose.length≤_;omega
   ·omega
  ·omega
 unfold Dm;split
 ·exact Nat.le_add_right _ _
 ·split
  ·show(doS L.L9 D).1.loose.length≤_;omega
  ·show(doS L.L9 D).1.loose.length≤_;omega
theorem asa(hs:s.length≤1000000)(hn:n0≤300000000):
  adI (OA w y b m x c2 c5 PW TR F s n0) (fun E W=>∃ k,OA w y b m x c2 c5 PW TR F s n0 k E W)
   [.func (.func 172) #[] #[.pointer (some ⟨c2,0,none⟩),.pointer (some ⟨c5,0,none⟩)],.func (.func 135) #[.pointer (some ⟨b,0,none⟩)] #[],.func (.func 174) #[] #[.pointer (some ⟨c2,0,none⟩)],.func (.func 135) #[.pointer (some ⟨b,0,none⟩)] #[],.func (.func 58) #[.pointer (some ⟨x,0,none⟩)] #[]] (Qn F s):=by
 have Fu:(Wal.pad (Crc.le 4 s.length++s)).length≤1000128:=by rw[Wal.Rh,Au,Crc.BK];omega
 refine⟨rfl,fun i h h'=>?_⟩
 match i,h with
 |0,_=>
  refine⟨_,_,_,rfl,enters_of func172 (by kernel_rfl) rfl,fun E W hI=>?_⟩;obtain⟨fp,gv,h,hu,h1,h2,hl⟩:=hI;refine(avP h hs (by omega)).mono fun e W' hp=>?_
  have:=OA.step h hu h1 h2 hl hp (by have:=Dsk.Te E.1 ((Cs F.log F.size F.Av:Nat):Int) (Wal.pad (Crc.le 4 s.length++s));show(E.1.write ((Cs F.log F.size F.Av:Nat):Int) (Wal.pad (Crc.le 4 s.length++s))).1.loose.length≤_;omega);exact⟨this.1,fun _=>this.2,fun _=>⟨_,this.2⟩⟩
 |1,_=>
  refine⟨_,_,_,rfl,enters_of func135 (by kernel_rfl) rfl,fun E W hI=>?_⟩;obtain⟨fp,gv,h,hu,h1,h2,hl⟩:=hI;refine(oP h.disk (by omega)).mono fun e W' hp=>?_
  have:=OA.step (f:=Dsk.flush) h hu h1 h2 hl hp (by have:=Dsk.TP E.1;omega);exact⟨this.1,fun _=>this.2,fun _=>⟨_,this.2⟩⟩
 |2,_=>
  refine⟨_,_,_,rfl,enters_of func174 (by kernel_rfl) rfl,fun E W hI=>?_⟩;obtain⟨fp,gv,h,hu,h1,h2,hl⟩:=hI;refine(avQ h (by omega)).mono fun e W' hp=>?_
  have:=OA.step h hu h1 h2 hl hp (by have:=Dsk.Te E.1 ((0:Nat):Int) (Fil.mark F.Av ((E.2.gen+1) % 18446744073709551616));rw[Fil.Nu] at this;show(E.1.write ((0:Nat):Int) (Fil.mark F.Av ((E.2.gen+1) % 18446744073709551616))).1.loose.length≤_;omega);exact⟨this.1,fun _=>this.2,fun _=>⟨_,this.2⟩⟩
 |3,_=>
  refine⟨_,_,_,rfl,enters_of func135 (by kernel_rfl) rfl,fun E W hI=>?_⟩;obtain⟨fp,gv,h,hu,h1,h2,hl⟩:=hI;refine(oP h.disk (by omega)).mono fun e W' hp=>?_
  have:=OA.step (f:=Dsk.flush) h hu h1 h2 hl hp (by have:=Dsk.TP E.1;omega);exact⟨this.1,fun _=>this.2,fun _=>⟨_,this.2⟩⟩
 |4,_=>
  refine⟨_,_,_,rfl,enters_of func58 (by kernel_rfl) rfl,fun E W hI=>?_⟩;refine(OA.reset hI (by omega) (aAx _ _)).mono fun e W' hp=>?_
  exact⟨hp.1,fun _=>hp.2,fun _=>⟨_,hp.2⟩⟩
end
end
section
open Go.RowKit Go.Maps
open Fil
def Uy(w:World)(y b _m x:Nat)(gv:Value)(fp:Nat→Prop)(r:Dsk×St×Int)(m':Nat)(e:Ending)(w':World):Prop:=
 e=.returned (.int .i64 r.2.2)∧∃ fp' EN,Bl w' b r.1 fp'∧CK w' y b m' x EN r.2.1∧¬ fp' m'∧A7 (fun k=>fp k∨k=y∨BD x gv k) w w'∧D6 fp fp' w∧D6 (BD x gv) (BD x EN) w
theorem aq2{a:Nat}(h:a≤1):IntKind.i64.wrap (1 -(a:Int))=((1 -a:Nat):Int):=by
 rw[Ei _ (by omega)];omega
theorem CK.ayI{w:World}{y b m x:Nat}{gv:Value}{F:St}(h:CK w y b m x gv F)(a:Nat)(ha:a≤1):CK (w.setCell ⟨y,3,none⟩ (.int .i64 (a:Int))) y b m x gv { F with Av:=a }:=by
 have hu:A7 (fun k=>k=y) w (w.setCell ⟨y,3,none⟩ (.int .i64 (a:Int))):=(A7.refl (fun k=>k=y) w).setCell (p:=⟨y,3,none⟩) (.inl rfl) _;exact⟨BU w y 3 _ _ _ h.struct,h.map.upd hu (fun e=>h.XC.1 e.symm),h.Dl.upd hu (fun k hk e=>by subst e;exact AA.ne hk h.blk (by decide) rfl) (fun k hk e=>by subst e;exact h.XC.2.1 hk),⟨h.fits.1,h.fits.2.1,h.fits.2.2.1,ha⟩⟩
theorem CK.ui{w:World}{y b m x:Nat}{gv:Value}{F:St}(h:CK w y b m x gv F)(k:Int):CK (w.setCell ⟨y,6,none⟩ (.int .i64 k)) y b m x gv { F with fault:=k }:=by
 have hu:A7 (fun k=>k=y) w (w.setCell ⟨y,6,none⟩ (.int .i64 k)):=(A7.refl (fun k=>k=y) w).setCell (p:=⟨y,6,none⟩) (.inl rfl) _;exact⟨BU w y 6 _ _ _ h.struct,h.map.upd hu (fun e=>h.XC.1 e.symm),h.Dl.upd hu (fun k hk e=>by subst e;exact AA.ne hk h.blk (by decide) rfl) (fun k hk e=>by subst e;exact h.XC.2.1 hk),h.fits⟩
def dC(b x c2 c5:Nat):Array Value:=#[.func (.func 172) #[] #[.pointer (some ⟨c2,0,none⟩),.pointer (some ⟨c5,0,none⟩)],.func (.func 135) #[.pointer (some ⟨b,0,none⟩)] #[],.func (.func 174) #[] #[.pointer (some ⟨c2,0,none⟩)],.func (.func 135) #[.pointer (some ⟨b,0,none⟩)] #[],.func (.func 58) #[.pointer (some ⟨x,0,none⟩)] #[]]
theorem avS{V:World}{y b m x c2 c5:Nat}{gv:Value}{fp:Nat→Prop}{F:St}{S:T}{D:Dsk}(h:JY V y b m x c2 c5 gv fp F S D)(hs:S.length≤1000000)(GU:D.loose.length≤300000000)(nq:Nat):
  Calls prog 101 #[.pointer (some ⟨y,0,none⟩),.slice (some ⟨V.heap.size,0,none⟩) 5 5] ((V.alloc (.cells (dC b x c2 c5) 95)).drewN nq) fun e w'=>e=.returned (.int .i64 (doG (Qn F S) (D,F.w)).2)∧∃ fp' EN,Bl w' b (doG (Qn F S) (D,F.w)).1.1 fp'∧CK w' y b m x EN { F with w:=(doG (Qn F S) (D,F.w)).1.2,fault:=if(doG (Qn F S) (D,F.w)).2=0 then F.fault else(doG (Qn F S) (D,F.w)).2 }∧¬ fp' m∧A7 (fun k=>fp k∨k=y∨BD x gv k) V w'∧D6 fp fp' V∧D6 (BD x gv) (BD x EN) V∧w'.heap[c2]?=some (.cells #[.pointer (some ⟨y,0,none⟩)] 35):=by
 have hb:Bw V ((V.alloc (.cells (dC b x c2 c5) 95)).drewN nq):=((Af _ _).alloc (Ac _) _).trans ((F6 _ nq).mono (by rw[Aq];omega));have Ah:((V.alloc (.cells (dC b x c2 c5) 95)).drewN nq).heap[V.heap.size]?=some (.cells (dC b x c2 c5) 95):=((F6 _ nq).block V.heap.size (by rw[Aq];omega)).trans (AJ V _);have h0:=h.below hb;have EO:=A7.of_below (F:=fun k=>fp k∨k=y∨BD x gv k) hb;have hbs:=hb.size;generalize (V.alloc (.cells (dC b x c2 c5) 95)).drewN nq=w0 at*;have AP:∀ {P P':Nat→Prop},D6 P P' w0→D6 P P' V:=fun hs i hi=>(hs i hi).imp id (fun e=>Ap hbs e)
 generalize V.heap.size=g at*;have hg:¬ (fp g∨BD x gv g):=fun e=>by
  rcases e with e|e
  ·exact h0.disk.Cv _ e (by decide) (by decide) ⟨_,_,Ah⟩
  ·rcases h0.Fs.Dl.kind e with k|k
   ·exact AA.ne ⟨_,_,Ah⟩ k (by decide) rfl
   ·exact AA.ne ⟨_,_,Ah⟩ k (by decide) rfl
 refine(agp (I:=OA w0 y b m x c2 c5 fp gv F S D.loose.length) (J:=fun E W=>∃ k,OA w0 y b m x c2 c5 fp gv F S D.loose.length k E W) (s0:=(D,F.w)) (cap:=5) (g:=g) (n:=5)
  ⟨fp,gv,h0,A7.refl _ _,fun _ h=>.inl h,fun _ h=>.inl h,Nat.le_add_right _ _⟩ (asa hs GU) ?_ rfl (Ac 5) ?_).mono ?_
 ·rintro k E W ⟨Eo,DX,g1,g2,g3,g4,g5⟩ i u hu;rw[BA W g i _ _ _ ((g2.block g (Ai Ah) hg).trans Ah),←hu]
  show(dC b x c2 c5)[i]?=_
  rw[←Dn];rfl
 ·rintro E W ⟨k,Eo,DX,g1,g2,g3,g4,g5⟩;have c:=g1.Fs.cells;exact⟨⟨_,c.2.2.2.2.2.2.1⟩,c.2.2.2.2.2.2.2 6⟩
 ·generalize doG (Qn F S) (D,F.w)=r;rintro e w'⟨rfl,r1,r2⟩;refine⟨rfl,?_⟩;by_cases hr:r.2=0
  ·obtain⟨Eo,DX,g1,g2,g3,g4,g5⟩:=r1 hr;rw[Ab hr];exact⟨Eo,DX,g1.disk,g1.Fs,g1.ap,EO.trans (g2.mono (fun i hi=>hi.elim .inl (fun e=>.inr (.inr e)))) (fun i hi=>.inl hi),AP g3,AP g4,g1.c2⟩
  ·obtain⟨W,⟨k,Eo,DX,g1,g2,g3,g4,g5⟩,rfl⟩:=r2 hr;rw[Aa hr];have hu:A7 (fun k=>k=y) W (W.setCell ⟨y,6,none⟩ (.int .i64 r.2)):=(A7.refl (fun k=>k=y) W).setCell (p:=⟨y,6,none⟩) (.inl rfl) _;refine⟨Eo,DX,g1.disk.upd hu (fun k hk e=>by subst e;exact RZ g1.disk g1.Fs g1.ap k (.inl rfl) hk),g1.Fs.ui r.2,g1.ap,(EO.trans (g2.mono (fun i hi=>hi.elim .inl (fun e=>.inr (.inr e)))) (fun i hi=>.inl hi)).trans hu (fun i hi=>.inl (.inr (.inl hi))),AP g3,AP g4,(hu.block c2 (Ai g1.c2) (fun e=>by subst e;exact AA.ne ⟨_,_,g1.c2⟩ g1.Fs.blk (by decide) rfl)).trans g1.c2⟩
theorem agE{w:World}{y b m x mv:Nat}{gv:Value}{fp:Nat→Prop}{F:St}{D:Dsk}{A:M}(hd:Bl w b D fp)(hf:CK w y b m x gv F)(ap:¬ fp m)(hM:Co w mv A)(hg:Fil.Good A)(hc:used A≤1000000)(GU:D.loose.length≤300000000):
  Calls prog 100 #[.pointer (some ⟨y,0,none⟩),.map (some mv)] w fun e w'=>Uy w y b m x gv fp ((Og D F A).1,{ (Og D F A).2.1 with m:=F.m },(Og D F A).2.2) m e w':=by
 have HD:=Hi hd;have HF:=Hi hf;have Bq:=(Af w.heap.size w).alloc (Ac _) (.cells #[.pointer (some ⟨y,0,none⟩)] 35);have Bc:=Hi Bq;have vE:=Hi (arP (hM.below Bq) hg hc);have Lh:=Hi (AJ w (.cells #[.pointer (some ⟨y,0,none⟩)] 35));have hyl:=hf.lt y (.inl rfl);have iZ:=hf.fits.2.2.2;have e1:=aq2 iZ;have Vd:1 -F.Av≤1:=by omega
 have UE:=Hi (akx D F A);have Cz:(Fil.bytes A).length≤1000000:=by rw[yA];exact hc
 clear hd hf Bq hM;generalize Fil.bytes A=S at*;go_enter func100,ntmps100;go_wp2_with fail;refine vE.mono ?_;rintro e w1⟨rfl,Ad⟩;have HB1:=Hi (Bc.trans (Ad.mono Bc.size));have Gf:=(Ad.block w.heap.size (Ai Lh)).trans Lh.out;have NG:=Hi Gf;have c0:=Hf Gf;have fG:=Hi (HF.below HB1);obtain⟨_,_,_,d3,_,_,_,df⟩:=fG.cells;have YF:=df 3;have bZ:w.heap.size < w1.heap.size:=Ai Gf;have aCB:y < w1.heap.size:=by omega
 clear Ad Gf df;go_wp2_with fail;go_region;have GD:A7 (fun k=>k=y) w1 (w1.setCell ⟨y,3,none⟩ (.int .i64 ((1 -F.Av:Nat):Int))):=(A7.refl (fun k=>k=y) w1).setCell (p:=⟨y,3,none⟩) (.inl rfl) _;have Bf:Below (w1.setCell ⟨y,3,none⟩ (.int .i64 ((1 -F.Av:Nat):Int))).heap.size (w1.setCell ⟨y,3,none⟩ (.int .i64 ((1 -F.Av:Nat):Int))) (((w1.setCell ⟨y,3,none⟩ (.int .i64 ((1 -F.Av:Nat):Int))).alloc (.cells #[.string (bs S)] 9)).drew):=((Af _ _).alloc (Ac _) _).drew;have R7:(((w1.setCell ⟨y,3,none⟩ (.int .i64 ((1 -F.Av:Nat):Int))).alloc (.cells #[.string (bs S)] 9)).drew).heap[w1.heap.size]?=some (.cells #[.string (bs S)] 9):=by
  have:=AJ (w1.setCell ⟨y,3,none⟩ (.int .i64 ((1 -F.Av:Nat):Int))) (.cells #[.string (bs S)] 9);rwa[show(w1.setCell ⟨y,3,none⟩ (.int .i64 ((1 -F.Av:Nat):Int))).heap.size=w1.heap.size by simp[World.setCell]] at this
 have O0:=HD.below HB1.out;have hys:∀ k,fp k→¬ k=y:=fun k hk e=>by subst e;exact RZ O0 fG ap k (.inl rfl) hk
 have hfa:=(fG.ayI (1 -F.Av) Vd).below Bf;have ai1:=(Bf.block w.heap.size (by simp[World.setCell];omega)).trans ((GD.block w.heap.size bZ (by omega)).trans NG);have FW:JY (((w1.setCell ⟨y,3,none⟩ (.int .i64 ((1 -F.Av:Nat):Int))).alloc (.cells #[.string (bs S)] 9)).drew) y b m x w.heap.size w1.heap.size gv fp { F with Av:=1 -F.Av } S D:=⟨(O0.upd GD hys).below Bf,hfa,ai1,R7,ap⟩;have CP:A7 (fun k=>fp k∨k=y∨BD x gv k) w (((w1.setCell ⟨y,3,none⟩ (.int .i64 ((1 -F.Av:Nat):Int))).alloc (.cells #[.string (bs S)] 9)).drew):=((A7.of_below (F:=fun k=>fp k∨k=y∨BD x gv k) HB1).trans (GD.mono (fun i hi=>.inr (.inl hi))) (fun i hi=>.inl hi)).trans (A7.of_below Bf) (fun i hi=>.inl hi);have Gc:=Hi CP;have NJ:=Hi FW;clear GD Bf R7 O0 hys hfa ai1 CP FW d3 YF e1 c0;generalize (((w1.setCell ⟨y,3,none⟩ (.int .i64 ((1 -F.Av:Nat):Int))).alloc (.cells #[.string (bs S)] 9)).drew)=w3 at*;have Pw:=Hi (fun nq=>avS NJ Cz GU nq);generalize doG (Qn { F with Av:=1 -F.Av } S) (D,F.w)=r at*;have K1:=Hi (fun(V:World) (f:CK V y b m x gv { F with Av:=1 -F.Av }) (h:V.heap[w.heap.size]?=some (.cells #[.pointer (some ⟨y,0,none⟩)] 35))=>(⟨Hf h,f.cells.1,f.cells.2.2.2.2.2.1⟩:V.cell? ⟨w.heap.size,0,none⟩=some (.pointer (some ⟨y,0,none⟩))∧V.cell? ⟨y,0,none⟩=some (.pointer (some ⟨b,0,none⟩))∧V.cell? ⟨y,5,none⟩=some (.pointer (some ⟨x,0,none⟩))));obtain⟨d1,d2,d3⟩:=K1 _ NJ.Fs NJ.c2;go_wp2_with fail
 go_region_held3 (fun V=>V.cell? ⟨w.heap.size,0,none⟩=some (.pointer (some ⟨y,0,none⟩))∧V.cell? ⟨y,0,none⟩=some (.pointer (some ⟨b,0,none⟩))∧V.cell? ⟨y,5,none⟩=some (.pointer (some ⟨x,0,none⟩)))
  (first|exact⟨d1,d2,d3⟩|exact⟨c1,vO.cells.1,vO.cells.2.2.2.2.2.1⟩|go_keep)
  (first
   |(go_at_call 101;refine(Pw 1).mono ?_;rintro e w4 ⟨rfl,OI,gv4,g1,g2,g3,g4,g5,g6,g7⟩;have c1:=Hf g7;have vO:=Hi g2;have HG:=Hi (Cc g1 (Cc g3 (Cc g4 (Cc g5 g6))));clear g1 g2 g3 g4 g5 g6 g7))
 all_goals
  go_wp2_with fail;go_ret;unfold Uy;rw[UE.out];exact⟨rfl,OI,gv4,HG.1,vO,HG.2.1,Gc.trans HG.2.2.1 (fun i hi=>.inl hi),fun i hi=>(HG.2.2.2.1 i hi).imp id (fun e=>Ap Gc.size e),fun i hi=>(HG.2.2.2.2 i hi).imp id (fun e=>Ap Gc.size e)⟩
end
section
open Go.RowKit Go.Maps
open Fil
theorem CK.acU{w:World}{y b m x mv:Nat}{gv:Value}{F:St}{A:M}(h:CK w y b m x gv F)(hM:Co w mv A):CK (w.setCell ⟨y,4,none⟩ (.map (some mv))) y b mv x gv { F with m:=A }:=by
 have hu:A7 (fun k=>k=y) w (w.setCell ⟨y,4,none⟩ (.map (some mv))):=(A7.refl (fun k=>k=y) w).setCell (p:=⟨y,4,none⟩) (.inl rfl) _;exact⟨BU w y 4 _ _ _ h.struct,hM.upd hu (fun e=>hM.Cv (e▸h.blk)),h.Dl.upd hu (fun k hk e=>by subst e;exact AA.ne hk h.blk (by decide) rfl) (fun k hk e=>by subst e;exact h.XC.2.1 hk),h.fits⟩
theorem aky(D:Dsk)(F:St)(A:M):(Og D F A).2.1.m=if(Og D F A).2.2=0 then A else F.m:=by rw[akx]
theorem apW{V:World}{y b m x c2 c6 cap:Nat}{gv:Value}{fp:Nat→Prop}{F:St}{D:Dsk}{q:Option Addr}{G:List T}(hd:Bl V b D fp)(hf:CK V y b m x gv F)(ap:¬ fp m)(h2:V.heap[c2]?=some (.cells #[.pointer (some ⟨y,0,none⟩)] 35))(h6:V.heap[c6]?=some (.cells #[.slice q G.length cap] 27))(jf:¬ BD x gv c6)
  (hx:Cg V q G)(Ve:∀ p,q=some p→G≠[]→¬ fp p.block∧¬ BD x gv p.block)(hlen:G.length≤1000000)(CB:rowLen G≤1000000)(GU:D.loose.length≤400000000)(O6:F.w.groups.length≤1000000)(nq:Nat):
  Calls prog 101 #[.pointer (some ⟨y,0,none⟩),.slice (some ⟨V.heap.size,0,none⟩) 1 1] ((V.alloc (.cells #[.func (.func 102) #[] #[.pointer (some ⟨c2,0,none⟩),.pointer (some ⟨c6,0,none⟩)]] 95)).drewN nq) fun e w'=>e=.returned (.int .i64 (wappend D F.w G).2.2)∧∃ fp' EN,Bl w' b (wappend D F.w G).1 fp'∧CK w' y b m x EN { F with w:=(wappend D F.w G).2.1,fault:=if(wappend D F.w G).2.2=0 then F.fault else(wappend D F.w G).2.2 }∧¬ fp' m∧A7 (fun k=>fp k∨k=y∨BD x gv k) V w'∧D6 fp fp' V∧D6 (BD x gv) (BD x EN) V∧w'.heap[c2]?=some (.cells #[.pointer (some ⟨y,0,none⟩)] 35):=by
 have hb:Bw V ((V.alloc (.cells #[.func (.func 102) #[] #[.pointer (some ⟨c2,0,none⟩),.pointer (some ⟨c6,0,none⟩)]] 95)).drewN nq):=((Af _ _).alloc (Ac _) _).trans ((F6 _ nq).mono (by rw[Aq];omega));have Ah:((V.alloc (.cells #[.func (.func 102) #[] #[.pointer (some ⟨c2,0,none⟩),.pointer (some ⟨c6,0,none⟩)]] 95)).drewN nq).heap[V.heap.size]?=some (.cells #[.func (.func 102) #[] #[.pointer (some ⟨c2,0,none⟩),.pointer (some ⟨c6,0,none⟩)]] 95):=((F6 _ nq).block V.heap.size (by rw[Aq];omega)).trans (AJ V _);have ji:=hd.below hb;have O3:=hf.below hb;have Rb:=hx.below hb;have Sc:=(hb.block c2 (Ai h2)).trans h2;have YG:=(hb.block c6 (Ai h6)).trans h6;have EO:=A7.of_below (F:=fun k=>fp k∨k=y∨BD x gv k) hb;have AP:∀ {P P':Nat→Prop},D6 P P' ((V.alloc (.cells #[.func (.func 102) #[] #[.pointer (some ⟨c2,0,none⟩),.pointer (some ⟨c6,0,none⟩)]] 95)).drewN nq)→D6 P P' V:=fun hs i hi=>(hs i hi).imp id (fun e=>Ap hb.size e)
 generalize (V.alloc (.cells #[.func (.func 102) #[] #[.pointer (some ⟨c2,0,none⟩),.pointer (some ⟨c6,0,none⟩)]] 95)).drewN nq=w0 at*;generalize V.heap.size=g at*;have hk:∀ {k t},AA w0 k t→t≠117→t≠195→t≠207→t≠27→¬ (fp k∨BD x gv k):=fun hb h1 h2 h3 h4 e=>by
  rcases e with e|e
  ·exact ji.Cv _ e h1 h2 hb
  ·rcases O3.Dl.kind e with g|g
   ·exact AA.ne hb g h3 rfl
   ·exact AA.ne hb g h4 rfl
 refine(agp (σ:=Dsk×Bn) (I:=fun k E W=>(k=0→W=w0∧E=(D,F.w))∧∃ Eo DX,Bl W b E.1 Eo∧BZ W x b DX E.2∧A7 (fun k=>fp k∨BD x gv k) w0 W∧D6 fp Eo w0∧D6 (BD x gv) (BD x DX) w0)
  (J:=fun E W=>∃ Eo DX,Bl W b E.1 Eo∧BZ W x b DX E.2∧A7 (fun k=>fp k∨BD x gv k) w0 W∧D6 fp Eo w0∧D6 (BD x gv) (BD x DX) w0) (s0:=(D,F.w)) (cap:=1) (g:=g) (n:=1) (fs:=[fun E=>(((wappend E.1 E.2 G).1,(wappend E.1 E.2 G).2.1),(wappend E.1 E.2 G).2.2)])
  (vs:=[.func (.func 102) #[] #[.pointer (some ⟨c2,0,none⟩),.pointer (some ⟨c6,0,none⟩)]])
  ⟨fun _=>⟨rfl,rfl⟩,fp,gv,ji,O3.Dl,A7.refl _ _,fun _ h=>.inl h,fun _ h=>.inl h⟩ ⟨rfl,fun i h h'=>?_⟩ ?_ rfl (by omega) ?_).mono ?_
 ·match i,h with
  |0,_=>
   refine⟨_,_,_,rfl,enters_of func102 (by kernel_rfl) rfl,fun E W hI=>?_⟩;obtain⟨rfl,rfl⟩:=hI.1 rfl;refine(aqD ji O3 ap Sc YG jf Rb Ve hlen CB GU O6).mono fun e W' hp=>?_
   exact⟨hp.1,fun _=>⟨fun h=>absurd h (by omega),hp.2⟩,fun _=>hp.2⟩
 ·rintro k E W ⟨_,Eo,DX,g1,g2,g3,g4,g5⟩ i u hu;rw[BA W g i _ _ _ ((g3.block g (Ai Ah) (hk ⟨_,_,Ah⟩ (by decide) (by decide) (by decide) (by decide))).trans Ah),←hu];rw[←Dn]
 ·rintro E W ⟨Eo,DX,g1,g2,g3,g4,g5⟩;have e:=(g3.block y (Ai O3.struct) (hk O3.blk (by decide) (by decide) (by decide) (by decide))).trans O3.struct;exact⟨⟨.int .i64 F.fault,by rw[BA W y _ _ _ _ e];rfl⟩,CJ W y 6 _ _ e⟩
 ·have hG1:doG [fun E:Dsk×Bn=>(((wappend E.1 E.2 G).1,(wappend E.1 E.2 G).2.1),(wappend E.1 E.2 G).2.2)] (D,F.w)=(((wappend D F.w G).1,(wappend D F.w G).2.1),(wappend D F.w G).2.2):=by
   by_cases hr:(wappend D F.w G).2.2=0<;>simp[doG,hr]
  rw[hG1];generalize wappend D F.w G=r at*;rintro e w'⟨rfl,r1,r2⟩;refine⟨rfl,?_⟩;have key:∀ W,(∃ Eo DX,Bl W b r.1 Eo∧BZ W x b DX r.2.1∧A7 (fun k=>fp k∨BD x gv k) w0 W∧D6 fp Eo w0∧D6 (BD x gv) (BD x DX) w0)→∃ fp' EN,Bl W b r.1 fp'∧CK W y b m x EN { F with w:=r.2.1 }∧¬ fp' m∧A7 (fun k=>fp k∨k=y∨BD x gv k) V W∧D6 fp fp' V∧D6 (BD x gv) (BD x EN) V∧W.heap[c2]?=some (.cells #[.pointer (some ⟨y,0,none⟩)] 35):=by
   rintro W⟨Eo,DX,g1,g2,g3,g4,g5⟩;exact⟨Eo,DX,g1,⟨(g3.block y (Ai O3.struct) (hk O3.blk (by decide) (by decide) (by decide) (by decide))).trans O3.struct,O3.map.upd g3 (fun e=>e.elim ap O3.XC.2.2),g2,O3.fits⟩,fun e=>(g4 m e).elim ap (fun e2=>by have:=O3.map.lt;omega),EO.trans (g3.mono (fun i hi=>hi.elim .inl (fun e=>.inr (.inr e)))) (fun i hi=>.inl hi),AP g4,AP g5,(g3.block c2 (Ai Sc) (hk ⟨_,_,Sc⟩ (by decide) (by decide) (by decide) (by decide))).trans Sc⟩
  by_cases hr:r.2.2=0
  ·obtain⟨Eo,DX,g⟩:=key _ (r1 hr).2;rw[Ab hr];exact⟨Eo,DX,g⟩
  ·obtain⟨W,hW,rfl⟩:=r2 hr;obtain⟨Eo,DX,g1,g2,g3,g4,g5,g6,g7⟩:=key _ hW;rw[Aa hr];have hu:A7 (fun k=>k=y) W (W.setCell ⟨y,6,none⟩ (.int .i64 r.2.2)):=(A7.refl (fun k=>k=y) W).setCell (p:=⟨y,6,none⟩) (.inl rfl) _;exact⟨Eo,DX,g1.upd hu (fun k hk e=>by subst e;exact RZ g1 g2 g3 k (.inl rfl) hk),g2.ui r.2.2,g3,g4.trans hu (fun i hi=>.inl (.inr (.inl hi))),g5,g6,(hu.block c2 (Ai g7) (fun e=>by subst e;exact AA.ne ⟨_,_,g7⟩ g2.blk (by decide) rfl)).trans g7⟩
def Rs(w:World)(y b m x:Nat)(gv:Value)(fp:Nat→Prop)(r:Dsk×St×Int)(e:Ending)(w':World):Prop:=
 ∃ m',Uy w y b m x gv fp r m' e w'∧(m'=m∨w.heap.size≤m')
section
variable {w:World}{y b m x cap:Nat}{gv:Value}{fp:Nat→Prop}{F:St}{D:Dsk}{a:Option Addr}{l:List Aj}
theorem afw{w':World}{e:Ending}{k:Int}(hd:Bl w b D fp)(hf:CK w y b m x gv F)(ap:¬ fp m)(hr:J7 D F l=(D,F,k))(he:e=.returned (.int .i64 k))(hb:Bw w w'):Rs w y b m x gv fp (J7 D F l) e w':=by
 rw[hr];exact⟨m,⟨he,fp,gv,hd.below hb,hf.below hb,ap,A7.of_below hb,fun _ h=>.inl h,fun _ h=>.inl h⟩,.inl rfl⟩
theorem agk(hd:Bl w b D fp)(hf:CK w y b m x gv F)(ap:¬ fp m)(hL:DW w a l)(hlen:l.length≤100000)(Cb:∀ c∈l,c.name.length≤maxLen∧c.data.length≤maxLen)(h0:F.fault=0)(AY:l.all Aj.may=false):
  Calls prog 32 #[.pointer (some ⟨y,0,none⟩),.slice a l.length cap] w fun e w'=>Rs w y b m x gv fp (J7 D F l) e w':=by
 have HD:=Hi hd;have HF:=Hi hf;have hR:J7 D F l=(D,F,2):=by unfold J7;rw[Aa (by simp[h0]),Ab AY]
 have HR:=Hi hR;have Bq:=(Af w.heap.size w).alloc (Ac _) (.cells #[.pointer (some ⟨y,0,none⟩)] 35);have Bc:=Hi Bq;obtain⟨_,_,_,_,_,_,c6,_⟩:=(hf.below Bq).cells;have HC:=Hi (agm (cap:=cap) (hL.below Bq) (by omega) Cb);rw[AY] at HC;rw[h0] at c6;clear hd hf hR Bq h0 hL Cb AY;go_enter func32,ntmps32;go_wp2_with fail;refine HC.mono ?_;rintro e w1⟨rfl,hb⟩;have HB1:=Hi (Bc.trans (hb.mono Bc.size));clear hb;go_wp2_with fail;go_ret;exact afw HD HF ap HR rfl HB1.out
theorem agl(hd:Bl w b D fp)(hf:CK w y b m x gv F)(ap:¬ fp m)(hL:DW w a l)(hlen:l.length≤100000)(Cb:∀ c∈l,c.name.length≤1000000∧c.data.length≤maxLen)(auh:Fil.Good F.m)(GD:used (made F.m l)≤1000000000)(WS:F.m.length≤1000000000)(hsz:F.size≤8192)(Ah:rowLen (group l)≤1000000)(GU:D.loose.length≤300000000)(O6:F.w.groups.length≤1000000)
  (h0:F.fault=0)(AY:l.all Aj.may=true):
  Calls prog 32 #[.pointer (some ⟨y,0,none⟩),.slice a l.length cap] w fun e w'=>Rs w y b m x gv fp (J7 D F l) e w':=by
 have HD:=Hi hd;have HF:=Hi hf;have HL:=Hi hL;have FQ:=Hi Cb
 have HR:Hid (J7 D F l=if F.room < used (made F.m l) then(D,F,4) else
   if F.fits (group l)=true then
    if(wappend D F.w (group l)).2.2=0 then((wappend D F.w (group l)).1,{ F with m:=made F.m l,w:=(wappend D F.w (group l)).2.1 },0)
    else((wappend D F.w (group l)).1,{ F with w:=(wappend D F.w (group l)).2.1,fault:=(wappend D F.w (group l)).2.2 },(wappend D F.w (group l)).2.2)
   else Og D F (made F.m l)):=Hi (by unfold J7;rw[Aa (by simp[h0]),Aa (by simp[AY])])
 have Bq:=(Af w.heap.size w).alloc (Ac _) (.cells #[.pointer (some ⟨y,0,none⟩)] 35);have Bc:=Hi Bq;have Lh:=Hi (AJ w (.cells #[.pointer (some ⟨y,0,none⟩)] 35));obtain⟨_,_,_,_,_,_,c6,_⟩:=(hf.below Bq).cells;have HC:=Hi (agm (cap:=cap) (hL.below Bq) (by omega) (fun c hc=>⟨Ap (Cb c hc).1 (by unfold maxLen;omega),(Cb c hc).2⟩));rw[AY] at HC;rw[h0] at c6;have HG:=Hi (show Fil.Good (made F.m l) from auh.made hf.map.1 (Nz.1 AY));have H0:=Hi h0;clear hd hf Bq h0 hL Cb AY;go_enter func32,ntmps32;go_wp2_with fail;refine HC.mono ?_;rintro e w1⟨rfl,hb⟩;have HB1:=Hi (Bc.trans (hb.mono Bc.size));have Gf:=(hb.block w.heap.size (Ai Lh)).trans Lh.out;have NG:=Hi Gf;have c0:=Hf Gf;have U4:=HF.below HB1.out;obtain⟨_,_,_,_,c4,_,_,_⟩:=U4.cells;obtain⟨es,clock,O1,BH⟩:=U4.map.aqC;have RD:=Hi O1;have Ev:=Hi BH;clear hb Gf c6 HC U4 O1 BH;go_wp2_with fail;refine(fclone_any _ m es clock RD).mono ?_;rintro e w2⟨rfl,rfl⟩;have bZ:w.heap.size < w1.heap.size:=Ai NG.out;have BP:Bw w1 (w1.alloc (.map es clock)):=(Af _ _).alloc (Ac _) _;have Ag:=Hi (HB1.trans (BP.mono HB1.size));have J3:=Hi (HL.below Ag);have vF:=Hi ((BP.block w.heap.size bZ).trans NG);have DZ:w.heap.size≤w1.heap.size:=HB1.size;clear c0 c4 NG HB1;generalize w1.heap.size=mv at*;generalize w1.alloc (.map es clock)=w2 at*;clear BP;go_wp2_with fail;refine(zx (cap:=cap) Ev J3 (by omega) (by omega) (fun c hc=>Ap (FQ c hc).1 (by unfold maxLen;omega))).mono ?_;rintro e w3⟨rfl,U7,CP⟩;have Wm:=Hi U7
 have Am:=Hi (Ca Ag CP (fun k e=>by subst e;exact DZ) Ag.size);have Js:=(CP.block w.heap.size (Ai vF) (by omega)).trans vF.out;have Wd:=Hi Js;have c0:=Hf Js;clear U7 CP Js;have HF3:=Hi (HF.below Am);have G8:=Hi ((Af w3.heap.size w3).drew);have F4:=Hi (asx (Wm.below G8) GD);have K0:=Hi (fun(V:World) (h:Bw w3 V)=>(h.cell (p:=⟨w.heap.size,0,none⟩) (Ai Wd)).trans c0);have vP:=Hi (HF3.below G8);by_cases Sm:F.room < used (made F.m l)
 ·have Ew:=Hi (HR.trans (Ab Sm));have hq:(F.room:Int) < (used (made F.m l):Int):=by omega
  clear Sm HR;have UK:=Hi (fun(V:World) (h:Below w3.drew.heap.size w3.drew V)=>agP (vP.below h));generalize used (made F.m l)=U at*;generalize F.room=R at*;go_wp2_with fail
  go_region_held3 (fun V=>V.cell? ⟨w.heap.size,0,none⟩=some (.pointer (some ⟨y,0,none⟩)))
   (first|exact K0 _ G8|exact K0 _ AZ)
   (first
    |(go_at_call 95;refine F4.mono ?_;rintro e w4 ⟨rfl,Ar⟩;have D8:=Hi Ar;have AZ:=Hi (G8.trans (Ar.mono G8.size));clear Ar)
    |(go_at_call 96;refine(UK _ D8).mono ?_;rintro e w5 ⟨rfl,rfl⟩))
  all_goals
   go_wp2_with fail;go_ret;exact afw HD HF ap Ew rfl (Am.trans (AZ.mono Am.size))
 ·have Ew:=Hi (HR.trans (Aa Sm));have hq:¬ F.room < used (made F.m l):=Sm;have VB:used (made F.m l)≤1000000:=by unfold St.room at Sm;omega
  have aeU:=Hi VB;clear Sm HR VB;have UK:=Hi (fun(V:World) (h:Below w3.drew.heap.size w3.drew V)=>agP (vP.below h));generalize hA:made F.m l=A at*;generalize hU:used A=U at*;generalize F.room=R at*;go_wp2_with fail
  go_region_held3 (fun V=>V.cell? ⟨w.heap.size,0,none⟩=some (.pointer (some ⟨y,0,none⟩)))
   (first|exact K0 _ G8|exact K0 _ AZ)
   (first
    |(go_at_call 95;refine F4.mono ?_;rintro e w4 ⟨rfl,Ar⟩;have D8:=Hi Ar;have AZ:=Hi (G8.trans (Ar.mono G8.size));clear Ar)
    |(go_at_call 96;refine(UK _ D8).mono ?_;rintro e w5 ⟨rfl,rfl⟩))
  have Ck:=Hi (Am.trans (AZ.mono Am.size));have FC:=Hi (Wm.below AZ);have vH:=Hi ((AZ.block w.heap.size (Ai Wd)).trans Wd);have au:=Hi (HL.below Ck);clear D8 AZ UK vP K0 F4 G8 HF3 Wd Am Wm c0 J3;go_wp2_with fail;refine(arW (cap:=cap) au (by omega) (fun c hc=>(FQ c hc).1)).mono ?_;rintro e w6⟨q6,cap6,rfl,I8,Cx⟩;have bB:=ah4 l;clear hq;generalize group l=G at*;obtain⟨q,aB6,e6,dB⟩:=uD I8;injection e6 with e6a e6b e6c
  subst e6a e6c;have HX6:=Hi dB
  have RJ:=Hi (show ∀ p,q6=some p→w4.heap.size≤p.block from fun p hp=>by
   rcases I8.2 with⟨e1,_⟩|⟨g,c2,cur,e1,Lx,_⟩
   ·rw[hp] at e1;simp at e1
   ·rw[hp] at e1;injection e1 with e1;injection e1 with e1;subst e1;exact Lx)
  have BP:Bw w6 (w6.alloc (.cells #[.slice q6 G.length cap6] 27)):=(Af _ _).alloc (Ac _) _;have pK:=Cx.trans (BP.mono Cx.size);have En:=Hi (Ck.trans (pK.mono Ck.size));have vI:=Hi ((pK.block w.heap.size (Ai vH)).trans vH);have HM7:=Hi (FC.below pK);have xH:=Hi (HX6.below BP);have zO:=AJ w6 (.cells #[.slice q6 G.length cap6] 27);have uW:=Hi zO;have Jt:w.heap.size≤w6.heap.size:=Ap Ck.size Cx.size;have c6:=Hf zO;have HQW:=Hi (show ∀ p,q6=some p→w.heap.size≤p.block from fun p hp=>Ap Ck.size (RJ p hp));have HND:=Hi (aAk G q6 cap6 _ xH (by unfold maxLen;omega) (by omega))
  have NM:=Hi (show ∀ k,w.heap.size≤k→¬ (fp k∨k=y∨BD x gv k) from fun k hk e=>by
   have h1:=HD.lt k;have h2:=HF.lt k;rcases e with e|e|e
   ·have:=h1 e;omega
   ·have:=h2 (.inl e);omega
   ·have:=h2 (.inr (.inr e));omega)
  clear BP pK Cx I8 dB HX6 RJ zO Ck vH FC au vF Ev RD Ag e6b;have aBr:G.length≤200000:=by omega
  clear bB;go_wp2_with fail;refine HND.mono ?_;rintro e w8⟨rfl,II⟩;have NF:=Hi (En.trans (II.mono En.size));have ZZ:=Hi ((II.block w.heap.size (Ai vI)).trans vI);have Tz:=Hi (HM7.below II);have HX8:=Hi (xH.below II);have H68:=Hi ((II.block w6.heap.size (Ai uW)).trans uW);clear II En vI HM7 xH uW HND c6;generalize w6.heap.size=yB at*;have HF8:=Hi (HF.below NF);have c2:=Hf ZZ.out;obtain⟨_,_,_,_,_,c5,_,_⟩:=HF8.cells;cases IL:Wal.GQ G with
  |none=>
   have BI:=Hi (Ew.trans (Aa (by unfold St.fits;rw[IL];simp)));have hv:J8 G=([],5):=(by unfold J8;rw[IL]);rw[hv];clear IL hv Ew;have M6:=NF;have Tm:=ZZ;have QK:=Tz;clear c5 c2;have fD:=Hi (HD.below M6);have fI:=Hi (HF.below M6);have Sy:=aky D F A;have YZ:=agE fD fI ap QK HG (by rw[hU];exact aeU.out) GU;have c2:=Hf Tm.out;obtain⟨D1,F1,k1,hr⟩:∃ D1 F1 k1,Og D F A=(D1,F1,k1):=⟨_,_,_,rfl⟩;rw[hr] at Sy YZ BI;have wI:=Hi YZ;have gz:=Hi (show F1.m=if k1=0 then A else F.m from Sy);clear Sy YZ hr;go_wp2_with fail;refine wI.mono ?_;rintro e IW⟨rfl,Eo,DX,g1,g2,g3,g4,g5,g6⟩;have je:=(g4.block w.heap.size (Ai Tm) (NM _ (Ac _))).trans Tm.out;have gB:=Hi (QK.upd g4 (NM _ DZ));have c2:=Hf je;have Hw:=Hi g1;have CS:=Hi (show CK IW y b m x DX { F1 with m:=F.m } from g2);have FJ:=Hi g3;have FP:=Hi ((A7.of_below (F:=fun k=>fp k∨k=y∨BD x gv k) M6).trans g4 (fun i hi=>.inl hi));have fQ:=Hi g5;have G9:=Hi (show D6 fp Eo w from fun i hi=>(g5 i hi).imp id (fun e=>Ap M6.size e));have Pz:=Hi (show D6 (BD x gv) (BD x DX) w from fun i hi=>(g6 i hi).imp id (fun e=>Ap M6.size e));obtain⟨_,_,_,_,c4,_,_,cf⟩:=CS.cells;have nW:=cf 4;clear g1 g2 g3 g4 g5 g6 cf je;by_cases h0:k1=0
   ·subst h0;have Sd:{ ({ F1 with m:=F.m }:St) with m:=A }=F1:=(by have:=gz.out;rw[Ab rfl] at this;rw[←this]);have Tt:=Hi Sd;clear Sd;go_wp2_with fail;go_ret;unfold Rs Uy;rw[BI.out];have hu:A7 (fun k=>k=y) IW (IW.setCell ⟨y,4,none⟩ (.map (some mv))):=(A7.refl (fun k=>k=y) IW).setCell (p:=⟨y,4,none⟩) (.inl rfl) _;refine⟨mv,⟨rfl,Eo,DX,Hw.upd hu (fun k hk e=>by subst e;exact RZ Hw CS FJ k (.inl rfl) hk),?_,fun e=>(fQ mv e).elim (fun f=>NM _ DZ (.inl f)) (fun f=>by have:=QK.lt;omega),FP.trans hu (fun i hi=>.inl (.inr (.inl hi))),G9.out,Pz.out⟩,.inr DZ⟩;have:=CS.acU gB.out;rwa[Tt.out] at this
   ·have Ad:(k1 == 0)=false:=(by simp[h0]);have Sd:({ F1 with m:=F.m }:St)=F1:=(by have:=gz.out;rw[Aa h0] at this;rw[←this]);have Tt:=Hi Sd;clear Sd h0;go_wp2_with fail;go_ret;unfold Rs Uy;rw[BI.out];exact⟨m,⟨rfl,Eo,DX,Hw,by rw[←Tt.out];exact CS.out,FJ,FP,G9,Pz⟩,.inl rfl⟩
  |some s=>
   have hv:J8 G=(s,0):=(by unfold J8;rw[IL]);rw[hv];have UK:=Hi (fun(V:World) (h:Bw w8 V)=>aAo (HF8.Dl.below h));by_cases IJ:s.length / 64≤F.w.n -1 -F.w.used
   ·have BI:=Hi (Ew.trans (Ab (by unfold St.fits;rw[IL];simp[IJ])));have hq:¬ F.w.n -1 -F.w.used < s.length / 64:=(by omega);clear IL hv Ew IJ;generalize s.length / 64=N at*;generalize F.w.n -1 -F.w.used=N2 at*;go_wp2_with fail;refine(UK _ (Af _ _)).mono ?_;rintro e w9⟨rfl,Ff⟩;have M6:=Hi (NF.trans (Ff.mono NF.size));have Tm:=Hi ((Ff.block w.heap.size (Ai ZZ)).trans ZZ);have QK:=Hi (Tz.below Ff);have HX9:=Hi (HX8.below Ff);have H69:=Hi ((Ff.block yB (Ai H68)).trans H68);clear Ff UK c5 c2;have fD:=Hi (HD.below M6);have fI:=Hi (HF.below M6);have hcw:¬ BD x gv yB:=fun e=>NM yB Jt (.inr (.inr e))
    have aag:=apW fD fI ap Tm H69 hcw HX9 (fun p hp _=>⟨fun e=>NM _ (HQW p hp) (.inl e),fun e=>NM _ (HQW p hp) (.inr (.inr e))⟩) (by omega) Ah (by omega) O6 0;have c2:=Hf Tm.out;obtain⟨D1,L1,k1,hr⟩:∃ D1 L1 k1,wappend D F.w G=(D1,L1,k1):=⟨_,_,_,rfl⟩;rw[hr] at aag BI;have mr:=Hi aag;clear aag hr hcw;go_wp2_with fail;refine mr.mono ?_;rintro e IW⟨rfl,Eo,DX,g1,g2,g3,g4,g5,g6,g7⟩;have gB:=Hi (QK.upd g4 (NM _ DZ));have c2:=Hf g7;have Hw:=Hi g1;have FJ:=Hi g3;have CS:=Hi (show CK IW y b m x DX { F with w:=L1,fault:=if k1=0 then F.fault else k1 } from g2);have FP:=Hi ((A7.of_below (F:=fun k=>fp k∨k=y∨BD x gv k) M6).trans g4 (fun i hi=>.inl hi));have fQ:=Hi g5;have G9:=Hi (show D6 fp Eo w from fun i hi=>(g5 i hi).imp id (fun e=>Ap M6.size e));have Pz:=Hi (show D6 (BD x gv) (BD x DX) w from fun i hi=>(g6 i hi).imp id (fun e=>Ap M6.size e));obtain⟨_,_,_,_,c4,_,_,cf⟩:=CS.cells;have nW:=cf 4;clear g1 g2 g3 g4 g5 g6 g7 cf;by_cases h0:k1=0
    ·subst h0;have Ov:=Hi (BI.trans (Ab rfl));clear BI;go_wp2_with fail;go_ret;unfold Rs Uy;rw[Ov.out];have hu:A7 (fun k=>k=y) IW (IW.setCell ⟨y,4,none⟩ (.map (some mv))):=(A7.refl (fun k=>k=y) IW).setCell (p:=⟨y,4,none⟩) (.inl rfl) _;exact⟨mv,⟨rfl,Eo,DX,Hw.upd hu (fun k hk e=>by subst e;exact RZ Hw CS FJ k (.inl rfl) hk),CS.acU gB.out,fun e=>(fQ mv e).elim (fun f=>NM _ DZ (.inl f)) (fun f=>by have:=QK.lt;omega),FP.trans hu (fun i hi=>.inl (.inr (.inl hi))),G9.out,Pz.out⟩,.inr DZ⟩
    ·have Ad:(k1 == 0)=false:=(by simp[h0]);have Ov:=Hi (BI.trans (Aa h0));have aoz:Hid (CK IW y b m x DX { F with w:=L1,fault:=k1 }):=Hi (by have:=CS.out;rwa[Aa h0] at this);clear BI h0;go_wp2_with fail;go_ret;unfold Rs Uy;rw[Ov.out];exact⟨m,⟨rfl,Eo,DX,Hw,aoz,FJ,FP,G9,Pz⟩,.inl rfl⟩
   ·have BI:=Hi (Ew.trans (Aa (by unfold St.fits;rw[IL];simp[IJ])));have hq:F.w.n -1 -F.w.used < s.length / 64:=(by omega);clear IL hv Ew IJ;generalize s.length / 64=N at*;generalize F.w.n -1 -F.w.used=N2 at*;go_wp2_with fail;refine(UK _ (Af _ _)).mono ?_;rintro e w9⟨rfl,Ff⟩;have M6:=Hi (NF.trans (Ff.mono NF.size));have Tm:=Hi ((Ff.block w.heap.size (Ai ZZ)).trans ZZ);have QK:=Hi (Tz.below Ff);clear Ff UK c5 c2;have fD:=Hi (HD.below M6);have fI:=Hi (HF.below M6);have Sy:=aky D F A;have YZ:=agE fD fI ap QK HG (by rw[hU];exact aeU.out) GU;have c2:=Hf Tm.out;obtain⟨D1,F1,k1,hr⟩:∃ D1 F1 k1,Og D F A=(D1,F1,k1):=⟨_,_,_,rfl⟩;rw[hr] at Sy YZ BI;have wI:=Hi YZ;have gz:=Hi (show F1.m=if k1=0 then A else F.m from Sy);clear Sy YZ hr;go_wp2_with fail;refine wI.mono ?_;rintro e IW⟨rfl,Eo,DX,g1,g2,g3,g4,g5,g6⟩;have je:=(g4.block w.heap.size (Ai Tm) (NM _ (Ac _))).trans Tm.out;have gB:=Hi (QK.upd g4 (NM _ DZ));have c2:=Hf je;have Hw:=Hi g1;have CS:=Hi (show CK IW y b m x DX { F1 with m:=F.m } from g2);have FJ:=Hi g3;have FP:=Hi ((A7.of_below (F:=fun k=>fp k∨k=y∨BD x gv k) M6).trans g4 (fun i hi=>.inl hi));have fQ:=Hi g5;have G9:=Hi (show D6 fp Eo w from fun i hi=>(g5 i hi).imp id (fun e=>Ap M6.size e));have Pz:=Hi (show D6 (BD x gv) (BD x DX) w from fun i hi=>(g6 i hi).imp id (fun e=>Ap M6.size e));obtain⟨_,_,_,_,c4,_,_,cf⟩:=CS.cells;have nW:=cf 4;clear g1 g2 g3 g4 g5 g6 cf je;by_cases h0:k1=0
    ·subst h0;have Sd:{ ({ F1 with m:=F.m }:St) with m:=A }=F1:=(by have:=gz.out;rw[Ab rfl] at this;rw[←this]);have Tt:=Hi Sd;clear Sd;go_wp2_with fail;go_ret;unfold Rs Uy;rw[BI.out];have hu:A7 (fun k=>k=y) IW (IW.setCell ⟨y,4,none⟩ (.map (some mv))):=(A7.refl (fun k=>k=y) IW).setCell (p:=⟨y,4,none⟩) (.inl rfl) _;refine⟨mv,⟨rfl,Eo,DX,Hw.upd hu (fun k hk e=>by subst e;exact RZ Hw CS FJ k (.inl rfl) hk),?_,fun e=>(fQ mv e).elim (fun f=>NM _ DZ (.inl f)) (fun f=>by have:=QK.lt;omega),FP.trans hu (fun i hi=>.inl (.inr (.inl hi))),G9.out,Pz.out⟩,.inr DZ⟩;have:=CS.acU gB.out;rwa[Tt.out] at this
    ·have Ad:(k1 == 0)=false:=(by simp[h0]);have Sd:({ F1 with m:=F.m }:St)=F1:=(by have:=gz.out;rw[Aa h0] at this;rw[←this]);have Tt:=Hi Sd;clear Sd h0;go_wp2_with fail;go_ret;unfold Rs Uy;rw[BI.out];exact⟨m,⟨rfl,Eo,DX,Hw,by rw[←Tt.out];exact CS.out,FJ,FP,G9,Pz⟩,.inl rfl⟩
end
end
end Go.Proofs.YtmbbhdebddbhoaaGreat
