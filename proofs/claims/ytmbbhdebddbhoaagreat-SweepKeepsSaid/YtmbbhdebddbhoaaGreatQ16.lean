/- FilCommit -/
import Derived.Test.YtmbbhdebddbhoaaGreatQ13
import Derived.Test.YtmbbhdebddbhoaaGreatQ15
import Derived.Test.YtmbbhdebddbhoaaGreatQ11
set_option maxHeartbeats 8000000
set_option maxRecDepth 100000
set_option linter.all false
namespace Go.Proofs.YtmbbhdebddbhoaaGreat
open Tryz
section
open Go.RowKit Go.Maps
open Fil
theorem BJ.aiz{w:World}{m:Nat}{F:M}(h:BJ w m F):∃ es clock,w.heap[m]?=some (.map es clock)∧BJ (w.alloc (.map es clock)) w.heap.size F:=by
 obtain⟨hu,kv,hp,⟨hn,D,⟨es,clock,hb,G,hs,hD⟩,rest⟩⟩:=h;exact⟨es,clock,hb,hu,kv,hp,⟨hn,D,⟨es,clock,(MapKept.heap_alloc w _).1,G,hs,hD⟩,rest⟩⟩
theorem aiA(w:World)(p:Option Nat):(binOp .eql 110 (.map p) (.map none)).run prog w=.ok (.bool p.isNone) w:=by
 have h:∀ d,(Op.equalIn (d+1) 110 (.map p) (.map none)).run prog w=.ok p.isNone w:=fun d=>by
  cases p<;>simp[Op.equalIn,ER underlying110]
 simp only[binOp];simp[show Op.equal 110 (.map p) (.map none)=Op.equalIn (9999+1) 110 (.map p) (.map none) from rfl,h 9999]
theorem fclone_any(w:World)(m:Nat)(es:Array MapEntry)(clock:Nat)(hb:w.heap[m]?=some (.map es clock)):
  Calls prog 94 #[.map (some m)] w fun e w'=>e=.returned (.map (some w.heap.size))∧w'=w.alloc (.map es clock):=by
 have hq:=fun w=>aiA w (some m)
 have aiB:(Extern.MapsClone.clone #[.iface 110 (.map (some m))]).run prog w=.ok (.iface 110 (.map (some w.heap.size))) (w.alloc (.map es clock)):=by
  have e:Extern.MapsClone.clone #[.iface 110 (.map (some m))]=(getObj m >>= fun o=>match o with
    | .map entries clock=>(newObj (.map entries clock) >>= fun n=>pure (.iface 110 (.map (some n))))
    |_=>stuck "maps.clone: a map expected"):=rfl
  rw[e];simp[MapKept.run_getObj_map hb,Result.andThen,go_sem]
 have jG:∀ W,(Instr.typeAssert (.iface 110 (.map (some w.heap.size))) 20 110 false).run prog W=.ok (.map (some w.heap.size)) W:=fun W=>by
  simp[Instr.typeAssert,ER underlying110,go_sem,Result.andThen]
 go_enter func94,ntmps94;have auL:=run_callFunc_extern (P:=prog) func169 (by kernel_rfl) (by kernel_rfl) (by kernel_rfl) (e:=Extern.MapsClone.clone) (by kernel_rfl) #[.iface 110 (.map (some m))] w;rw[aiB] at auL;simp only[Result.andThen] at auL;go_wp2_with fail;go_ret;exact⟨rfl,rfl⟩
theorem aiC(name data:T)(gone:Bool)(w:World)(hn:name.length≤maxLen)(hd:data.length≤maxLen):
  Calls prog 92 #[.agg #[.string (bs name),.string (bs data),.bool gone]] w fun e w'=>e=.returned (.bool (!Af.may ⟨name,data,gone⟩))∧Bw w w':=by
 have HM:=Hi (fun(V:World)=>Zz name data gone V hn hd);generalize Af.may ⟨name,data,gone⟩=s at*;go_enter func92,ntmps92;go_wp2_with fail;refine(HM _).mono ?_;rintro e w1⟨rfl,hb⟩;have HB:=Hi hb;clear hb;go_wp2_with fail;go_ret;exact⟨rfl,((Ad w.heap.size w).alloc (Ab _) _).trans (HB.mono (by simp))⟩
def Om(l:List Af):Int:=match l.findIdx? (fun c=>!Af.may c) with
 |some i=>(i:Int)
 |none=> -1
theorem aiD{l:List Af}{k:Nat}(hk:k < l.length)(h:Af.may l[k]=false)(hn:∀ j (hj:j < k),Af.may (l[j]'(by omega))=true):Om l=(k:Int):=by
 have:l.findIdx? (fun c=>!Af.may c)=some k:=List.findIdx?_eq_some_iff_getElem.2 ⟨hk,by simp[h],fun j hj=>by simp[hn j hj]⟩;unfold Om;rw[this]
theorem aiE{l:List Af}(hn:∀ j (hj:j < l.length),Af.may l[j]=true):Om l= -1:=by
 have:l.findIdx? (fun c=>!Af.may c)=none:=List.findIdx?_eq_none_iff.2 fun x hx=>by
  obtain⟨i,hi,rfl⟩:=List.getElem_of_mem hx;simp[hn i hi]
 unfold Om;rw[this]
theorem aiF(l:List Af):decide (0≤Om l)= !(l.all Af.may):=by
 unfold Om;cases h:l.findIdx? (fun c=>!Af.may c) with
 |none=>
  have:=List.findIdx?_eq_none_iff.1 h;have e:l.all Af.may=true:=Kl.2 fun x hx=>by simpa using this x hx
  rw[e];rfl
 |some i=>
  obtain⟨hi,h1,_⟩:=List.findIdx?_eq_some_iff_getElem.1 h;have e:l.all Af.may=false:=List.all_eq_false.2 ⟨_,BF hi,by simpa using h1⟩;rw[e];simp
theorem aiG{w:World}{a:Option Addr}{cap:Nat}{l:List Af}(hL:D7 w a l)(hlen:l.length≤1000000)(hok:∀ c∈l,c.name.length≤maxLen∧c.data.length≤maxLen):
  Calls prog 168 #[.slice a l.length cap,.func (.func 92) #[] #[]] w fun e w'=>e=.returned (.int .i64 (Om l))∧Bw w w':=by
 have HL:=Hi hL;have Es:=Hi hok;clear hL hok;go_enter func168,ntmps168;go_wp2_with fail
 go_loopw [5,8] (fun _ i wr=>∃ k:Nat,k≤l.length∧i=.int .i64 k∧Bw w wr∧∀ j (hj:j < k),(h:j < l.length)→Af.may l[j]=true) (fun _ i _=>l.length -(intOf i).toNat)
 case atStart=>exact⟨0,Ar _,rfl,Ad _ _,fun j hj=>by omega⟩
 case round=>
  obtain⟨k,hk,rfl,hb,hno⟩:=hrel;have Dc:=Hi hno;clear hno;by_cases hlt:k < l.length
  ·obtain⟨q,hix,hq,-⟩:=HL.index cap k hlt;have hq2:=hq.below hb;obtain⟨c0,c1,c2⟩:=hq2.cells;have hin:=Es _ (BF hlt);have D6:=Hi (fun(V:World)=>aiC l[k].name l[k].data l[k].gone V hin.1 hin.2);have Sz:=Hi (show Af.may l[k]=false→Om l=(k:Int) from fun h=>aiD hlt h (fun j hj=>Dc j hj (by omega)))
   have Eg:=Hi (show Af.may l[k]=true→∀ j (hj:j < k+1),(h:j < l.length)→Af.may l[j]=true from fun h j hj h'=>by
    by_cases e:j=k
    ·subst e;exact h
    ·exact Dc j (by omega) h')
   generalize l[k]=x at*;obtain⟨cn,cd,cg⟩:=x;simp only at c0 c1 c2 hin D6;have HB:=Hi hb;clear hq hq2 hb;go_wp2_with fail;refine(D6 _).mono ?_;rintro e w1⟨rfl,hb1⟩;have HB1:=Hi (HB.trans (hb1.mono HB.size));clear hb1;generalize Af.may ⟨cn,cd,cg⟩=s at*;cases s with
   |false=>
    have HI2:=Hi (Sz rfl);clear Sz Eg;go_wp2_with fail;go_ret;exact⟨by rw[HI2.out];rfl,HB1⟩
   |true=>
    have HN:=Hi (Eg rfl);clear Sz Eg;go_wp2_with fail;go_roundw
    case rel=>exact⟨k+1,by omega,by go_num,HB1,HN⟩
    case measure=>simp[intOf];omega
  ·obtain rfl:k=l.length:=(by omega);have HN:=Hi (show Om l= -1 from aiE (fun j hj=>Dc j hj hj));have HB:=Hi hb;clear hb;go_wp2_with fail;go_ret;exact⟨by rw[HN.out];rfl,HB⟩
theorem xV{w:World}{a:Option Addr}{cap:Nat}{l:List Af}(hL:D7 w a l)(hlen:l.length≤1000000)(hok:∀ c∈l,c.name.length≤maxLen∧c.data.length≤maxLen):
  Calls prog 91 #[.slice a l.length cap,.func (.func 92) #[] #[]] w fun e w'=>e=.returned (.bool (!(l.all Af.may)))∧Bw w w':=by
 have HI:=Hi (aiG (cap:=cap) hL hlen hok);have HE:=Hi (aiF l);clear hL hok;generalize Om l=i at*;go_enter func91,ntmps91;go_wp2_with fail;refine HI.mono ?_;rintro e w1⟨rfl,hb⟩;have HB:=Hi hb;clear hb;go_wp2_with fail;go_ret;exact⟨by rw[←HE.out];rfl,HB⟩
end
section
open Go.RowKit Go.Maps
open Fil
def doG{σ:Type}:List (σ→σ×Int)→σ→σ×Int
 |[],s=>(s,0)
 |f :: l,s=>if(f s).2=0 then doG l (f s).1 else f s
theorem aiH{σ:Type}{fs:List (σ→σ×Int)}(h:fs=[])(s:σ):doG fs s=(s,0):=by subst h;rfl
structure xW{σ:Type}(I:Nat→σ→World→Prop)(J:σ→World→Prop)(vs:List Value)(fs:List (σ→σ×Int)):Prop where
 len:vs.length=fs.length
 each:∀ i (h:i < vs.length) (h':i < fs.length),∃ F recv Im,vs[i]=.func (.func F) recv Im∧(∀ args w,(callFunc F args).run prog w=.ok (.enter F args) w)∧
  ∀ s W,I i s W→Calls prog F (recv++Im) W fun e W'=>e=.returned (.int .i64 (fs[i] s).2)∧((fs[i] s).2=0→I (i+1) (fs[i] s).1 W')∧((fs[i] s).2≠0→J (fs[i] s).1 W')
theorem xX{σ:Type}{w:World}{y g n cap:Nat}{I:Nat→σ→World→Prop}{J:σ→World→Prop}{vs:List Value}{fs:List (σ→σ×Int)}{s0:σ}
  (hI:I 0 s0 w)(hf:xW I J vs fs)(hv:∀ k s W,I k s W→∀ i u,vs[i]?=some u→W.cell? ⟨g,i,none⟩=some u)(hn:vs.length=n)(Mw:n≤5)(hJ:∀ s W,J s W→(∃ v,W.cell? ⟨y,6,none⟩=some v)∧W.frozen? ⟨y,6,none⟩=false):
  Calls prog 101 #[.pointer (some ⟨y,0,none⟩),.slice (some ⟨g,0,none⟩) n cap] w fun e w'=>e=.returned (.int .i64 (doG fs s0).2)∧((doG fs s0).2=0→I n (doG fs s0).1 w')∧((doG fs s0).2≠0→∃ W,J (doG fs s0).1 W∧w'=W.setCell ⟨y,6,none⟩ (.int .i64 (doG fs s0).2)):=by
 have HI:=Hi hI;have HF:=Hi hf;have HV:=Hi hv;have HN:=Hi hn;have HJ:=Hi hJ;clear hI hf hv hn hJ;go_enter func101,ntmps101;go_wp2_with fail
 go_loopw [10] (fun i wr=>∃ (k:Nat) (s:σ),k≤n∧i=.int .i64 k∧I k s wr∧doG fs s0=doG (fs.drop k) s) (fun i _=>n -(intOf i).toNat)
 case atStart=>exact⟨0,s0,Ar _,rfl,HI,by rw[List.drop_zero]⟩
 case round=>
  obtain⟨k,s,hk,rfl,xY,hdo⟩:=hrel;have jH:=Hi xY;have LC:=Hi hdo;clear xY hdo;by_cases hlt:k < n
  ·have Gz:k < vs.length:=(by rw[HN.out];exact hlt);have Sv:k < fs.length:=(by rw[←HF.len];exact Gz);obtain⟨F,recv,Im,hv,auy,auL⟩:=HF.each k Gz Sv;have hc:wr.cell? ⟨g,k,none⟩=some (.func (.func F) recv Im):=by
    rw[←hv];exact HV k s wr jH k _ (BP Gz)
   have hst:doG (fs.drop k) s=if(fs[k] s).2=0 then doG (fs.drop (k+1)) (fs[k] s).1 else fs[k] s:=by
    rw[Na Sv];rfl
   have hcl:=auL s wr jH.out;generalize fs[k]=f at*;generalize f s=r at*;obtain⟨s1,e1⟩:=r;have D6:=Hi hcl;have HST:=Hi hst;clear hv auL hcl hst Gz Sv;go_wp2_with fail;refine D6.mono ?_;rintro e w1⟨rfl,h1,h2⟩;have H1:=Hi h1;have H2:=Hi h2;clear h1 h2 hc;by_cases h0:e1=0
   ·subst h0;have Nu:=Hi (show doG fs s0=doG (fs.drop (k+1)) s1 by rw[LC.out,HST.out];rfl);have HI1:=Hi (H1 rfl);clear H1 H2;go_wp2_with fail;go_roundw
    case rel=>exact⟨k+1,s1,by omega,by go_num,HI1,Nu⟩
    case measure=>simp[intOf];omega
   ·have hb1:(e1 != 0)=true:=(by simp[h0]);have Nu:=Hi (show doG fs s0=(s1,e1) by rw[LC.out,HST.out,Aa h0]);have xZ:=Hi (H2 h0);obtain⟨⟨v6,c6⟩,cf6⟩:=HJ _ _ xZ.out;have H0:=Hi h0;clear h0 H1 H2;go_wp2_with fail;go_ret;rw[Nu.out];exact⟨rfl,fun h=>absurd h H0,fun _=>⟨w1,xZ,rfl⟩⟩
  ·obtain rfl:k=n:=(by omega);have hfl:fs.drop k=[]:=List.drop_eq_nil_of_le (by rw[←HF.len,HN.out];exact Ab _);have Nu:=Hi (LC.trans (aiH hfl s));clear hfl;go_wp2_with fail;go_ret;rw[Nu.out];exact⟨rfl,fun _=>jH.out,fun h=>absurd rfl h⟩
end
section
open Go.RowKit Go.Maps
open Fil
structure Hd(V:World)(y b m x c2 c5:Nat)(gv:Value)(fp:Nat→Prop)(F:St)(s:T)(D:Dsk):Prop where
 disk:AU V b D fp
 FR:Ci V y b m x gv F
 c2:V.heap[c2]?=some (.cells #[.pointer (some ⟨y,0,none⟩)] 35)
 c5:V.heap[c5]?=some (.cells #[.string (bs s)] 9)
 ap:¬ fp m
section
variable {V W:World}{y b m x c2 c5:Nat}{gv:Value}{fp fp':Nat→Prop}{F:St}{s:T}{D D':Dsk}
theorem Hd.below(h:Hd V y b m x c2 c5 gv fp F s D)(hb:Bw V W):Hd W y b m x c2 c5 gv fp F s D:=
 ⟨h.disk.below hb,h.FR.below hb,(hb.block c2 (Ae h.c2)).trans h.c2,(hb.block c5 (Ae h.c5)).trans h.c5,h.ap⟩
theorem QU{V:World}{y b m x b':Nat}{gv:Value}{fp:Nat→Prop}{F:St}{D:Dsk}(hd:AU V b' D fp)(hf:Ci V y b m x gv F)(ap:¬ fp m)(k:Nat)(hk:Pq y m x gv k):¬ fp k:=by
 rcases hk with rfl|rfl|hk
 ·exact fun e=>hd.BV _ e (by decide) (by decide) hf.blk
 ·exact ap
 ·intro e;rcases hf.Cy.kind hk with h|h
  ·exact hd.BV _ e (by decide) (by decide) h
  ·exact hd.BV _ e (by decide) (by decide) h
theorem Hd.jI(h:Hd V y b m x c2 c5 gv fp F s D)(hd:AU W b D' fp')(hu:A7 fp V W)(hs:Cg fp fp' V):Hd W y b m x c2 c5 gv fp' F s D':=
 ⟨hd,h.FR.upd hu (fun k hk e=>h.disk.BV k e (by decide) (by decide) hk) (QU h.disk h.FR h.ap),
  (hu.block c2 (Ae h.c2) (fun e=>h.disk.BV _ e (by decide) (by decide) ⟨_,_,h.c2⟩)).trans h.c2,
  (hu.block c5 (Ae h.c5) (fun e=>h.disk.BV _ e (by decide) (by decide) ⟨_,_,h.c5⟩)).trans h.c5,
  fun e=>(hs m e).elim h.ap (fun e2=>by have:=h.FR.map.lt;omega)⟩
theorem Hd.reads(h:Hd V y b m x c2 c5 gv fp F s D):V.cell? ⟨c2,0,none⟩=some (.pointer (some ⟨y,0,none⟩))∧V.cell? ⟨c5,0,none⟩=some (.string (bs s))∧V.cell? ⟨y,0,none⟩=some (.pointer (some ⟨b,0,none⟩))∧V.cell? ⟨y,1,none⟩=some (.int .i64 (F.log:Int))∧V.cell? ⟨y,2,none⟩=some (.int .i64 (F.size:Int))∧V.cell? ⟨y,3,none⟩=some (.int .i64 (F.Ak:Int))∧V.cell? ⟨y,5,none⟩=some (.pointer (some ⟨x,0,none⟩)):=by
 obtain⟨c0,c1,c2',c3,c4,c5',c6,_⟩:=h.FR.cells;exact⟨Fe h.c2,Fe h.c5,c0,c1,c2',c3,c5'⟩
theorem aiJ(h:Hd V y b m x c2 c5 gv fp F s D)(hs:s.length≤1000000)(EX:D.loose.length≤500000000):
  Calls prog 172 #[.pointer (some ⟨c2,0,none⟩),.pointer (some ⟨c5,0,none⟩)] V (QR V b D fp fun E=>E.write ((BL F.log F.size F.Ak:Nat):Int) (Wal.pad (Crc.le 4 s.length++s))):=by
 have HL:=Hi h;obtain⟨f1,f2,f3,f4⟩:=h.FR.fits;have hpl:(Wal.pad (Crc.le 4 s.length++s)).length≤1000128:=by rw[Wal.Md,Aj,Crc.Be];omega
 have hbl:BL F.log F.size F.Ak≤40000:=by unfold BL;have:F.Ak*F.size≤1*F.size:=Kj _ f4;omega
 have HB0:=Hi (Ad V.heap.size V);have EB:=Hi ((Ad V.heap.size V).drew);have Py:=Hi (h.below EB);have HW:=Hi (fun(W:World) (h:Hd W y b m x c2 c5 gv fp F s D)=>Ws h.disk ((BL F.log F.size F.Ak:Nat):Int) (Wal.pad (Crc.le 4 s.length++s)) (by omega) (by omega) (by omega));have aiK:=Hi (fun(W:World)=>vY (.pointer (some ⟨b,0,none⟩)) F.log F.size F.Ak W f1 f2 f4);have aiL:=Hi (fun(W:World)=>ZA s.length W (by omega));have HWH:=Hi (fun(W:World)=>ZB (Crc.le 4 s.length++s) W (by rw[Aj,Crc.Be];omega));have ayR:∀ W,(binOp .add 9 (.string (bs (Crc.le 4 s.length))) (.string (bs s))).run prog W=.ok (.string (bs (Crc.le 4 s.length++s))) W:=fun W=>by
  have h4:=Crc.Be 4 s.length;simp[go_sem,Op.stringOp,h4];omega
 have ara:∀ W,(Op.stringOp .add (bs (Crc.le 4 s.length)) (bs s)).run prog W=.ok (.string (bs (Crc.le 4 s.length++s))) W:=fun W=>by
  have h4:=Crc.Be 4 s.length;simp[go_sem,Op.stringOp,h4];omega
 have h4:=Crc.Be 4 s.length;have asV:(4:Int)+(s.length:Int)≤9223372036854775807:=by omega
 generalize Wal.pad (Crc.le 4 s.length++s)=P at*;generalize BL F.log F.size F.Ak=B at*;obtain⟨d0,d1,d2,d3,d4,d5,d6⟩:=h.reads;clear h;go_enter func172,ntmps172;go_wp2_with fail
 go_region_held3 (fun W=>W.cell? ⟨c2,0,none⟩=some (.pointer (some ⟨y,0,none⟩))∧W.cell? ⟨c5,0,none⟩=some (.string (bs s))∧W.cell? ⟨y,0,none⟩=some (.pointer (some ⟨b,0,none⟩))∧W.cell? ⟨y,1,none⟩=some (.int .i64 (F.log:Int))∧W.cell? ⟨y,2,none⟩=some (.int .i64 (F.size:Int))∧W.cell? ⟨y,3,none⟩=some (.int .i64 (F.Ak:Int))∧W.cell? ⟨y,5,none⟩=some (.pointer (some ⟨x,0,none⟩)))
  (first|exact Py.reads|exact EA.reads|exact HL2.reads|exact JM.reads|exact Px.reads)
  (first
   |(go_at_call 124;refine(aiK _).mono ?_;rintro e W1 ⟨rfl,hb1⟩;have EA:=Hi (Py.below hb1);have HB1:=Hi (EB.trans (hb1.mono EB.size));clear hb1)
   |(go_at_call 173;refine(aiL _).mono ?_;rintro e W2 ⟨rfl,hb2⟩;have HL2:=Hi (EA.below hb2);have HB2:=Hi (HB1.trans (hb2.mono HB1.size));clear hb2)
   |(go_at_call 121;refine(HWH _).mono ?_;rintro e W3 ⟨rfl,hb3⟩;have JM:=Hi (HL2.below hb3);have HB3:=Hi (HB2.trans (hb3.mono HB2.size));clear hb3)
   |(go_at_call 134;refine(HW _ JM).mono ?_;rintro e W4 ⟨rfl,Ky,hd4,Nz,hs4⟩;have Px:=Hi (JM.jI hd4 Nz hs4);have HD4:=Hi hd4;have Mv:=Hi Nz;have Mx:=Hi hs4;clear hd4 Nz hs4))
 all_goals
  go_wp2_with fail;go_ret;exact⟨rfl,Ky,HD4,(A7.of_below (F:=fp) HB3).trans Mv (fun i hi=>.inl hi),fun i hi=>(Mx i hi).elim .inl (fun e=>.inr (Ah HB3.size e))⟩
theorem aiN(h:Hd V y b m x c2 c5 gv fp F s D)(EX:D.loose.length≤500000000):
  Calls prog 174 #[.pointer (some ⟨c2,0,none⟩)] V (QR V b D fp fun E=>E.write ((0:Nat):Int) (Fil.mark F.Ak ((F.w.gen+1) % 18446744073709551616))):=by
 have HL:=Hi h;obtain⟨f1,f2,f3,f4⟩:=h.FR.fits;have hgm:(F.w.gen+1) % 18446744073709551616 < 18446744073709551616:=Nat.mod_lt _ (by decide);have DU:=Fil.Je F.Ak ((F.w.gen+1) % 18446744073709551616);have EB:=Hi ((Ad V.heap.size V).drew);have Py:=Hi (h.below EB);have HW:=Hi (fun(W:World) (h:Hd W y b m x c2 c5 gv fp F s D)=>Ws h.disk ((0:Nat):Int) (Fil.mark F.Ak ((F.w.gen+1) % 18446744073709551616)) (by omega) (by omega) (by omega));have Jk:=Hi (fun(W:World)=>vX F.Ak ((F.w.gen+1) % 18446744073709551616) W f4 hgm);have Oo:=Hi (fun(W:World) (h:Hd W y b m x c2 c5 gv fp F s D)=>wQ h.FR.Cy);have e3:=jD F.w.gen;generalize Fil.mark F.Ak ((F.w.gen+1) % 18446744073709551616)=P at*;generalize (F.w.gen+1) % 18446744073709551616=G at*;obtain⟨d0,d1,d2,d3,d4,d5,d6⟩:=h.reads;clear h;go_enter func174,ntmps174;go_wp2_with fail
 go_region_held3 (fun W=>W.cell? ⟨c2,0,none⟩=some (.pointer (some ⟨y,0,none⟩))∧W.cell? ⟨c5,0,none⟩=some (.string (bs s))∧W.cell? ⟨y,0,none⟩=some (.pointer (some ⟨b,0,none⟩))∧W.cell? ⟨y,1,none⟩=some (.int .i64 (F.log:Int))∧W.cell? ⟨y,2,none⟩=some (.int .i64 (F.size:Int))∧W.cell? ⟨y,3,none⟩=some (.int .i64 (F.Ak:Int))∧W.cell? ⟨y,5,none⟩=some (.pointer (some ⟨x,0,none⟩)))
  (first|exact Py.reads|exact EA.reads|exact HL2.reads|exact Px.reads)
  (first
   |(go_at_call 54;refine(Oo _ Py).mono ?_;rintro e W1 ⟨rfl,rfl⟩;have EA:=Py)
   |(go_at_call 123;refine(Jk _).mono ?_;rintro e W2 ⟨rfl,hb2⟩;have HL2:=Hi (EA.below hb2);have HB2:=Hi (EB.trans (hb2.mono EB.size));clear hb2)
   |(go_at_call 134;refine(HW _ HL2).mono ?_;rintro e W4 ⟨rfl,Ky,hd4,Nz,hs4⟩;have Px:=Hi (HL2.jI hd4 Nz hs4);have HD4:=Hi hd4;have Mv:=Hi Nz;have Mx:=Hi hs4;clear hd4 Nz hs4))
 all_goals
  go_wp2_with fail;go_ret;exact⟨rfl,Ky,HD4,(A7.of_below (F:=fp) HB2).trans Mv (fun i hi=>.inl hi),fun i hi=>(Mx i hi).elim .inl (fun e=>.inr (Ah HB2.size e))⟩
theorem aiO{c6 cap:Nat}{a:Option Addr}{l:List T}(hd:AU V b D fp)(hf:Ci V y b m x gv F)(ap:¬ fp m)(h2:V.heap[c2]?=some (.cells #[.pointer (some ⟨y,0,none⟩)] 35))(h6:V.heap[c6]?=some (.cells #[.slice a l.length cap] 27))(hc6:¬ Ba x gv c6)
  (hx:BB V a l)(hap:∀ p,a=some p→l≠[]→¬ fp p.block∧¬ Ba x gv p.block)(hlen:l.length≤1000000)(asV:rowLen l≤1000000)(EX:D.loose.length≤400000000)(hgl:F.w.groups.length≤1000000):
  Calls prog 102 #[.pointer (some ⟨c2,0,none⟩),.pointer (some ⟨c6,0,none⟩)] V fun e w'=>Sy V x b gv fp (wappend D F.w l) e w':=by
 have EB:=Hi ((Ad V.heap.size V).drew);have HA:=Hi (aix (cap:=cap) (hd.below EB) (hf.Cy.below EB) (hx.below EB) hap hlen asV EX hgl);obtain⟨_,_,_,_,_,d5,_⟩:=hf.cells;have c2':=Fe h2;have c6':=Fe h6
 have HK:=Hi (fun(W:World) (hu:A7 (fun k=>fp k∨Ba x gv k) V.drew W)=>(by
  refine⟨(hu.cell (p:=⟨c2,0,none⟩) (Ae h2) ?_).trans c2',(hu.cell (p:=⟨c6,0,none⟩) (Ae h6) ?_).trans c6',(hu.cell (p:=⟨y,5,none⟩) (hf.lt y (.inl rfl)) ?_).trans d5⟩
  ·rintro(e|e)
   ·exact hd.BV _ e (by decide) (by decide) ⟨_,_,h2⟩
   ·rcases hf.Cy.kind e with h|h
    ·exact Ap.ne ⟨_,_,h2⟩ h (by decide) rfl
    ·exact Ap.ne ⟨_,_,h2⟩ h (by decide) rfl
  ·rintro(e|e)
   ·exact hd.BV _ e (by decide) (by decide) ⟨_,_,h6⟩
   ·exact hc6 e
  ·rintro(e|e)
   ·exact QU hd hf ap y (.inl rfl) e
   ·exact hf.QH.2.1 e:W.cell? ⟨c2,0,none⟩=some (.pointer (some ⟨y,0,none⟩))∧W.cell? ⟨c6,0,none⟩=some (.slice a l.length cap)∧W.cell? ⟨y,5,none⟩=some (.pointer (some ⟨x,0,none⟩))))
 clear hd hf hx hap h2 h6;go_enter func102,ntmps102;go_wp2_with fail
 go_region_held3 (fun W=>W.cell? ⟨c2,0,none⟩=some (.pointer (some ⟨y,0,none⟩))∧W.cell? ⟨c6,0,none⟩=some (.slice a l.length cap)∧W.cell? ⟨y,5,none⟩=some (.pointer (some ⟨x,0,none⟩)))
  (first|exact HK _ (A7.refl _ _)|exact HK _ Gx)
  (first
   |(go_at_call 103;refine HA.mono ?_;rintro e W1 ⟨rfl,Dk,D9,g1,g2,g3,g4,g5⟩;have Gx:=Hi g3;have HG:=Hi (BD g1 (BD g2 (BD g4 g5)));clear g1 g2 g3 g4 g5))
 all_goals
  go_wp2_with fail;go_ret;exact⟨rfl,Dk,D9,HG.1,HG.2.1,(A7.of_below (F:=fun k=>fp k∨Ba x gv k) EB).trans Gx (fun i hi=>.inl hi),HG.2.2.1,HG.2.2.2⟩
end
end
section
open Go.RowKit Go.Maps
open Fil
def LG(F:St)(s:T):List (Dsk×AO→(Dsk×AO)×Int):=
 [fun E=>(((E.1.write ((BL F.log F.size F.Ak:Nat):Int) (Wal.pad (Crc.le 4 s.length++s))).1,E.2),(E.1.write ((BL F.log F.size F.Ak:Nat):Int) (Wal.pad (Crc.le 4 s.length++s))).2),
  fun E=>((E.1.flush.1,E.2),E.1.flush.2),
  fun E=>(((E.1.write ((0:Nat):Int) (Fil.mark F.Ak ((E.2.gen+1) % 18446744073709551616))).1,E.2),(E.1.write ((0:Nat):Int) (Fil.mark F.Ak ((E.2.gen+1) % 18446744073709551616))).2),
  fun E=>((E.1.flush.1,E.2),E.1.flush.2),
  fun E=>(((Cs E.1 E.2).1,(Cs E.1 E.2).2.1),(Cs E.1 E.2).2.2)]
def y5(F:St)(r:(Dsk×AO)×Int):St:={ F with Ak:=1 -F.Ak,w:=r.1.2,fault:=if r.2=0 then F.fault else r.2 }
theorem aiQ(f1 f2 f4:Dsk→Dsk×Int)(f3:AO→Dsk→Dsk×Int)(D:Dsk)(L:AO):
  doG [fun E:Dsk×AO=>(((f1 E.1).1,E.2),(f1 E.1).2),fun E=>(((f2 E.1).1,E.2),(f2 E.1).2),fun E=>(((f3 E.2 E.1).1,E.2),(f3 E.2 E.1).2),fun E=>(((f4 E.1).1,E.2),(f4 E.1).2),fun E=>(((Cs E.1 E.2).1,(Cs E.1 E.2).2.1),(Cs E.1 E.2).2.2)] (D,L)=
  if(doS [f1,f2,f3 L,f4] D).2=0 then(((Cs (doS [f1,f2,f3 L,f4] D).1 L).1,(Cs (doS [f1,f2,f3 L,f4] D).1 L).2.1),(Cs (doS [f1,f2,f3 L,f4] D).1 L).2.2) else(((doS [f1,f2,f3 L,f4] D).1,L),(doS [f1,f2,f3 L,f4] D).2):=by
 by_cases h1:(f1 D).2=0
 ·by_cases h2:(f2 (f1 D).1).2=0
  ·by_cases h3:(f3 L (f2 (f1 D).1).1).2=0
   ·by_cases h4:(f4 (f3 L (f2 (f1 D).1).1).1).2=0
    ·by_cases h5:(Cs (f4 (f3 L (f2 (f1 D).1).1).1).1 L).2.2=0
     ·simp[doS,doG,h1,h2,h3,h4,h5]
     ·simp[doS,doG,h1,h2,h3,h4,h5]
    ·simp[doS,doG,h1,h2,h3,h4]
   ·simp[doS,doG,h1,h2,h3]
  ·simp[doS,doG,h1,h2]
 ·simp[doS,doG,h1]
theorem y7(D:Dsk)(F:St)(m:M):JH D F m=((doG (LG { F with Ak:=1 -F.Ak } (Fil.bytes m)) (D,F.w)).1.1,
  { y5 F (doG (LG { F with Ak:=1 -F.Ak } (Fil.bytes m)) (D,F.w)) with m:=if(doG (LG { F with Ak:=1 -F.Ak } (Fil.bytes m)) (D,F.w)).2=0 then m else F.m },
  (doG (LG { F with Ak:=1 -F.Ak } (Fil.bytes m)) (D,F.w)).2):=by
 have e:doG (LG { F with Ak:=1 -F.Ak } (Fil.bytes m)) (D,F.w)=if(doS (EY F m) D).2=0 then(((Cs (doS (EY F m) D).1 F.w).1,(Cs (doS (EY F m) D).1 F.w).2.1),(Cs (doS (EY F m) D).1 F.w).2.2) else(((doS (EY F m) D).1,F.w),(doS (EY F m) D).2):=
  aiQ (fun E=>E.write ((BL F.log F.size (1 -F.Ak):Nat):Int) (Ls m)) Dsk.flush Dsk.flush (fun L E=>E.write ((0:Nat):Int) (Fil.mark (1 -F.Ak) ((L.gen+1) % 18446744073709551616))) D F.w
 rw[e];unfold JH y5;by_cases h1:(doS (EY F m) D).2=0
 ·by_cases h2:(Cs (doS (EY F m) D).1 F.w).2.2=0
  ·simp[h1,h2]
  ·simp[h1,h2]
 ·simp[h1]
theorem Hd.aiR{V W:World}{y b m x c2 c5:Nat}{gv Dz:Value}{fp fp':Nat→Prop}{F:St}{s:T}{D D':Dsk}{L:AO}(h:Hd V y b m x c2 c5 gv fp F s D)(hd:AU W b D' fp')(hw:Bq W x b Dz L)(hu:A7 (fun k=>fp k∨Ba x gv k) V W)(hs:Cg fp fp' V):Hd W y b m x c2 c5 Dz fp' { F with w:=L } s D':=by
 have hk:∀ {k t},Ap V k t→t≠117→t≠195→t≠207→t≠27→¬ (fp k∨Ba x gv k):=fun hb h1 h2 h3 h4 e=>by
  rcases e with e|e
  ·exact h.disk.BV _ e h1 h2 hb
  ·rcases h.FR.Cy.kind e with g|g
   ·exact Ap.ne hb g h3 rfl
   ·exact Ap.ne hb g h4 rfl
 exact⟨hd,⟨(hu.block y (Ae h.FR.struct) (hk h.FR.blk (by decide) (by decide) (by decide) (by decide))).trans h.FR.struct,h.FR.map.upd hu (fun e=>e.elim h.ap h.FR.QH.2.2),hw,h.FR.fits⟩,
  (hu.block c2 (Ae h.c2) (hk ⟨_,_,h.c2⟩ (by decide) (by decide) (by decide) (by decide))).trans h.c2,
  (hu.block c5 (Ae h.c5) (hk ⟨_,_,h.c5⟩ (by decide) (by decide) (by decide) (by decide))).trans h.c5,
  fun e=>(hs m e).elim h.ap (fun e2=>by have:=h.FR.map.lt;omega)⟩
theorem y8(a b c k:Nat)(h1:a≤b+100000)(h2:b≤c+100000*k):a≤c+100000*(k+1):=by
 rw[Nat.mul_succ,←Nat.add_assoc];generalize 100000*k=m at*;omega
def KH(w:World)(y b m x c2 c5:Nat)(Lj:Nat→Prop)(Oq:Value)(F:St)(s:T)(n0:Nat)(k:Nat)(E:Dsk×AO)(W:World):Prop:=
 ∃ fp gv,Hd W y b m x c2 c5 gv fp { F with w:=E.2 } s E.1∧A7 (fun k=>Lj k∨Ba x Oq k) w W∧Cg Lj fp w∧Cg (Ba x Oq) (Ba x gv) w∧E.1.loose.length≤n0+100000*k
section
variable {w V W:World}{y b m x c2 c5:Nat}{Oq:Value}{Lj:Nat→Prop}{F:St}{s:T}{n0 k:Nat}{D:Dsk}{L:AO}{e:Ending}
theorem KH.step{fp:Nat→Prop}{gv:Value}{f:Dsk→Dsk×Int}(h:Hd V y b m x c2 c5 gv fp { F with w:=L } s D)(hu:A7 (fun k=>Lj k∨Ba x Oq k) w V)(h1:Cg Lj fp w)(h2:Cg (Ba x Oq) (Ba x gv) w)(hl:D.loose.length≤n0+100000*k)
  (hp:QR V b D fp f e W)(hm:(f D).1.loose.length≤D.loose.length+100000):e=.returned (.int .i64 (f D).2)∧KH w y b m x c2 c5 Lj Oq F s n0 (k+1) ((f D).1,L) W:=by
 obtain⟨he,fp',p1,p2,p3⟩:=hp;refine⟨he,fp',gv,h.jI p1 p2 p3,hu.trans p2 (fun i hi=>(h1 i hi).imp .inl id),fun i hi=>?_,h2,y8 _ _ _ _ hm hl⟩;rcases p3 i hi with e|e
 ·exact h1 i e
 ·exact .inr (Ah hu.size e)
theorem KH.reset(h:KH w y b m x c2 c5 Lj Oq F s n0 k (D,L) V)(hn:n0+100000*k≤400000000)(hm:(Cs D L).1.loose.length≤D.loose.length+100000):
  Calls prog 58 #[.pointer (some ⟨x,0,none⟩)] V fun e W=>e=.returned (.int .i64 (Cs D L).2.2)∧KH w y b m x c2 c5 Lj Oq F s n0 (k+1) ((Cs D L).1,(Cs D L).2.1) W:=by
 obtain⟨fp,gv,h,hu,h1,h2,hl⟩:=h;have hl:D.loose.length≤n0+100000*k:=hl;refine(xU h.disk h.FR.Cy (by omega)).mono ?_;rintro e W⟨rfl,fp',Dz,p1,p2,p3,p4,p5⟩;refine⟨rfl,fp',Dz,h.aiR p1 p2 p3 p4,hu.trans p3 (fun i hi=>hi.elim (fun e=>(h1 i e).imp .inl id) (fun e=>(h2 i e).imp .inr id)),fun i hi=>?_,fun i hi=>?_,y8 _ _ _ _ hm hl⟩
 ·rcases p4 i hi with e|e
  ·exact h1 i e
  ·exact .inr (Ah hu.size e)
 ·rcases p5 i hi with e|e
  ·exact h2 i e
  ·exact .inr (Ah hu.size e)
theorem aiS(D:Dsk)(L:AO):(Cs D L).1.loose.length≤D.loose.length+100000:=by
 have key:(doS L.Hz D).1.loose.length≤D.loose.length+1:=by
  unfold AO.Hz;simp only[doS];have h1:=Dsk.Ng D (L.from_:Int) (Wal.mark ((L.gen+1) % 18446744073709551616) 0);rw[Wal.Je] at h1;split
  ·have h2:=Dsk.Oa (D.write (L.from_:Int) (Wal.mark ((L.gen+1) % 18446744073709551616) 0)).1;split
   ·show(D.write (L.from_:Int) (Wal.mark ((L.gen+1) % 18446744073709551616) 0)).1.flush.1.loose.length≤_;omega
   ·omega
  ·omega
 unfold Cs;split
 ·exact Nat.le_add_right _ _
 ·split
  ·show(doS L.Hz D).1.loose.length≤_;omega
  ·show(doS L.Hz D).1.loose.length≤_;omega
theorem aiT(hs:s.length≤1000000)(hn:n0≤300000000):
  xW (KH w y b m x c2 c5 Lj Oq F s n0) (fun E W=>∃ k,KH w y b m x c2 c5 Lj Oq F s n0 k E W)
   [.func (.func 172) #[] #[.pointer (some ⟨c2,0,none⟩),.pointer (some ⟨c5,0,none⟩)],.func (.func 135) #[.pointer (some ⟨b,0,none⟩)] #[],.func (.func 174) #[] #[.pointer (some ⟨c2,0,none⟩)],.func (.func 135) #[.pointer (some ⟨b,0,none⟩)] #[],.func (.func 58) #[.pointer (some ⟨x,0,none⟩)] #[]] (LG F s):=by
 have hpl:(Wal.pad (Crc.le 4 s.length++s)).length≤1000128:=by rw[Wal.Md,Aj,Crc.Be];omega
 refine⟨rfl,fun i h h'=>?_⟩
 match i,h with
 |0,_=>
  refine⟨_,_,_,rfl,enters_of func172 (by kernel_rfl) rfl,fun E W hI=>?_⟩;obtain⟨fp,gv,h,hu,h1,h2,hl⟩:=hI;refine(aiJ h hs (by omega)).mono fun e W' hp=>?_
  have:=KH.step h hu h1 h2 hl hp (by have:=Dsk.Ng E.1 ((BL F.log F.size F.Ak:Nat):Int) (Wal.pad (Crc.le 4 s.length++s));show(E.1.write ((BL F.log F.size F.Ak:Nat):Int) (Wal.pad (Crc.le 4 s.length++s))).1.loose.length≤_;omega);exact⟨this.1,fun _=>this.2,fun _=>⟨_,this.2⟩⟩
 |1,_=>
  refine⟨_,_,_,rfl,enters_of func135 (by kernel_rfl) rfl,fun E W hI=>?_⟩;obtain⟨fp,gv,h,hu,h1,h2,hl⟩:=hI;refine(Ze h.disk (by omega)).mono fun e W' hp=>?_
  have:=KH.step (f:=Dsk.flush) h hu h1 h2 hl hp (by have:=Dsk.Oa E.1;omega);exact⟨this.1,fun _=>this.2,fun _=>⟨_,this.2⟩⟩
 |2,_=>
  refine⟨_,_,_,rfl,enters_of func174 (by kernel_rfl) rfl,fun E W hI=>?_⟩;obtain⟨fp,gv,h,hu,h1,h2,hl⟩:=hI;refine(aiN h (by omega)).mono fun e W' hp=>?_
  have:=KH.step h hu h1 h2 hl hp (by have:=Dsk.Ng E.1 ((0:Nat):Int) (Fil.mark F.Ak ((E.2.gen+1) % 18446744073709551616));rw[Fil.Je] at this;show(E.1.write ((0:Nat):Int) (Fil.mark F.Ak ((E.2.gen+1) % 18446744073709551616))).1.loose.length≤_;omega);exact⟨this.1,fun _=>this.2,fun _=>⟨_,this.2⟩⟩
 |3,_=>
  refine⟨_,_,_,rfl,enters_of func135 (by kernel_rfl) rfl,fun E W hI=>?_⟩;obtain⟨fp,gv,h,hu,h1,h2,hl⟩:=hI;refine(Ze h.disk (by omega)).mono fun e W' hp=>?_
  have:=KH.step (f:=Dsk.flush) h hu h1 h2 hl hp (by have:=Dsk.Oa E.1;omega);exact⟨this.1,fun _=>this.2,fun _=>⟨_,this.2⟩⟩
 |4,_=>
  refine⟨_,_,_,rfl,enters_of func58 (by kernel_rfl) rfl,fun E W hI=>?_⟩;refine(KH.reset hI (by omega) (aiS _ _)).mono fun e W' hp=>?_
  exact⟨hp.1,fun _=>hp.2,fun _=>⟨_,hp.2⟩⟩
end
end
section
open Go.RowKit Go.Maps
open Fil
def Pz(w:World)(y b _m x:Nat)(gv:Value)(fp:Nat→Prop)(r:Dsk×St×Int)(m':Nat)(e:Ending)(w':World):Prop:=
 e=.returned (.int .i64 r.2.2)∧∃ fp' Dz,AU w' b r.1 fp'∧Ci w' y b m' x Dz r.2.1∧¬ fp' m'∧A7 (fun k=>fp k∨k=y∨Ba x gv k) w w'∧Cg fp fp' w∧Cg (Ba x gv) (Ba x Dz) w
theorem aiU{a:Nat}(h:a≤1):IntKind.i64.wrap (1 -(a:Int))=((1 -a:Nat):Int):=by
 rw[CZ _ (by omega)];omega
theorem Ci.aiV{w:World}{y b m x:Nat}{gv:Value}{F:St}(h:Ci w y b m x gv F)(a:Nat)(ha:a≤1):Ci (w.setCell ⟨y,3,none⟩ (.int .i64 (a:Int))) y b m x gv { F with Ak:=a }:=by
 have hu:A7 (fun k=>k=y) w (w.setCell ⟨y,3,none⟩ (.int .i64 (a:Int))):=(A7.refl (fun k=>k=y) w).setCell (p:=⟨y,3,none⟩) (.inl rfl) _;exact⟨Bh w y 3 _ _ _ h.struct,h.map.upd hu (fun e=>h.QH.1 e.symm),h.Cy.upd hu (fun k hk e=>by subst e;exact Ap.ne hk h.blk (by decide) rfl) (fun k hk e=>by subst e;exact h.QH.2.1 hk),⟨h.fits.1,h.fits.2.1,h.fits.2.2.1,ha⟩⟩
theorem Ci.ZQ{w:World}{y b m x:Nat}{gv:Value}{F:St}(h:Ci w y b m x gv F)(k:Int):Ci (w.setCell ⟨y,6,none⟩ (.int .i64 k)) y b m x gv { F with fault:=k }:=by
 have hu:A7 (fun k=>k=y) w (w.setCell ⟨y,6,none⟩ (.int .i64 k)):=(A7.refl (fun k=>k=y) w).setCell (p:=⟨y,6,none⟩) (.inl rfl) _;exact⟨Bh w y 6 _ _ _ h.struct,h.map.upd hu (fun e=>h.QH.1 e.symm),h.Cy.upd hu (fun k hk e=>by subst e;exact Ap.ne hk h.blk (by decide) rfl) (fun k hk e=>by subst e;exact h.QH.2.1 hk),h.fits⟩
def UL(b x c2 c5:Nat):Array Value:=#[.func (.func 172) #[] #[.pointer (some ⟨c2,0,none⟩),.pointer (some ⟨c5,0,none⟩)],.func (.func 135) #[.pointer (some ⟨b,0,none⟩)] #[],.func (.func 174) #[] #[.pointer (some ⟨c2,0,none⟩)],.func (.func 135) #[.pointer (some ⟨b,0,none⟩)] #[],.func (.func 58) #[.pointer (some ⟨x,0,none⟩)] #[]]
theorem aiW{V:World}{y b m x c2 c5:Nat}{gv:Value}{fp:Nat→Prop}{F:St}{S:T}{D:Dsk}(h:Hd V y b m x c2 c5 gv fp F S D)(hs:S.length≤1000000)(EX:D.loose.length≤300000000)(nq:Nat):
  Calls prog 101 #[.pointer (some ⟨y,0,none⟩),.slice (some ⟨V.heap.size,0,none⟩) 5 5] ((V.alloc (.cells (UL b x c2 c5) 95)).drewN nq) fun e w'=>e=.returned (.int .i64 (doG (LG F S) (D,F.w)).2)∧∃ fp' Dz,AU w' b (doG (LG F S) (D,F.w)).1.1 fp'∧Ci w' y b m x Dz { F with w:=(doG (LG F S) (D,F.w)).1.2,fault:=if(doG (LG F S) (D,F.w)).2=0 then F.fault else(doG (LG F S) (D,F.w)).2 }∧¬ fp' m∧A7 (fun k=>fp k∨k=y∨Ba x gv k) V w'∧Cg fp fp' V∧Cg (Ba x gv) (Ba x Dz) V∧w'.heap[c2]?=some (.cells #[.pointer (some ⟨y,0,none⟩)] 35):=by
 have hb:Bw V ((V.alloc (.cells (UL b x c2 c5) 95)).drewN nq):=((Ad _ _).alloc (Ab _) _).trans ((DK _ nq).mono (by rw[Ai];omega));have ast:((V.alloc (.cells (UL b x c2 c5) 95)).drewN nq).heap[V.heap.size]?=some (.cells (UL b x c2 c5) 95):=((DK _ nq).block V.heap.size (by rw[Ai];omega)).trans (Aq V _);have h0:=h.below hb;have hbu:=A7.of_below (F:=fun k=>fp k∨k=y∨Ba x gv k) hb;have hbs:=hb.size;generalize (V.alloc (.cells (UL b x c2 c5) 95)).drewN nq=w0 at*;have hst:∀ {P P':Nat→Prop},Cg P P' w0→Cg P P' V:=fun hs i hi=>(hs i hi).imp id (fun e=>Ah hbs e)
 generalize V.heap.size=g at*;have hg:¬ (fp g∨Ba x gv g):=fun e=>by
  rcases e with e|e
  ·exact h0.disk.BV _ e (by decide) (by decide) ⟨_,_,ast⟩
  ·rcases h0.FR.Cy.kind e with k|k
   ·exact Ap.ne ⟨_,_,ast⟩ k (by decide) rfl
   ·exact Ap.ne ⟨_,_,ast⟩ k (by decide) rfl
 refine(xX (I:=KH w0 y b m x c2 c5 fp gv F S D.loose.length) (J:=fun E W=>∃ k,KH w0 y b m x c2 c5 fp gv F S D.loose.length k E W) (s0:=(D,F.w)) (cap:=5) (g:=g) (n:=5)
  ⟨fp,gv,h0,A7.refl _ _,fun _ h=>.inl h,fun _ h=>.inl h,Nat.le_add_right _ _⟩ (aiT hs EX) ?_ rfl (Ab 5) ?_).mono ?_
 ·rintro k E W ⟨Dk,D9,g1,g2,g3,g4,g5⟩ i u hu;rw[AY W g i _ _ _ ((g2.block g (Ae ast) hg).trans ast),←hu]
  show(UL b x c2 c5)[i]?=_
  rw[←CB];rfl
 ·rintro E W ⟨k,Dk,D9,g1,g2,g3,g4,g5⟩;have c:=g1.FR.cells;exact⟨⟨_,c.2.2.2.2.2.2.1⟩,c.2.2.2.2.2.2.2 6⟩
 ·generalize doG (LG F S) (D,F.w)=r;rintro e w'⟨rfl,r1,r2⟩;refine⟨rfl,?_⟩;by_cases hr:r.2=0
  ·obtain⟨Dk,D9,g1,g2,g3,g4,g5⟩:=r1 hr;rw[Ac hr];exact⟨Dk,D9,g1.disk,g1.FR,g1.ap,hbu.trans (g2.mono (fun i hi=>hi.elim .inl (fun e=>.inr (.inr e)))) (fun i hi=>.inl hi),hst g3,hst g4,g1.c2⟩
  ·obtain⟨W,⟨k,Dk,D9,g1,g2,g3,g4,g5⟩,rfl⟩:=r2 hr;rw[Aa hr];have hu:A7 (fun k=>k=y) W (W.setCell ⟨y,6,none⟩ (.int .i64 r.2)):=(A7.refl (fun k=>k=y) W).setCell (p:=⟨y,6,none⟩) (.inl rfl) _;refine⟨Dk,D9,g1.disk.upd hu (fun k hk e=>by subst e;exact QU g1.disk g1.FR g1.ap k (.inl rfl) hk),g1.FR.ZQ r.2,g1.ap,(hbu.trans (g2.mono (fun i hi=>hi.elim .inl (fun e=>.inr (.inr e)))) (fun i hi=>.inl hi)).trans hu (fun i hi=>.inl (.inr (.inl hi))),hst g3,hst g4,(hu.block c2 (Ae g1.c2) (fun e=>by subst e;exact Ap.ne ⟨_,_,g1.c2⟩ g1.FR.blk (by decide) rfl)).trans g1.c2⟩
theorem y9{w:World}{y b m x mv:Nat}{gv:Value}{fp:Nat→Prop}{F:St}{D:Dsk}{A:M}(hd:AU w b D fp)(hf:Ci w y b m x gv F)(ap:¬ fp m)(hM:BJ w mv A)(hg:Fil.Good A)(hc:used A≤1000000)(EX:D.loose.length≤300000000):
  Calls prog 100 #[.pointer (some ⟨y,0,none⟩),.map (some mv)] w fun e w'=>Pz w y b m x gv fp ((JH D F A).1,{ (JH D F A).2.1 with m:=F.m },(JH D F A).2.2) m e w':=by
 have HD:=Hi hd;have HF:=Hi hf;have hb0:=(Ad w.heap.size w).alloc (Ab _) (.cells #[.pointer (some ⟨y,0,none⟩)] 35);have HB0:=Hi hb0;have jJ:=Hi (ahL (hM.below hb0) hg hc);have Io:=Hi (Aq w (.cells #[.pointer (some ⟨y,0,none⟩)] 35));have hyl:=hf.lt y (.inl rfl);have har:=hf.fits.2.2.2;have e1:=aiU har;have hal:1 -F.Ak≤1:=by omega
 have Py:=Hi (y7 D F A);have hsl:(Fil.bytes A).length≤1000000:=by rw[iq];exact hc
 clear hd hf hb0 hM;generalize Fil.bytes A=S at*;go_enter func100,ntmps100;go_wp2_with fail;refine jJ.mono ?_;rintro e w1⟨rfl,hb1⟩;have HB1:=Hi (HB0.trans (hb1.mono HB0.size));have hc2:=(hb1.block w.heap.size (Ae Io)).trans Io.out;have JI:=Hi hc2;have c0:=Fe hc2;have WV:=Hi (HF.below HB1);obtain⟨_,_,_,d3,_,_,_,df⟩:=WV.cells;have Uk:=df 3;have UH:w.heap.size < w1.heap.size:=Ae hc2;have arb:y < w1.heap.size:=by omega
 clear hb1 hc2 df;go_wp2_with fail;go_region;have EJ:A7 (fun k=>k=y) w1 (w1.setCell ⟨y,3,none⟩ (.int .i64 ((1 -F.Ak:Nat):Int))):=(A7.refl (fun k=>k=y) w1).setCell (p:=⟨y,3,none⟩) (.inl rfl) _;have hb5:Below (w1.setCell ⟨y,3,none⟩ (.int .i64 ((1 -F.Ak:Nat):Int))).heap.size (w1.setCell ⟨y,3,none⟩ (.int .i64 ((1 -F.Ak:Nat):Int))) (((w1.setCell ⟨y,3,none⟩ (.int .i64 ((1 -F.Ak:Nat):Int))).alloc (.cells #[.string (bs S)] 9)).drew):=((Ad _ _).alloc (Ab _) _).drew;have Mw:(((w1.setCell ⟨y,3,none⟩ (.int .i64 ((1 -F.Ak:Nat):Int))).alloc (.cells #[.string (bs S)] 9)).drew).heap[w1.heap.size]?=some (.cells #[.string (bs S)] 9):=by
  have:=Aq (w1.setCell ⟨y,3,none⟩ (.int .i64 ((1 -F.Ak:Nat):Int))) (.cells #[.string (bs S)] 9);rwa[show(w1.setCell ⟨y,3,none⟩ (.int .i64 ((1 -F.Ak:Nat):Int))).heap.size=w1.heap.size by simp[World.setCell]] at this
 have hd1:=HD.below HB1.out;have hys:∀ k,fp k→¬ k=y:=fun k hk e=>by subst e;exact QU hd1 WV ap k (.inl rfl) hk
 have hfa:=(WV.aiV (1 -F.Ak) hal).below hb5;have yc:=(hb5.block w.heap.size (by simp[World.setCell];omega)).trans ((EJ.block w.heap.size UH (by omega)).trans JI);have hl3:Hd (((w1.setCell ⟨y,3,none⟩ (.int .i64 ((1 -F.Ak:Nat):Int))).alloc (.cells #[.string (bs S)] 9)).drew) y b m x w.heap.size w1.heap.size gv fp { F with Ak:=1 -F.Ak } S D:=⟨(hd1.upd EJ hys).below hb5,hfa,yc,Mw,ap⟩;have hu3:A7 (fun k=>fp k∨k=y∨Ba x gv k) w (((w1.setCell ⟨y,3,none⟩ (.int .i64 ((1 -F.Ak:Nat):Int))).alloc (.cells #[.string (bs S)] 9)).drew):=((A7.of_below (F:=fun k=>fp k∨k=y∨Ba x gv k) HB1).trans (EJ.mono (fun i hi=>.inr (.inl hi))) (fun i hi=>.inl hi)).trans (A7.of_below hb5) (fun i hi=>.inl hi);have EZ:=Hi hu3;have JM:=Hi hl3;clear EJ hb5 Mw hd1 hys hfa yc hu3 hl3 d3 Uk e1 c0;generalize (((w1.setCell ⟨y,3,none⟩ (.int .i64 ((1 -F.Ak:Nat):Int))).alloc (.cells #[.string (bs S)] 9)).drew)=w3 at*;have LC:=Hi (fun nq=>aiW JM hsl EX nq);generalize doG (LG { F with Ak:=1 -F.Ak } S) (D,F.w)=r at*;have K1:=Hi (fun(V:World) (f:Ci V y b m x gv { F with Ak:=1 -F.Ak }) (h:V.heap[w.heap.size]?=some (.cells #[.pointer (some ⟨y,0,none⟩)] 35))=>(⟨Fe h,f.cells.1,f.cells.2.2.2.2.2.1⟩:V.cell? ⟨w.heap.size,0,none⟩=some (.pointer (some ⟨y,0,none⟩))∧V.cell? ⟨y,0,none⟩=some (.pointer (some ⟨b,0,none⟩))∧V.cell? ⟨y,5,none⟩=some (.pointer (some ⟨x,0,none⟩))));obtain⟨d1,d2,d3⟩:=K1 _ JM.FR JM.c2;go_wp2_with fail
 go_region_held3 (fun V=>V.cell? ⟨w.heap.size,0,none⟩=some (.pointer (some ⟨y,0,none⟩))∧V.cell? ⟨y,0,none⟩=some (.pointer (some ⟨b,0,none⟩))∧V.cell? ⟨y,5,none⟩=some (.pointer (some ⟨x,0,none⟩)))
  (first|exact⟨d1,d2,d3⟩|exact⟨c1,jK.cells.1,jK.cells.2.2.2.2.2.1⟩|go_keep)
  (first
   |(go_at_call 101;refine(LC 1).mono ?_;rintro e w4 ⟨rfl,Ky,gv4,g1,g2,g3,g4,g5,g6,g7⟩;have c1:=Fe g7;have jK:=Hi g2;have HG:=Hi (BD g1 (BD g3 (BD g4 (BD g5 g6))));clear g1 g2 g3 g4 g5 g6 g7))
 all_goals
  go_wp2_with fail;go_ret;unfold Pz;rw[Py.out];exact⟨rfl,Ky,gv4,HG.1,jK,HG.2.1,EZ.trans HG.2.2.1 (fun i hi=>.inl hi),fun i hi=>(HG.2.2.2.1 i hi).imp id (fun e=>Ah EZ.size e),fun i hi=>(HG.2.2.2.2 i hi).imp id (fun e=>Ah EZ.size e)⟩
end
section
open Go.RowKit Go.Maps
open Fil
theorem Ci.jL{w:World}{y b m x mv:Nat}{gv:Value}{F:St}{A:M}(h:Ci w y b m x gv F)(hM:BJ w mv A):Ci (w.setCell ⟨y,4,none⟩ (.map (some mv))) y b mv x gv { F with m:=A }:=by
 have hu:A7 (fun k=>k=y) w (w.setCell ⟨y,4,none⟩ (.map (some mv))):=(A7.refl (fun k=>k=y) w).setCell (p:=⟨y,4,none⟩) (.inl rfl) _;exact⟨Bh w y 4 _ _ _ h.struct,hM.upd hu (fun e=>hM.BV (e▸h.blk)),h.Cy.upd hu (fun k hk e=>by subst e;exact Ap.ne hk h.blk (by decide) rfl) (fun k hk e=>by subst e;exact h.QH.2.1 hk),h.fits⟩
theorem yf(D:Dsk)(F:St)(A:M):(JH D F A).2.1.m=if(JH D F A).2.2=0 then A else F.m:=by rw[y7]
theorem aiY{V:World}{y b m x c2 c6 cap:Nat}{gv:Value}{fp:Nat→Prop}{F:St}{D:Dsk}{q:Option Addr}{G:List T}(hd:AU V b D fp)(hf:Ci V y b m x gv F)(ap:¬ fp m)(h2:V.heap[c2]?=some (.cells #[.pointer (some ⟨y,0,none⟩)] 35))(h6:V.heap[c6]?=some (.cells #[.slice q G.length cap] 27))(hc6:¬ Ba x gv c6)
  (hx:BB V q G)(hap:∀ p,q=some p→G≠[]→¬ fp p.block∧¬ Ba x gv p.block)(hlen:G.length≤1000000)(asV:rowLen G≤1000000)(EX:D.loose.length≤400000000)(hgl:F.w.groups.length≤1000000)(nq:Nat):
  Calls prog 101 #[.pointer (some ⟨y,0,none⟩),.slice (some ⟨V.heap.size,0,none⟩) 1 1] ((V.alloc (.cells #[.func (.func 102) #[] #[.pointer (some ⟨c2,0,none⟩),.pointer (some ⟨c6,0,none⟩)]] 95)).drewN nq) fun e w'=>e=.returned (.int .i64 (wappend D F.w G).2.2)∧∃ fp' Dz,AU w' b (wappend D F.w G).1 fp'∧Ci w' y b m x Dz { F with w:=(wappend D F.w G).2.1,fault:=if(wappend D F.w G).2.2=0 then F.fault else(wappend D F.w G).2.2 }∧¬ fp' m∧A7 (fun k=>fp k∨k=y∨Ba x gv k) V w'∧Cg fp fp' V∧Cg (Ba x gv) (Ba x Dz) V∧w'.heap[c2]?=some (.cells #[.pointer (some ⟨y,0,none⟩)] 35):=by
 have hb:Bw V ((V.alloc (.cells #[.func (.func 102) #[] #[.pointer (some ⟨c2,0,none⟩),.pointer (some ⟨c6,0,none⟩)]] 95)).drewN nq):=((Ad _ _).alloc (Ab _) _).trans ((DK _ nq).mono (by rw[Ai];omega));have ast:((V.alloc (.cells #[.func (.func 102) #[] #[.pointer (some ⟨c2,0,none⟩),.pointer (some ⟨c6,0,none⟩)]] 95)).drewN nq).heap[V.heap.size]?=some (.cells #[.func (.func 102) #[] #[.pointer (some ⟨c2,0,none⟩),.pointer (some ⟨c6,0,none⟩)]] 95):=((DK _ nq).block V.heap.size (by rw[Ai];omega)).trans (Aq V _);have hd0:=hd.below hb;have hf0:=hf.below hb;have hx0:=hx.below hb;have h20:=(hb.block c2 (Ae h2)).trans h2;have SA:=(hb.block c6 (Ae h6)).trans h6;have hbu:=A7.of_below (F:=fun k=>fp k∨k=y∨Ba x gv k) hb;have hst:∀ {P P':Nat→Prop},Cg P P' ((V.alloc (.cells #[.func (.func 102) #[] #[.pointer (some ⟨c2,0,none⟩),.pointer (some ⟨c6,0,none⟩)]] 95)).drewN nq)→Cg P P' V:=fun hs i hi=>(hs i hi).imp id (fun e=>Ah hb.size e)
 generalize (V.alloc (.cells #[.func (.func 102) #[] #[.pointer (some ⟨c2,0,none⟩),.pointer (some ⟨c6,0,none⟩)]] 95)).drewN nq=w0 at*;generalize V.heap.size=g at*;have hk:∀ {k t},Ap w0 k t→t≠117→t≠195→t≠207→t≠27→¬ (fp k∨Ba x gv k):=fun hb h1 h2 h3 h4 e=>by
  rcases e with e|e
  ·exact hd0.BV _ e h1 h2 hb
  ·rcases hf0.Cy.kind e with g|g
   ·exact Ap.ne hb g h3 rfl
   ·exact Ap.ne hb g h4 rfl
 refine(xX (σ:=Dsk×AO) (I:=fun k E W=>(k=0→W=w0∧E=(D,F.w))∧∃ Dk D9,AU W b E.1 Dk∧Bq W x b D9 E.2∧A7 (fun k=>fp k∨Ba x gv k) w0 W∧Cg fp Dk w0∧Cg (Ba x gv) (Ba x D9) w0)
  (J:=fun E W=>∃ Dk D9,AU W b E.1 Dk∧Bq W x b D9 E.2∧A7 (fun k=>fp k∨Ba x gv k) w0 W∧Cg fp Dk w0∧Cg (Ba x gv) (Ba x D9) w0) (s0:=(D,F.w)) (cap:=1) (g:=g) (n:=1) (fs:=[fun E=>(((wappend E.1 E.2 G).1,(wappend E.1 E.2 G).2.1),(wappend E.1 E.2 G).2.2)])
  (vs:=[.func (.func 102) #[] #[.pointer (some ⟨c2,0,none⟩),.pointer (some ⟨c6,0,none⟩)]])
  ⟨fun _=>⟨rfl,rfl⟩,fp,gv,hd0,hf0.Cy,A7.refl _ _,fun _ h=>.inl h,fun _ h=>.inl h⟩ ⟨rfl,fun i h h'=>?_⟩ ?_ rfl (by omega) ?_).mono ?_
 ·match i,h with
  |0,_=>
   refine⟨_,_,_,rfl,enters_of func102 (by kernel_rfl) rfl,fun E W hI=>?_⟩;obtain⟨rfl,rfl⟩:=hI.1 rfl;refine(aiO hd0 hf0 ap h20 SA hc6 hx0 hap hlen asV EX hgl).mono fun e W' hp=>?_
   exact⟨hp.1,fun _=>⟨fun h=>absurd h (by omega),hp.2⟩,fun _=>hp.2⟩
 ·rintro k E W ⟨_,Dk,D9,g1,g2,g3,g4,g5⟩ i u hu;rw[AY W g i _ _ _ ((g3.block g (Ae ast) (hk ⟨_,_,ast⟩ (by decide) (by decide) (by decide) (by decide))).trans ast),←hu];rw[←CB]
 ·rintro E W ⟨Dk,D9,g1,g2,g3,g4,g5⟩;have e:=(g3.block y (Ae hf0.struct) (hk hf0.blk (by decide) (by decide) (by decide) (by decide))).trans hf0.struct;exact⟨⟨.int .i64 F.fault,by rw[AY W y _ _ _ _ e];rfl⟩,Cb W y 6 _ _ e⟩
 ·have hG1:doG [fun E:Dsk×AO=>(((wappend E.1 E.2 G).1,(wappend E.1 E.2 G).2.1),(wappend E.1 E.2 G).2.2)] (D,F.w)=(((wappend D F.w G).1,(wappend D F.w G).2.1),(wappend D F.w G).2.2):=by
   by_cases hr:(wappend D F.w G).2.2=0<;>simp[doG,hr]
  rw[hG1];generalize wappend D F.w G=r at*;rintro e w'⟨rfl,r1,r2⟩;refine⟨rfl,?_⟩;have key:∀ W,(∃ Dk D9,AU W b r.1 Dk∧Bq W x b D9 r.2.1∧A7 (fun k=>fp k∨Ba x gv k) w0 W∧Cg fp Dk w0∧Cg (Ba x gv) (Ba x D9) w0)→∃ fp' Dz,AU W b r.1 fp'∧Ci W y b m x Dz { F with w:=r.2.1 }∧¬ fp' m∧A7 (fun k=>fp k∨k=y∨Ba x gv k) V W∧Cg fp fp' V∧Cg (Ba x gv) (Ba x Dz) V∧W.heap[c2]?=some (.cells #[.pointer (some ⟨y,0,none⟩)] 35):=by
   rintro W⟨Dk,D9,g1,g2,g3,g4,g5⟩;exact⟨Dk,D9,g1,⟨(g3.block y (Ae hf0.struct) (hk hf0.blk (by decide) (by decide) (by decide) (by decide))).trans hf0.struct,hf0.map.upd g3 (fun e=>e.elim ap hf0.QH.2.2),g2,hf0.fits⟩,fun e=>(g4 m e).elim ap (fun e2=>by have:=hf0.map.lt;omega),hbu.trans (g3.mono (fun i hi=>hi.elim .inl (fun e=>.inr (.inr e)))) (fun i hi=>.inl hi),hst g4,hst g5,(g3.block c2 (Ae h20) (hk ⟨_,_,h20⟩ (by decide) (by decide) (by decide) (by decide))).trans h20⟩
  by_cases hr:r.2.2=0
  ·obtain⟨Dk,D9,g⟩:=key _ (r1 hr).2;rw[Ac hr];exact⟨Dk,D9,g⟩
  ·obtain⟨W,hW,rfl⟩:=r2 hr;obtain⟨Dk,D9,g1,g2,g3,g4,g5,g6,g7⟩:=key _ hW;rw[Aa hr];have hu:A7 (fun k=>k=y) W (W.setCell ⟨y,6,none⟩ (.int .i64 r.2.2)):=(A7.refl (fun k=>k=y) W).setCell (p:=⟨y,6,none⟩) (.inl rfl) _;exact⟨Dk,D9,g1.upd hu (fun k hk e=>by subst e;exact QU g1 g2 g3 k (.inl rfl) hk),g2.ZQ r.2.2,g3,g4.trans hu (fun i hi=>.inl (.inr (.inl hi))),g5,g6,(hu.block c2 (Ae g7) (fun e=>by subst e;exact Ap.ne ⟨_,_,g7⟩ g2.blk (by decide) rfl)).trans g7⟩
def NA(w:World)(y b m x:Nat)(gv:Value)(fp:Nat→Prop)(r:Dsk×St×Int)(e:Ending)(w':World):Prop:=
 ∃ m',Pz w y b m x gv fp r m' e w'∧(m'=m∨w.heap.size≤m')
section
variable {w:World}{y b m x cap:Nat}{gv:Value}{fp:Nat→Prop}{F:St}{D:Dsk}{a:Option Addr}{l:List Af}
theorem yg{w':World}{e:Ending}{k:Int}(hd:AU w b D fp)(hf:Ci w y b m x gv F)(ap:¬ fp m)(hr:Gl D F l=(D,F,k))(he:e=.returned (.int .i64 k))(hb:Bw w w'):NA w y b m x gv fp (Gl D F l) e w':=by
 rw[hr];exact⟨m,⟨he,fp,gv,hd.below hb,hf.below hb,ap,A7.of_below hb,fun _ h=>.inl h,fun _ h=>.inl h⟩,.inl rfl⟩
theorem yh(hd:AU w b D fp)(hf:Ci w y b m x gv F)(ap:¬ fp m)(hL:D7 w a l)(hlen:l.length≤100000)(hok:∀ c∈l,c.name.length≤maxLen∧c.data.length≤maxLen)(h0:F.fault=0)(asD:l.all Af.may=false):
  Calls prog 32 #[.pointer (some ⟨y,0,none⟩),.slice a l.length cap] w fun e w'=>NA w y b m x gv fp (Gl D F l) e w':=by
 have HD:=Hi hd;have HF:=Hi hf;have hR:Gl D F l=(D,F,2):=by unfold Gl;rw[Aa (by simp[h0]),Ac asD]
 have HR:=Hi hR;have hb0:=(Ad w.heap.size w).alloc (Ab _) (.cells #[.pointer (some ⟨y,0,none⟩)] 35);have HB0:=Hi hb0;obtain⟨_,_,_,_,_,_,c6,_⟩:=(hf.below hb0).cells;have HC:=Hi (xV (cap:=cap) (hL.below hb0) (by omega) hok);rw[asD] at HC;rw[h0] at c6;clear hd hf hR hb0 h0 hL hok asD;go_enter func32,ntmps32;go_wp2_with fail;refine HC.mono ?_;rintro e w1⟨rfl,hb⟩;have HB1:=Hi (HB0.trans (hb.mono HB0.size));clear hb;go_wp2_with fail;go_ret;exact yg HD HF ap HR rfl HB1.out
theorem yj(hd:AU w b D fp)(hf:Ci w y b m x gv F)(ap:¬ fp m)(hL:D7 w a l)(hlen:l.length≤100000)(hok:∀ c∈l,c.name.length≤1000000∧c.data.length≤maxLen)(aBS:Fil.Good F.m)(EJ:used (made F.m l)≤1000000000)(QP:F.m.length≤1000000000)(hsz:F.size≤8192)(ast:rowLen (group l)≤1000000)(EX:D.loose.length≤300000000)(hgl:F.w.groups.length≤1000000)
  (h0:F.fault=0)(asD:l.all Af.may=true):
  Calls prog 32 #[.pointer (some ⟨y,0,none⟩),.slice a l.length cap] w fun e w'=>NA w y b m x gv fp (Gl D F l) e w':=by
 have HD:=Hi hd;have HF:=Hi hf;have HL:=Hi hL;have Es:=Hi hok
 have HR:Hid (Gl D F l=if F.room < used (made F.m l) then(D,F,4) else
   if F.fits (group l)=true then
    if(wappend D F.w (group l)).2.2=0 then((wappend D F.w (group l)).1,{ F with m:=made F.m l,w:=(wappend D F.w (group l)).2.1 },0)
    else((wappend D F.w (group l)).1,{ F with w:=(wappend D F.w (group l)).2.1,fault:=(wappend D F.w (group l)).2.2 },(wappend D F.w (group l)).2.2)
   else JH D F (made F.m l)):=Hi (by unfold Gl;rw[Aa (by simp[h0]),Aa (by simp[asD])])
 have hb0:=(Ad w.heap.size w).alloc (Ab _) (.cells #[.pointer (some ⟨y,0,none⟩)] 35);have HB0:=Hi hb0;have Io:=Hi (Aq w (.cells #[.pointer (some ⟨y,0,none⟩)] 35));obtain⟨_,_,_,_,_,_,c6,_⟩:=(hf.below hb0).cells;have HC:=Hi (xV (cap:=cap) (hL.below hb0) (by omega) (fun c hc=>⟨Ah (hok c hc).1 (by unfold maxLen;omega),(hok c hc).2⟩));rw[asD] at HC;rw[h0] at c6;have HG:=Hi (show Fil.Good (made F.m l) from aBS.made hf.map.1 (Kl.1 asD));have H0:=Hi h0;clear hd hf hb0 h0 hL hok asD;go_enter func32,ntmps32;go_wp2_with fail;refine HC.mono ?_;rintro e w1⟨rfl,hb⟩;have HB1:=Hi (HB0.trans (hb.mono HB0.size));have hc2:=(hb.block w.heap.size (Ae Io)).trans Io.out;have JI:=Hi hc2;have c0:=Fe hc2;have hf1:=HF.below HB1.out;obtain⟨_,_,_,_,c4,_,_,_⟩:=hf1.cells;obtain⟨es,clock,hes,hcl⟩:=hf1.map.aiz;have NB:=Hi hes;have D6:=Hi hcl;clear hb hc2 c6 HC hf1 hes hcl;go_wp2_with fail;refine(fclone_any _ m es clock NB).mono ?_;rintro e w2⟨rfl,rfl⟩;have UH:w.heap.size < w1.heap.size:=Ae JI.out;have Bj:Bw w1 (w1.alloc (.map es clock)):=(Ad _ _).alloc (Ab _) _;have HB2:=Hi (HB1.trans (Bj.mono HB1.size));have HL2:=Hi (HL.below HB2);have jM:=Hi ((Bj.block w.heap.size UH).trans JI);have hmv:w.heap.size≤w1.heap.size:=HB1.size;clear c0 c4 JI HB1;generalize w1.heap.size=mv at*;generalize w1.alloc (.map es clock)=w2 at*;clear Bj;go_wp2_with fail;refine(ja (cap:=cap) D6 HL2 (by omega) (by omega) (fun c hc=>Ah (Es c hc).1 (by unfold maxLen;omega))).mono ?_;rintro e w3⟨rfl,Od,hu3⟩;have QV:=Hi Od
 have HB3:=Hi (Bu HB2 hu3 (fun k e=>by subst e;exact hmv) HB2.size);have hc3:=(hu3.block w.heap.size (Ae jM) (by omega)).trans jM.out;have QL:=Hi hc3;have c0:=Fe hc3;clear Od hu3 hc3;have yl:=Hi (HF.below HB3);have EB:=Hi ((Ad w3.heap.size w3).drew);have DL:=Hi (ahi (QV.below EB) EJ);have K0:=Hi (fun(V:World) (h:Bw w3 V)=>(h.cell (p:=⟨w.heap.size,0,none⟩) (Ae QL)).trans c0);have jN:=Hi (yl.below EB);by_cases aw8:F.room < used (made F.m l)
 ·have HR1:=Hi (HR.trans (Ac aw8));have hq:(F.room:Int) < (used (made F.m l):Int):=by omega
  clear aw8 HR;have PD:=Hi (fun(V:World) (h:Below w3.drew.heap.size w3.drew V)=>vZ (jN.below h));generalize used (made F.m l)=U at*;generalize F.room=R at*;go_wp2_with fail
  go_region_held3 (fun V=>V.cell? ⟨w.heap.size,0,none⟩=some (.pointer (some ⟨y,0,none⟩)))
   (first|exact K0 _ EB|exact K0 _ Ay)
   (first
    |(go_at_call 95;refine DL.mono ?_;rintro e w4 ⟨rfl,hb4⟩;have Ch:=Hi hb4;have Ay:=Hi (EB.trans (hb4.mono EB.size));clear hb4)
    |(go_at_call 96;refine(PD _ Ch).mono ?_;rintro e w5 ⟨rfl,rfl⟩))
  all_goals
   go_wp2_with fail;go_ret;exact yg HD HF ap HR1 rfl (HB3.trans (Ay.mono HB3.size))
 ·have HR1:=Hi (HR.trans (Aa aw8));have hq:¬ F.room < used (made F.m l):=aw8;have PE:used (made F.m l)≤1000000:=by unfold St.room at aw8;omega
  have ym:=Hi PE;clear aw8 HR PE;have PD:=Hi (fun(V:World) (h:Below w3.drew.heap.size w3.drew V)=>vZ (jN.below h));generalize hA:made F.m l=A at*;generalize hU:used A=U at*;generalize F.room=R at*;go_wp2_with fail
  go_region_held3 (fun V=>V.cell? ⟨w.heap.size,0,none⟩=some (.pointer (some ⟨y,0,none⟩)))
   (first|exact K0 _ EB|exact K0 _ Ay)
   (first
    |(go_at_call 95;refine DL.mono ?_;rintro e w4 ⟨rfl,hb4⟩;have Ch:=Hi hb4;have Ay:=Hi (EB.trans (hb4.mono EB.size));clear hb4)
    |(go_at_call 96;refine(PD _ Ch).mono ?_;rintro e w5 ⟨rfl,rfl⟩))
  have BG:=Hi (HB3.trans (Ay.mono HB3.size));have Ei:=Hi (QV.below Ay);have jO:=Hi ((Ay.block w.heap.size (Ae QL)).trans QL);have UJ:=Hi (HL.below BG);clear Ch Ay PD jN K0 DL EB yl QL HB3 QV c0 HL2;go_wp2_with fail;refine(ahU (cap:=cap) UJ (by omega) (fun c hc=>(Es c hc).1)).mono ?_;rintro e w6⟨q6,cap6,rfl,EK,hb6⟩;have UD:=vF l;clear hq;generalize group l=G at*;obtain⟨q,arc,e6,hx6⟩:=Zo EK;injection e6 with e6a e6b e6c
  subst e6a e6c;have yn:=Hi hx6
  have NC:=Hi (show ∀ p,q6=some p→w4.heap.size≤p.block from fun p hp=>by
   rcases EK.2 with⟨e1,_⟩|⟨g,c2,cur,e1,auJ,_⟩
   ·rw[hp] at e1;simp at e1
   ·rw[hp] at e1;injection e1 with e1;injection e1 with e1;subst e1;exact auJ)
  have Bj:Bw w6 (w6.alloc (.cells #[.slice q6 G.length cap6] 27)):=(Ad _ _).alloc (Ab _) _;have ZX:=hb6.trans (Bj.mono hb6.size);have CX:=Hi (BG.trans (ZX.mono BG.size));have jP:=Hi ((ZX.block w.heap.size (Ae jO)).trans jO);have yo:=Hi (Ei.below ZX);have jQ:=Hi (yn.below Bj);have jR:=Aq w6 (.cells #[.slice q6 G.length cap6] 27);have jS:=Hi jR;have hcc:w.heap.size≤w6.heap.size:=Ah BG.size hb6.size;have c6:=Fe jR;have yt:=Hi (show ∀ p,q6=some p→w.heap.size≤p.block from fun p hp=>Ah BG.size (NC p hp));have yu:=Hi (ahx G q6 cap6 _ jQ (by unfold maxLen;omega) (by omega))
  have ava:=Hi (show ∀ k,w.heap.size≤k→¬ (fp k∨k=y∨Ba x gv k) from fun k hk e=>by
   have h1:=HD.lt k;have h2:=HF.lt k;rcases e with e|e|e
   ·have:=h1 e;omega
   ·have:=h2 (.inl e);omega
   ·have:=h2 (.inr (.inr e));omega)
  clear Bj ZX hb6 EK hx6 yn NC jR BG jO Ei UJ jM D6 NB HB2 e6b;have ard:G.length≤200000:=by omega
  clear UD;go_wp2_with fail;refine yu.mono ?_;rintro e w8⟨rfl,G7⟩;have JQ:=Hi (CX.trans (G7.mono CX.size));have UM:=Hi ((G7.block w.heap.size (Ae jP)).trans jP);have Oi:=Hi (yo.below G7);have HX8:=Hi (jQ.below G7);have yw:=Hi ((G7.block w6.heap.size (Ae jS)).trans jS);clear G7 CX jP yo jQ jS yu c6;generalize w6.heap.size=jT at*;have yx:=Hi (HF.below JQ);have c2:=Fe UM.out;obtain⟨_,_,_,_,_,c5,_,_⟩:=yx.cells;cases hge:Wal.EU G with
  |none=>
   have HR2:=Hi (HR1.trans (Aa (by unfold St.fits;rw[hge];simp)));have hv:Gi G=([],5):=(by unfold Gi;rw[hge]);rw[hv];clear hge hv HR1;have IX:=JQ;have Ot:=UM;have MB:=Oi;clear c5 c2;have WW:=Hi (HD.below IX);have WX:=Hi (HF.below IX);have hlm:=yf D F A;have axz:=y9 WW WX ap MB HG (by rw[hU];exact ym.out) EX;have c2:=Fe Ot.out;obtain⟨D1,F1,k1,hr⟩:∃ D1 F1 k1,JH D F A=(D1,F1,k1):=⟨_,_,_,rfl⟩;rw[hr] at hlm axz HR2;have jU:=Hi axz;have WY:=Hi (show F1.m=if k1=0 then A else F.m from hlm);clear hlm axz hr;go_wp2_with fail;refine jU.mono ?_;rintro e F4⟨rfl,Dk,D9,g1,g2,g3,g4,g5,g6⟩;have WZ:=(g4.block w.heap.size (Ae Ot) (ava _ (Ab _))).trans Ot.out;have X0:=Hi (MB.upd g4 (ava _ hmv));have c2:=Fe WZ;have Fx:=Hi g1;have HG2:=Hi (show Ci F4 y b m x D9 { F1 with m:=F.m } from g2);have Fb:=Hi g3;have FW:=Hi ((A7.of_below (F:=fun k=>fp k∨k=y∨Ba x gv k) IX).trans g4 (fun i hi=>.inl hi));have X3:=Hi g5;have FX:=Hi (show Cg fp Dk w from fun i hi=>(g5 i hi).imp id (fun e=>Ah IX.size e));have QW:=Hi (show Cg (Ba x gv) (Ba x D9) w from fun i hi=>(g6 i hi).imp id (fun e=>Ah IX.size e));obtain⟨_,_,_,_,c4,_,_,cf⟩:=HG2.cells;have Zb:=cf 4;clear g1 g2 g3 g4 g5 g6 cf WZ;by_cases h0:k1=0
   ·subst h0;have ND:{ ({ F1 with m:=F.m }:St) with m:=A }=F1:=(by have:=WY.out;rw[Ac rfl] at this;rw[←this]);have Ou:=Hi ND;clear ND;go_wp2_with fail;go_ret;unfold NA Pz;rw[HR2.out];have hu:A7 (fun k=>k=y) F4 (F4.setCell ⟨y,4,none⟩ (.map (some mv))):=(A7.refl (fun k=>k=y) F4).setCell (p:=⟨y,4,none⟩) (.inl rfl) _;refine⟨mv,⟨rfl,Dk,D9,Fx.upd hu (fun k hk e=>by subst e;exact QU Fx HG2 Fb k (.inl rfl) hk),?_,fun e=>(X3 mv e).elim (fun f=>ava _ hmv (.inl f)) (fun f=>by have:=MB.lt;omega),FW.trans hu (fun i hi=>.inl (.inr (.inl hi))),FX.out,QW.out⟩,.inr hmv⟩;have:=HG2.jL X0.out;rwa[Ou.out] at this
   ·have hb1:(k1 == 0)=false:=(by simp[h0]);have ND:({ F1 with m:=F.m }:St)=F1:=(by have:=WY.out;rw[Aa h0] at this;rw[←this]);have Ou:=Hi ND;clear ND h0;go_wp2_with fail;go_ret;unfold NA Pz;rw[HR2.out];exact⟨m,⟨rfl,Dk,D9,Fx,by rw[←Ou.out];exact HG2.out,Fb,FW,FX,QW⟩,.inl rfl⟩
  |some s=>
   have hv:Gi G=(s,0):=(by unfold Gi;rw[hge]);rw[hv];have PD:=Hi (fun(V:World) (h:Bw w8 V)=>ahv (yx.Cy.below h));by_cases au7:s.length / 64≤F.w.n -1 -F.w.used
   ·have HR2:=Hi (HR1.trans (Ac (by unfold St.fits;rw[hge];simp[au7])));have hq:¬ F.w.n -1 -F.w.used < s.length / 64:=(by omega);clear hge hv HR1 au7;generalize s.length / 64=N at*;generalize F.w.n -1 -F.w.used=N2 at*;go_wp2_with fail;refine(PD _ (Ad _ _)).mono ?_;rintro e w9⟨rfl,Eu⟩;have IX:=Hi (JQ.trans (Eu.mono JQ.size));have Ot:=Hi ((Eu.block w.heap.size (Ae UM)).trans UM);have MB:=Hi (Oi.below Eu);have HX9:=Hi (HX8.below Eu);have H69:=Hi ((Eu.block jT (Ae yw)).trans yw);clear Eu PD c5 c2;have WW:=Hi (HD.below IX);have WX:=Hi (HF.below IX);have hcw:¬ Ba x gv jT:=fun e=>ava jT hcc (.inr (.inr e))
    have azt:=aiY WW WX ap Ot H69 hcw HX9 (fun p hp _=>⟨fun e=>ava _ (yt p hp) (.inl e),fun e=>ava _ (yt p hp) (.inr (.inr e))⟩) (by omega) ast (by omega) hgl 0;have c2:=Fe Ot.out;obtain⟨D1,L1,k1,hr⟩:∃ D1 L1 k1,wappend D F.w G=(D1,L1,k1):=⟨_,_,_,rfl⟩;rw[hr] at azt HR2;have ZU:=Hi azt;clear azt hr hcw;go_wp2_with fail;refine ZU.mono ?_;rintro e F4⟨rfl,Dk,D9,g1,g2,g3,g4,g5,g6,g7⟩;have X0:=Hi (MB.upd g4 (ava _ hmv));have c2:=Fe g7;have Fx:=Hi g1;have Fb:=Hi g3;have HG2:=Hi (show Ci F4 y b m x D9 { F with w:=L1,fault:=if k1=0 then F.fault else k1 } from g2);have FW:=Hi ((A7.of_below (F:=fun k=>fp k∨k=y∨Ba x gv k) IX).trans g4 (fun i hi=>.inl hi));have X3:=Hi g5;have FX:=Hi (show Cg fp Dk w from fun i hi=>(g5 i hi).imp id (fun e=>Ah IX.size e));have QW:=Hi (show Cg (Ba x gv) (Ba x D9) w from fun i hi=>(g6 i hi).imp id (fun e=>Ah IX.size e));obtain⟨_,_,_,_,c4,_,_,cf⟩:=HG2.cells;have Zb:=cf 4;clear g1 g2 g3 g4 g5 g6 g7 cf;by_cases h0:k1=0
    ·subst h0;have HR3:=Hi (HR2.trans (Ac rfl));clear HR2;go_wp2_with fail;go_ret;unfold NA Pz;rw[HR3.out];have hu:A7 (fun k=>k=y) F4 (F4.setCell ⟨y,4,none⟩ (.map (some mv))):=(A7.refl (fun k=>k=y) F4).setCell (p:=⟨y,4,none⟩) (.inl rfl) _;exact⟨mv,⟨rfl,Dk,D9,Fx.upd hu (fun k hk e=>by subst e;exact QU Fx HG2 Fb k (.inl rfl) hk),HG2.jL X0.out,fun e=>(X3 mv e).elim (fun f=>ava _ hmv (.inl f)) (fun f=>by have:=MB.lt;omega),FW.trans hu (fun i hi=>.inl (.inr (.inl hi))),FX.out,QW.out⟩,.inr hmv⟩
    ·have hb1:(k1 == 0)=false:=(by simp[h0]);have HR3:=Hi (HR2.trans (Aa h0));have aj5:Hid (Ci F4 y b m x D9 { F with w:=L1,fault:=k1 }):=Hi (by have:=HG2.out;rwa[Aa h0] at this);clear HR2 h0;go_wp2_with fail;go_ret;unfold NA Pz;rw[HR3.out];exact⟨m,⟨rfl,Dk,D9,Fx,aj5,Fb,FW,FX,QW⟩,.inl rfl⟩
   ·have HR2:=Hi (HR1.trans (Aa (by unfold St.fits;rw[hge];simp[au7])));have hq:F.w.n -1 -F.w.used < s.length / 64:=(by omega);clear hge hv HR1 au7;generalize s.length / 64=N at*;generalize F.w.n -1 -F.w.used=N2 at*;go_wp2_with fail;refine(PD _ (Ad _ _)).mono ?_;rintro e w9⟨rfl,Eu⟩;have IX:=Hi (JQ.trans (Eu.mono JQ.size));have Ot:=Hi ((Eu.block w.heap.size (Ae UM)).trans UM);have MB:=Hi (Oi.below Eu);clear Eu PD c5 c2;have WW:=Hi (HD.below IX);have WX:=Hi (HF.below IX);have hlm:=yf D F A;have axz:=y9 WW WX ap MB HG (by rw[hU];exact ym.out) EX;have c2:=Fe Ot.out;obtain⟨D1,F1,k1,hr⟩:∃ D1 F1 k1,JH D F A=(D1,F1,k1):=⟨_,_,_,rfl⟩;rw[hr] at hlm axz HR2;have jU:=Hi axz;have WY:=Hi (show F1.m=if k1=0 then A else F.m from hlm);clear hlm axz hr;go_wp2_with fail;refine jU.mono ?_;rintro e F4⟨rfl,Dk,D9,g1,g2,g3,g4,g5,g6⟩;have WZ:=(g4.block w.heap.size (Ae Ot) (ava _ (Ab _))).trans Ot.out;have X0:=Hi (MB.upd g4 (ava _ hmv));have c2:=Fe WZ;have Fx:=Hi g1;have HG2:=Hi (show Ci F4 y b m x D9 { F1 with m:=F.m } from g2);have Fb:=Hi g3;have FW:=Hi ((A7.of_below (F:=fun k=>fp k∨k=y∨Ba x gv k) IX).trans g4 (fun i hi=>.inl hi));have X3:=Hi g5;have FX:=Hi (show Cg fp Dk w from fun i hi=>(g5 i hi).imp id (fun e=>Ah IX.size e));have QW:=Hi (show Cg (Ba x gv) (Ba x D9) w from fun i hi=>(g6 i hi).imp id (fun e=>Ah IX.size e));obtain⟨_,_,_,_,c4,_,_,cf⟩:=HG2.cells;have Zb:=cf 4;clear g1 g2 g3 g4 g5 g6 cf WZ;by_cases h0:k1=0
    ·subst h0;have ND:{ ({ F1 with m:=F.m }:St) with m:=A }=F1:=(by have:=WY.out;rw[Ac rfl] at this;rw[←this]);have Ou:=Hi ND;clear ND;go_wp2_with fail;go_ret;unfold NA Pz;rw[HR2.out];have hu:A7 (fun k=>k=y) F4 (F4.setCell ⟨y,4,none⟩ (.map (some mv))):=(A7.refl (fun k=>k=y) F4).setCell (p:=⟨y,4,none⟩) (.inl rfl) _;refine⟨mv,⟨rfl,Dk,D9,Fx.upd hu (fun k hk e=>by subst e;exact QU Fx HG2 Fb k (.inl rfl) hk),?_,fun e=>(X3 mv e).elim (fun f=>ava _ hmv (.inl f)) (fun f=>by have:=MB.lt;omega),FW.trans hu (fun i hi=>.inl (.inr (.inl hi))),FX.out,QW.out⟩,.inr hmv⟩;have:=HG2.jL X0.out;rwa[Ou.out] at this
    ·have hb1:(k1 == 0)=false:=(by simp[h0]);have ND:({ F1 with m:=F.m }:St)=F1:=(by have:=WY.out;rw[Aa h0] at this;rw[←this]);have Ou:=Hi ND;clear ND h0;go_wp2_with fail;go_ret;unfold NA Pz;rw[HR2.out];exact⟨m,⟨rfl,Dk,D9,Fx,by rw[←Ou.out];exact HG2.out,Fb,FW,FX,QW⟩,.inl rfl⟩
end
end
end Go.Proofs.YtmbbhdebddbhoaaGreat
