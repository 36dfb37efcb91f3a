/- DepS -/
import Derived.Test.YtmbbhdebddbhoaaGreatQ35
set_option maxHeartbeats 8000000
set_option maxRecDepth 100000
set_option linter.all false
namespace Go.Proofs.YtmbbhdebddbhoaaGreat
open Tryz
namespace Man
open Go.RowKit Go.Maps Go.Sort Go.Shelf Go.Lib
open Wal Fil
theorem WL(w:World)(p:Option Addr)(n c:Nat):(binOp .eql 27 (.slice p n c) (.slice none 0 0)).run prog w=.ok (.bool p.isNone) w:=by
 have h:∀ d,(Op.equalIn (d+1) 27 (.slice p n c) (.slice none 0 0)).run prog w=.ok p.isNone w:=fun d=>by
  cases p<;>simp[Op.equalIn,ER underlying27]
 simp only[binOp];simp[show Op.equal 27 (.slice p n c) (.slice none 0 0)=Op.equalIn (9999+1) 27 (.slice p n c) (.slice none 0 0) from rfl,h 9999]
theorem iO(w:World):(w.alloc (.cells #[] 9)).ownsRow w.heap.size 9 1 (.slice (some ⟨w.heap.size,0,none⟩) 0 0) 0 []:=
 ⟨by rfl,.inr ⟨w.heap.size,0,#[],rfl,Ab _,Aq w _,Ab _,Ar _,rfl,by rfl⟩⟩
theorem ant{w:World}{q:Option Addr}{cap:Nat}{l:List T}(h:BB w q l)(hq:q=none→cap=0)(hl:l.length≤1000000):
  Calls prog 114 #[.slice q l.length cap] w fun e w'=>∃ v',e=.returned v'∧AQ w' w.heap.size v' l∧(v'=.slice none 0 0→l=[])∧Bw w w':=by
 obtain⟨i0,hi0,hz0,hz1,hz2⟩:=Cz Nr;cases q with
 |none=>
  obtain rfl:cap=0:=hq rfl;have hl0:l=[]:=by
   cases l with
   |nil=>rfl
   |cons x l=>obtain⟨p,e,_⟩:=h 0 (by simp);cases e
  subst hl0;have hqe:=fun w=>WL w none 0 0
  clear h;go_enter func114,ntmps114;go_wp2_with fail;go_ret;exact⟨_,rfl,by unfold AQ;rw[GD];exact DJ _ _ _ _,by first|exact⟨fun _=>rfl,Ad _ _⟩|exact Ad _ _⟩
 |some p=>
  have HH:=Hi (h.below (Am w (.cells #[] 9)));have hqe:=fun w=>WL w (some p) l.length cap
  clear h hq;go_enter func114,ntmps114
  go_wp2_with (at_builtin;refine wpList_append_own_at _ rfl _ _ 27 rfl w.heap.size 9 i0 _ 1 16 underlying27 hi0 hz0 hz1 hz2 rfl (by decide) _ 0 [] rfl (iO w) p l.length cap (strCells l) rfl (by rw[strCells_length,Nat.mul_one]) (fun j u hj=>by
   have hjl:j < l.length:=by
    have:=(Ql.1 hj).1;rwa[strCells_length] at this
   rw[QA l j hjl] at hj;obtain⟨p2,hp,hc⟩:=HH j hjl;cases hp;rw[hc,←hj]) (gL _) (by unfold maxLen;omega) (by omega) (by rw[Ai];omega) ?_;intro v' w1 hown asx hne hat)
  go_ret;refine⟨v',rfl,by unfold AQ;rw[Fs,DI] at hown;exact hown,fun e=>?_,(Am w _).grown asx (by rw[Ai];omega) (fun k e=>?_)⟩
  ·rw[Fs] at hown;rcases hown.2 with⟨e1,e2⟩|⟨g,c2,cur,e1,_⟩
   ·exact IL.1 e2
   ·rw[e] at e1;injection e1 with e1;cases e1
  ·have e':some w.heap.size=some k:=e;have:=EH e';omega
theorem anu{w:World}{q0:Option Addr}{c0:Nat}{l:List (List UInt8)}(h:BB w q0 l)(hq0:q0=none→c0=0)(hl:l.length≤1000000):
  Calls prog 42 #[.slice q0 l.length c0] w fun e w'=>∃ v',e=.returned v'∧AQ w' w.heap.size v' (Az l)∧Bw w w':=by
 have HC:=Hi (ant h hq0 hl);clear h hq0;go_enter func42,ntmps42;go_wp2_with fail;refine HC.mono ?_;rintro e w1⟨v1,rfl,ho1,hn1,hb1⟩;rcases ho1.parts with⟨rfl,rfl⟩|⟨g,cap,rfl,hg,hlc,hcm,hgs⟩
 ·have HB1:=Hi hb1;clear ho1 hn1 hb1;go_wp2_with fail;refine(AnyM.slices_Sort_string_none Ux none 0 _).mono ?_;rintro e w2⟨rfl,rfl⟩;go_wp2_with fail;refine(Any.slices_Compact_string_empty af none 0 _).mono ?_;rintro e w3⟨rfl,rfl⟩;go_wp2_with fail;go_ret;exact⟨_,rfl,by unfold AQ;rw[show Az []=[] by simp[Az,Lib.compact,Lib.compactUpTo],GD];exact DJ _ _ _ _,HB1⟩
 ·have NS:=ho1;unfold AQ at NS;rw[GD] at NS;obtain⟨g2,cap2,e2,_,_,_,_,_,hH⟩:=holds_of_ownsRow NS (by simp);cases e2;have Cq:=Hi NS;have HB1:=Hi hb1;have HH:=Hi hH;clear ho1 NS hn1 hb1 hH;go_wp2_with fail;refine(AnyM.slices_Sort_string Ux g 0 cap l _ HH hgs (by omega)).mono ?_;rintro e w2⟨rfl,n,os,rfl⟩;have hsl:(l.mergeSort fun x y=>decide (x≤y)).length=l.length:=by simp
  have ho2:=ownsRow_putRow (q:=n) Cq hsl (Ab _);have hb2:=below_putRow (q:=n) (enc:=encStr) (d:=(l.mergeSort fun x y=>decide (x≤y)).toArray) HB1 hg;have ho3:=AL ho2 (ub (below_grow (Ad _ _) (Ab _) os)) (fun _ _ f=>f);have hb3:=below_grow hb2 hb2.size os;clear ho2 hb2;rw[ET (by rw[hsl];omega)] at ho3;obtain⟨S,OG⟩:∃ S,(l.mergeSort fun x y=>decide (x≤y))=S:=⟨_,rfl⟩;have hR:Hid (Az l=Lib.compact S):=Hi (by unfold Az;rw[OG]);rw[OG] at ho3 hb3 hsl ⊢;generalize Go.Sort.grow (Go.Sort.putRow encStr (Sort.ahead w1 n) g 0 S.toArray) os=w3 at*;obtain⟨g3,bR,e3,_,_,_,_,_,hH3⟩:=holds_of_ownsRow ho3 (by simp);cases e3;have axs:=Any.slices_Compact_string af g 0 cap S w3 hH3 (by omega) (by omega);rw[←hsl] at ho3;rw[show(kC.f 194)=116 from rfl,hsl] at axs;have mQ:=Hi axs;have K7:=Hi ho3;have HB3:=Hi hb3;have HH3:=Hi hH3;clear ho3 hb3 hH3 axs;go_wp2_with fail;refine mQ.mono ?_;rintro e w4⟨rfl,q,rfl⟩;rw[←hsl];have hcl:=compact_length_le S;have TG:=ownsRow_putRow (q:=q) (k:=(Lib.compact S).length) K7 (ys:=Lib.compact S++List.replicate (S.length -(Lib.compact S).length) []) (by simp;omega) hcl;have hb4:=below_putRow (q:=q) (enc:=encStr) (d:=(Lib.compact S++List.replicate (S.length -(Lib.compact S).length) []).toArray) HB3 hg;rw[Gf rfl] at TG;generalize Go.Sort.putRow encStr (Sort.ahead w3 q) g 0 (Lib.compact S++List.replicate (S.length -(Lib.compact S).length) []).toArray=w4 at*;have mR:=Hi TG;have Ay:=Hi hb4;clear TG hb4;go_wp2_with fail;go_ret;refine⟨_,rfl,?_,Ay⟩;unfold AQ;rw[hR.out,GD]
  exact mR.out
end Man
section
open Go.RowKit Go.Maps Wal
theorem pV:∀ {l:List (List UInt8)} {S:List UInt8},textsE l=some S→S.length≤l.length*65537
 |[],S,h=>by
  simp only[textsE,Bt] at h;subst h;exact Ab _
 |x :: l,S,h=>by
  simp only[textsE] at h;cases h1:CO x with
  |none=>rw[h1] at h;cases h
  |some y=>
   cases h4:textsE l with
   |none=>rw[h1,h4] at h;cases h
   |some z=>
    rw[h1,h4] at h;simp only[BI,Dm,Bt] at h;subst h;have:=pV h4;unfold CO at h1;split at h1
    ·simp only[Bt] at h1;subst h1;have hl2:(Crc.le 2 x.length).length=2:=Crc.Be _ _;simp only[Aj,AX,hl2];omega
    ·cases h1
theorem anv(l:List (List UInt8))(a:Option Addr)(cap:Nat)(w:World)(hl:BB w a l)(hlen:l.length≤maxLen)(IG:l.length≤10000):
  Calls prog 79 #[.slice a l.length cap] w fun e w'=>e=.returned (.tuple #[.string (bs (BK l).1),.int .i64 (BK l).2])∧Bw w w':=by
 unfold maxLen at hlen;by_cases azu:65535 < l.length
 ·have hR:Hid (BK l=([],5)):=Hi (by unfold BK Er;rw[Aa (by omega)]);rw[hR.out];clear hl;go_enter func79,ntmps79;go_wp2_with fail;all_goals
   go_ret2;exact⟨rfl,Ad _ _⟩
 ·have HL:=Hi hl;have hb0:Bw w (w.alloc (.cells #[.pointer none,.slice none 0 0] 234)):=(Ad _ w).alloc (Ab _) _;have HB0:=Hi hb0;have Ch:=Hi (CW.made w);clear hl hb0;go_enter func79,ntmps79;go_wp2_with fail;refine(Wd l.length 2 _ (by decide)).mono ?_;rintro e w1⟨rfl,hb⟩;have hbu:=Ch.upd (ub hb) (fun _ _ f=>f);have Li:=Hi hbu;have HB1:=Hi (HB0.trans (hb.mono (by rw[Ai];omega)));clear hb hbu;go_wp2_with fail;refine(QC Li (Crc.le 2 l.length) (by simp[Crc.Be])).mono ?_;rintro e w2⟨rfl,fp2,h1,h2,h3⟩;rw[DI] at h1;have hfp:∀ q,fp2 q→w.heap.size≤q:=fun q hq=>by
   rcases h3 q hq with h|h
   ·rcases h with h|h
    ·omega
    ·simp[Value.ownBlock] at h
   ·have:=HB1.size;omega
  have HB2:=Hi (Bu HB1 h2 (fun i hi=>by rcases hi with h|h;omega;simp[Value.ownBlock] at h) HB1.size);have Kr:=Hi h1;have Dw:=Hi hfp;clear h1 h2 h3 hfp;go_wp2_with fail
  go_loopw [19] (fun i wr=>∃ (k:Nat) (S:List UInt8) (fp:Nat→Prop),k≤l.length∧i=.int .i64 k∧textsE (l.take k)=some S∧CW wr w.heap.size (Crc.le 2 l.length++S) fp∧(∀ q,fp q→w.heap.size≤q)∧Bw w wr) (fun i _=>l.length -(intOf i).toNat)
  case atStart=>exact⟨0,[],fp2,by omega,rfl,rfl,by rw[E8];exact Kr.out,Dw,HB2⟩
  case round=>
   clear Ch Li Kr HB0 HB1 HB2 Dw;obtain⟨k,S,fp,hk,rfl,hS,hbu,hfp,hb⟩:=hrel;have HS:=Hi hS;have Ch:=Hi hbu;have Dw:=Hi hfp;have HB:=Hi hb;clear hS hbu hfp hb;by_cases hlt:k < l.length
   ·obtain⟨q,au8,hq⟩:=(HL.below HB).index cap k hlt;have hl2:=pV HS.out;rw[Aw] at hl2;have GV:=Hi (gU hlt HS);by_cases avb:65535 < l[k].length
    ·have hR:Hid (BK l=([],5)):=Hi (by unfold BK Er;rw[Ac (by omega),Zf hlt avb];rfl);clear hl2;generalize l[k]=x at*;go_wp2_with fail;refine(gQ x _ avb).mono ?_;rintro e w3⟨rfl,rfl⟩;go_wp2_with fail;go_ret2;rw[hR.out];exact⟨rfl,HB⟩
    ·have hxl:l[k].length≤65535:=(by omega);have hle:S.length+l[k].length≤1000000000:=(by have:=Kj 65537 (show min k l.length≤10000 by omega);omega);clear hl2 avb;generalize l[k]=x at*;go_wp2_with fail;refine(gP x _ hxl).mono ?_;rintro e w3⟨rfl,hb3⟩;have O8:=Hi (Ch.upd (ub hb3) (fun _ _ f=>f));have HB3:=Hi (HB.trans (hb3.mono HB.size));clear hb3 hq;go_wp2_with fail;refine(QC O8 (Crc.le 2 x.length++x) (by simp[Crc.Be];omega)).mono ?_;rintro e w4⟨rfl,Ky,h1,h2,h3⟩;have gV:=Hi h1
     have gW:=Hi (show ∀ q,Ky q→w.heap.size≤q from fun q hq=>by
      rcases h3 q hq with h|h
      ·exact Dw q h
      ·exact Ah HB3.size h)
     have Ay:=Hi (Bu HB3 h2 Dw HB3.size);clear h1 h2 h3;go_wp2_with fail;go_roundw
     case rel=>exact⟨k+1,S++(Crc.le 2 x.length++x),Ky,by omega,by go_num,by rw[GV.out];unfold CO;rw[Ac hxl];rfl,by rw[←Cw];exact gV.out,gW,Ay⟩
     case measure=>simp[intOf];omega
   ·obtain rfl:k=l.length:=(by omega);go_wp2_with fail;refine(Qs Ch).mono ?_;rintro e w3⟨rfl,hu⟩;have HB3:=Hi (Bu HB hu Dw HB.size)
    have hR:Hid (BK l=(Crc.le 2 l.length++S,0)):=Hi (by
     have h:=HS.out;rw[Ck] at h;unfold BK Er;rw[Ac (by omega),h];rfl)
    clear hu;go_wp2_with fail;go_ret2;rw[hR.out];exact⟨rfl,HB3⟩
end
namespace Dep
open Go.RowKit Go.Maps
open Wal Fil Man Prs Kp BH Hex Sha Al Mem
structure TW(w:World)(q:Addr)(u:T×List T):Prop where
 run:w.cell? q=some (.string (bs u.1))
 keys:∃ kq kc,w.cell? ⟨q.block,q.off+1,none⟩=some (.slice kq u.2.length kc)∧BB w kq u.2∧(kq=none→kc=0)
def IJ(w:World)(a:Option Addr)(l:Us):Prop:=∀ i,(h:i < l.length)→∃ p:Addr,a=some p∧TW w (p.add (i*2)) l[i]
theorem acU:(prog.info? 77).map (fun i=>(i.zero,i.size,i.bytes))=some (some (.agg #[.string ByteArray.empty,.slice none 0 0]),2,40):=by kernel_rfl
section
variable {w w':World}{a:Option Addr}{l:Us}
theorem TW.below{q:Addr}{u:T×List T}(h:TW w q u)(hb:Bw w w'):TW w' q u:=by
 obtain⟨kq,kc,h1,h2,h3⟩:=h.keys;have hlt:=Bz h.run;exact⟨(hb.cell hlt).trans h.run,kq,kc,(hb.cell (p:=⟨q.block,q.off+1,none⟩) hlt).trans h1,h2.below hb,h3⟩
theorem IJ.below(h:IJ w a l)(hb:Bw w w'):IJ w' a l:=fun i hi=>by
 obtain⟨p,e,hp⟩:=h i hi;exact⟨p,e,hp.below hb⟩
theorem IJ.index(h:IJ w a l)(cap k:Nat)(hk:k < l.length):
  ∃ q:Addr,(∀ W,(Instr.indexAt 23 (.slice a l.length cap) (.int .i64 (k:Int))).run prog W=.ok (.pointer (some q)) W)∧TW w q l[k]:=by
 obtain⟨p,rfl,hp⟩:=h k hk;exact⟨_,fun W=>Fw prog _ 77 underlying23 2 (by kernel_rfl) p l.length cap k hk W,hp⟩
end
theorem anw{K:Kind}{lt:M}{L:List (T×M)}(h:Dg K lt L){p:T×T}{l:M}(hl:l=AR K (lt++[p]) (K.nm p.1)):Dg K (lt++[p]) (Dep.putRow L (K.nm p.1) l):=by
 unfold Dep.putRow;refine⟨Hu.2 ⟨fun hm=>?_,List.Sublist.nodup (List.Sublist.map (fun x:T×M=>x.1) (List.filter_sublist (p:=fun x:T×M=>!(x.1 == K.nm p.1)) (l:=L))) h.nodup⟩,fun t=>?_,fun x hx=>?_⟩
 ·obtain⟨x,hx,e⟩:=AV.1 hm;have:=(CU.1 hx).2;simp[e] at this
 ·rw[Bg,AZ,C8,Ee,List.map_singleton,DT];constructor
  ·rintro(e|e)
   ·exact .inr e
   ·obtain⟨x,hx,e2⟩:=AV.1 e;exact .inl ((h.names t).1 (by rw[←e2];exact ES (CU.1 hx).1))
  ·rintro(e|e)
   ·by_cases ht:t=K.nm p.1
    ·exact .inl ht
    ·obtain⟨x,hx,e2⟩:=AV.1 ((h.names t).2 e);refine .inr (AV.2 ⟨x,CU.2 ⟨hx,?_⟩,e2⟩);have e2:x.1=t:=e2;simp[e2,ht]
   ·exact .inl e
 ·rcases AZ.1 hx with rfl|hx
  ·exact hl
  ·obtain⟨h1,h2⟩:=CU.1 hx;have h2:x.1≠K.nm p.1:=(by simpa using h2);rw[Js,Aa (fun e=>h2 e.symm)];exact h.rows x h1
theorem anx{V:World}{o pb:Nat}{q:Option Addr}{c:Nat}{l:M}{pr:T×T}(ho:V.heap[o]?=some (.cells #[.slice q l.length c,.slice (some ⟨pb,0,none⟩) 1 1] 22))(hp:V.heap[pb]?=some (.cells #[.string (bs pr.1),.string (bs pr.2)] 75))(hr:Av V q l)(hq:q=none→c=0)(hc:l.length≤c)(hl:l.length≤1000):
  Calls prog 71 #[.slice (some ⟨o,0,none⟩) 2 2] V fun e w'=>∃ q' c',e=.returned (.slice q' (Hg [l,[pr]]).length c')∧AP w' V.heap.size (.slice q' (Hg [l,[pr]]).length c') (Hg [l,[pr]])∧Bw V w':=by
 have azQ:lM V (some ⟨o,0,none⟩) [l,[pr]]:=by
  intro i hi;have hi2:i < 2:=hi;refine⟨_,rfl,?_⟩;rw[add_plain]
  match i,hi2 with
  |0,_=>exact⟨q,c,cr ho,hr,hq,hc⟩
  |1,_=>
   refine⟨some ⟨pb,0,none⟩,1,cr ho,?_,(fun e=>by cases e),Ab _⟩;intro j hj;obtain rfl:j=0:=(by simpa using hj);refine⟨_,rfl,?_,?_⟩
   ·rw[add_plain,AY _ _ _ _ _ _ hp];rfl
   ·rw[add_plain]
    show V.cell? ⟨pb,0+0*2+1,none⟩=_
    rw[AY _ _ _ _ _ _ hp];rfl
 refine(aaz (cap:=2) azQ (by simp;omega) (by simp)).mono ?_;rintro e w'⟨v,rfl,h1,h2,h3⟩;obtain⟨q',c',rfl,-,-⟩:=Dl h1;exact⟨q',c',rfl,ab9 h1 h3,h2⟩
def pW(w:World)(m:Nat)(l:Us)(i:Value)(wr:World):Prop:=
 ∃ (k:Nat) (L:List (T×M)) (g:T→Value),k≤l.length∧i=.int .i64 (k:Int)∧Ey wr w.heap.size m L g∧Dg A8 (AJ (l.take k)) L∧Bw w wr∧Fits A8 (AJ (l.take k))∧J6 (l.take k)
theorem anz{w:World}{p y:Nat}{A:M}{q:Option Addr}{cap:Nat}{l:Us}{Q:Int→World→Prop}(hm:Ex w p y)(hg:Man.JR w y A)(hno:∀ k,Fil.get A (A8.nm k)=none)(hk:IJ w q l)(hl:l.length≤1000)(hkl:∀ x∈l,x.1.length≤1000000∧x.2.length≤10000)(hsm:∀ j name,Small (AR A8 (AJ (l.take j)) name))
  (hf:∀ W,Bw w W→Calls prog 140 #[.pointer (some ⟨y,0,none⟩)] W fun e w'=>e=.returned (.int .i64 0)∧W=w')
  (h5:¬ (J6 l∧Fits A8 (AJ l))→∀ w',Bw w w'→Q 5 w')
  (hc:J6 l∧Fits A8 (AJ l)→∀ W q c,Bw w W→D7 W q (DF A8 (AJ l))→Calls prog 32 #[.pointer (some ⟨y,0,none⟩),.slice q (DF A8 (AJ l)).length c] W fun e w'=>∃ c,e=.returned (.int .i64 c)∧Q c w'):
  Calls prog 30 #[.pointer (some ⟨p,0,none⟩),.slice q l.length cap] w fun e w'=>∃ c,e=.returned (.int .i64 c)∧Q c w':=by
 have HF:=Hi hf;have H5:=Hi h5;have HC:=Hi hc;have HM:=Hi hm;have HG:=Hi hg;have HK:=Hi hk;have Dc:=Hi hno;have FQ:=Hi hkl;have K8:=Hi hsm;have Vq:=hm.lt;clear hf h5 hc hm hg hk hno hkl hsm;have hmm:=@run_makeMap prog;go_enter func30,ntmps30;go_wp2_with fail;refine(ab6 (P:=fun W w'=>W=w') HM (HF _ (Ad _ _))).mono ?_;rintro e w1⟨rfl,hw1⟩;subst hw1;go_wp2_with fail;have Y6:=Am w (.map #[] 0);have Hq:=Hi (show pW w w.heap.size l (.int .i64 0) (w.alloc (.map #[] 0)) from⟨0,[],fun _=>.slice none 0 0,Ar _,rfl,Ey.made w w.heap.size _ (Ab _),by rw[FJ];exact Dg.nil,Y6,by rw[FJ];exact pR,by rw[FJ];exact fun u hu=>by simp at hu⟩);generalize w.alloc (.map #[] 0)=V at*;clear Y6
 go_loopw [24] (fun i wr=>pW w w.heap.size l i wr) (fun i _=>l.length -(intOf i).toNat)
 case atStart=>exact Hq.out
 case round=>
  obtain⟨k,L,g,hk,rfl,he,hps,hb,hft,hrw⟩:=hrel;have HE:=Hi he;have Rq:=Hi hps;have HB:=Hi hb;have I7:=Hi hft;have TY:=Hi hrw;clear he hps hb hft hrw Hq;by_cases hlt:k < l.length
  ·obtain⟨a,hix,ha⟩:=(HK.below HB).index cap k hlt;have c0:=ha.run;obtain⟨kq,kc,c1,hks,hkq⟩:=ha.keys;have Gh:=Hi (BF hlt);obtain⟨hrl,Q0⟩:=FQ _ Gh.out;have Bo:=Hi (BS hlt);have GV:=Hi (fun name=>K8 (k+1) name);obtain⟨u,hu⟩:=ex (l[k]);rw[hu] at Gh Bo c0 c1 hks hrl Q0;obtain⟨run,keys⟩:=u;clear ha hu;have Bj:=Am wr (.cells #[.string (bs run),.slice kq keys.length kc] 77);have pX:=Hi (Aq wr (.cells #[.string (bs run),.slice kq keys.length kc] 77));have HDR:=Hi (anu (hks.below Bj) hkq (by omega));have Ag:=Hi (HB.trans (Bj.mono HB.size));have MO:=Hi (HE.below Bj);simp only at c0 c1 hrl Q0;clear hks Bj;go_wp2_with fail;refine HDR.mono ?_;rintro e w1⟨v1,rfl,hr1,hb1⟩;obtain⟨rq,rc,rfl⟩:=AA hr1;have aC9:=Ox keys;have Ce:=Hi (anv (Az keys) rq rc w1 (CP hr1) (by unfold maxLen;omega) (by omega));have HB1:=Hi (Ag.trans (hb1.mono Ag.size));have Ef:=Hi (MO.below hb1);have dQ:=Hi ((hb1.block _ (Ae pX)).trans pX);obtain⟨ub,hub⟩:=ex (wr.heap.size);rw[hub] at dQ;have arT:w.heap.size≤ub:=(by rw[←hub];exact HB.size);clear hr1 hb1 Ag MO pX HDR hix c0 c1;by_cases hz:(BK (Az keys)).2=0
   case neg=>
    have hv5:BK (Az keys)=([],5):=by
     unfold BK at hz ⊢;cases hre:Er (Az keys) with
     |none=>rfl
     |some s=>rw[hre] at hz;exact absurd rfl hz
    have PY:=Hi (H5 (fun h=>hz (h.1 _ Gh)));rw[hv5] at Ce;clear hv5 hz;go_wp2_with fail;refine Ce.mono ?_;rintro e w2⟨rfl,hb2⟩;have HQ:=Hi (PY w2 (HB1.trans (hb2.mono HB1.size)));clear hb2;go_wp2_with fail;go_ret;exact⟨5,rfl,HQ⟩
   case pos=>
    obtain⟨s,hs⟩:=ex ((BK (Az keys)).1);have hv0:BK (Az keys)=(s,0):=Prod.ext hs hz;rw[hv0] at Ce;have pY:=Hi (show J6 (l.take (k+1)) from by rw[Bo.out];exact acK.2 ⟨TY,hz⟩);have Dy:=Hi (show AJ (l.take (k+1))=AJ (l.take k)++[(run,s)] from by rw[Bo.out,acL];unfold L6;rw[hs]);have Gb:=Hi (fun(W:World)=>bQ run W (by omega));have hnl:(A8.nm run).length=17:=XO run;clear hz hs hv0;go_wp2_with fail;refine Ce.mono ?_;rintro e w2⟨rfl,hb2⟩;have HB2:=Hi (HB1.trans (hb2.mono HB1.size));have HE2:=Hi (Ef.below hb2);have dR:=Hi ((hb2.block _ (Ae dQ)).trans dQ);have cu2:w2.cell? ⟨ub,0,none⟩=some (.string (bs run)):=cr dR.out;clear hb2 HB1 Ef dQ Ce;go_wp2_with fail;refine(Gb _).mono ?_;rintro e w3⟨rfl,hb3⟩;have MW:=Hi (HE2.below hb3);have HB3:=Hi (HB2.trans (hb3.mono HB2.size));have VO:=Hi ((hb3.block _ (Ae dR)).trans dR);clear hb3 cu2 HB2 HE2 dR;have NT:L.length≤1000:=by
     have:=cK Rq.out;rw[Ke,Aw] at this;omega
    have HSG:=Hi (GV (A8.nm run))
    have M5:=Hi (show Fits A8 (AJ l)→(Bc (AR A8 (AJ (l.take k)++[(run,s)]) (A8.nm run))).isSome=true from fun h=>by
     have h1:=h k (by rw[Ke];exact hlt);rw[←dO,Dy.out] at h1;have h2:(AJ l)[k]'(by rw[Ke];exact hlt)=(run,s):=by
      have e1:(AJ (l.take (k+1)))[k]?=(AJ l)[k]? :=by
       rw[dO,List.getElem?_take,Ac (by omega)]
      rw[Dy.out,List.getElem?_append_right (by rw[Ke,Aw];omega),Ke,Aw,FM hk,Nat.sub_self] at e1;have e2:=e1.symm;rw[BP (by rw[Ke];exact hlt)] at e2;exact EH e2
     rw[h2] at h1;exact h1)
    by_cases hin:A8.nm run∈L.map (·.1)
    case' pos=>
     obtain⟨⟨t,l1⟩,hx,El⟩:=AV.1 hin;have El:t=A8.nm run:=El;subst El;have I9:=MW.cO hx (by rw[hnl];decide);have ast:=MW.row _ hx;obtain⟨q1,c1,hgv,hq1,hc1⟩:=Dl ast;rw[hgv] at I9 ast;have hlr:l1=AR A8 (AJ (l.take k)) (A8.nm run):=Rq.rows _ hx;have EA:=Hi hlr;have Bj:=Am w3 (.cells #[.slice q1 l1.length c1] 167);have HXB:=Hi (Aq w3 (.cells #[.slice q1 l1.length c1] 167));have MO:=Hi (MW.below Bj);have Ag:=Hi (HB3.trans (Bj.mono HB3.size));have MP:=Hi ((Bj.block _ (Ae VO)).trans VO);have Fg:=Hi (Bp ast Bj);have Qc:w.heap.size≤w3.heap.size:=HB3.size;clear hx hgv ast Bj hlr El;generalize awi:A8.nm run=name at*;have IK:=Hi awi;clear awi;go_wp2_with fail;obtain⟨wA,NZ⟩:=ex (w3.alloc (.cells #[.slice q1 l1.length c1] 167));rw[NZ] at HXB MO Ag MP Fg ⊢;obtain⟨b,hbk⟩:=ex (w3.heap.size);rw[hbk] at HXB Qc ⊢;clear NZ
    case' neg=>
     have I9:=MW.cZ hin (by rw[hnl];decide);have Bj:=Am w3 (.cells #[.slice none 0 0] 167);have qc:=Hi (Aq w3 (.cells #[.slice none 0 0] 167));have TM:=Hi (HB3.trans (Bj.mono HB3.size));have om:=Hi (MW.below Bj);have anB:=Hi ((Bj.block _ (Ae VO)).trans VO);have Yg:=bT (HM.below TM) (OJ HG TM) (A8.nm run) (by rw[hnl];decide);have hfo:fileOf A8 A (A8.nm run)=none:=(by unfold fileOf;rw[Dc run];rfl);unfold KW at Yg;rw[hfo,Dc run] at Yg;obtain⟨l1,hl1⟩:∃ l1:M,l1=[]:=⟨_,rfl⟩;rw[show((none:Option M).getD [])=l1 from hl1.symm] at Yg
     have EA:=Hi (show l1=AR A8 (AJ (l.take k)) (A8.nm run) from by
      rw[hl1,XY];exact fun e=>hin ((Rq.names _).2 e))
     have EO:=Hi Yg;have Qc:w.heap.size≤w3.heap.size:=HB3.size;clear Bj Yg hfo hl1;generalize awi:A8.nm run=name at*;have IK:=Hi awi;clear awi;go_wp2_with fail;refine EO.mono ?_;rintro e w4⟨q1,c1,rfl,ast,hq1,hb4⟩;have dS:=(hb4.block _ (Ae qc)).trans qc.out;have ow:w4.cell? ⟨w3.heap.size,0,none⟩=some (.slice none 0 0):=cr dS;have oz:=Cb w4 w3.heap.size 0 _ _ dS;have Et:=(A7.refl (fun j=>j=w3.heap.size) w4).setCell (p:=⟨w3.heap.size,0,none⟩) (.inl rfl) (.slice q1 l1.length c1);have HXB:=Hi (Bh w4 w3.heap.size 0 _ _ (.slice q1 l1.length c1) dS);have hsz0:=Ai w3 (.cells #[.slice none 0 0] 167);have Cv:Bw w3 (w4.setCell ⟨w3.heap.size,0,none⟩ (.slice q1 l1.length c1)):=by
      have h1:Bw w3 w4:=(Am w3 _).trans (hb4.mono (Am w3 _).size);exact h1.setCell (p:=⟨w3.heap.size,0,none⟩) (Ab _) _
     have MO:=Hi (MW.below Cv);have Ag:=Hi (HB3.trans (Cv.mono HB3.size));have MP:=Hi ((Cv.block _ (Ae VO)).trans VO)
     have Fg:=Hi (Da (AL ast Et (fun j hj e=>by
      have:=CJ ast hj;rw[hsz0] at this;omega)) (show w.heap.size≤(w3.alloc (.cells #[.slice none 0 0] 167)).heap.size from by rw[hsz0];omega))
     clear hb4 Et Cv hsz0 EO qc TM om anB dS ast;go_wp2_with fail;obtain⟨wA,NZ⟩:=ex (w4.setCell ⟨w3.heap.size,0,none⟩ (.slice q1 l1.length c1));rw[NZ] at HXB MO Ag MP Fg ⊢;obtain⟨b,hbk⟩:=ex (w3.heap.size);rw[hbk] at HXB Qc ⊢;clear NZ ow oz
    all_goals
     have anC:l1.length≤1000:=by
      rw[EA.out];have:=dh A8 (AJ (l.take k)) name;rw[Ke,Aw] at this;omega
     have VI:=Hi (show Up l1 from by rw[EA.out];exact NU _ _);have cxb:wA.cell? ⟨b,0,none⟩=some (.slice q1 l1.length c1):=cr HXB.out;have dU:wA.cell? ⟨ub,0,none⟩=some (.string (bs run)):=cr MP.out;have Rs:=Hi (fun(W:World) (hW:Bw wA W)=>o8 (w:=W) ((Av.BU Fg).below hW) hq1 (by omega) run);have qd:=Hi (fun(W:World) (hW:Bw wA W)=>(hW.block b (Ae HXB)).trans HXB);have anD:=Hi (fun(W:World) (hW:Bw wA W)=>(hW.block ub (Ae MP)).trans MP);have hlf:(l1.filter fun p=>!(p.1 == run)).length≤1000:=Ah (Km _ _) anC
     have Rf:=Hi (fun(w5:World) (q4:Option Addr) (c4 pb o:Nat) (ho:w5.heap.size=o) (hb5:Bw wA w5) (hp:w5.heap[pb]?=some (.cells #[.string (bs run),.string (bs s)] 75)) (hr4:Av w5 q4 (l1.filter fun p=>!(p.1 == run))) (hq4:q4=none→c4=0) (hc4:(l1.filter fun p=>!(p.1 == run)).length≤c4)=>
      show Calls prog 71 #[.slice (some ⟨o,0,none⟩) 2 2] (w5.alloc (.cells #[.slice q4 (l1.filter fun p=>!(p.1 == run)).length c4,.slice (some ⟨pb,0,none⟩) 1 1] 22)) fun e w'=>∃ q9 c9,e=.returned (.slice q9 (put run s l1).length c9)∧AP w' wA.heap.size (.slice q9 (put run s l1).length c9) (put run s l1)∧Bw wA w'∧w'.cell? ⟨b,0,none⟩=some (.slice q1 l1.length c1)∧w'.frozen? ⟨b,0,none⟩=false from by
       subst ho;have h2:=Aq w5 (.cells #[.slice q4 (l1.filter fun p=>!(p.1 == run)).length c4,.slice (some ⟨pb,0,none⟩) 1 1] 22);have hb6:=Am w5 (.cells #[.slice q4 (l1.filter fun p=>!(p.1 == run)).length c4,.slice (some ⟨pb,0,none⟩) 1 1] 22);generalize w5.alloc (.cells #[.slice q4 (l1.filter fun p=>!(p.1 == run)).length c4,.slice (some ⟨pb,0,none⟩) 1 1] 22)=w6 at*;refine(anx (pr:=(run,s)) h2 ((hb6.block _ (Ae hp)).trans hp) (hr4.below hb6) hq4 hc4 hlf).mono ?_;rintro e w'⟨q9,c9,rfl,KN,Eu⟩;have Cv:=hb5.trans ((hb6.trans (Eu.mono hb6.size)).mono hb5.size);have hx9:=qd w' Cv;rw[abv VI (run,s)] at KN ⊢;exact⟨q9,c9,rfl,Da KN (Ah hb5.size hb6.size),Cv,cr hx9,Cb w' b 0 _ _ hx9⟩)
     have Rv:=Am wA (.cells #[.string (bs run),.string (bs s)] 75);have hnP:=Aq wA (.cells #[.string (bs run),.string (bs s)] 75);have Qf:=Hi Rv;have VP:=Hi hnP;have anE:(wA.alloc (.cells #[.string (bs run),.string (bs s)] 75)).drew.cell? ⟨ub,0,none⟩=some (.string (bs run)):=(Rv.cell (p:=⟨ub,0,none⟩) (Ae MP)).trans dU;have anF:(wA.alloc (.cells #[.string (bs run),.string (bs s)] 75)).drew.cell? ⟨b,0,none⟩=some (.slice q1 l1.length c1):=(Rv.cell (p:=⟨b,0,none⟩) (Ae HXB)).trans cxb;clear Rv hnP;clear I9 Gb;refine TB ?_
     go_region_law
      (first
       |(go_simp;go_at_call 82;refine(Rs _ ((Ad _ wA).drew)).mono ?_;rintro e w4 ⟨v4,rfl,hr4,hb4⟩;obtain⟨q4,c4,rfl,hq4,hc4⟩:=Dl hr4;have hb4:Bw wA w4:=((Ad _ wA).drew).trans (hb4.mono (Ab _));have anG:w4.cell? ⟨ub,0,none⟩=some (.string (bs run)):=(hb4.cell (p:=⟨ub,0,none⟩) (Ae MP)).trans dU;go_wp2_with fail)
       |(go_simp;go_at_call 82;refine(Rs _ Qf.drew).mono ?_;rintro e w4 ⟨v4,rfl,hr4,hb4⟩;obtain⟨q4,c4,rfl,hq4,hc4⟩:=Dl hr4;have qf:w4.heap[wA.heap.size]?=some (.cells #[.string (bs run),.string (bs s)] 75):=(hb4.block _ (Ae VP)).trans VP.out;have hb4:Bw wA w4:=Qf.trans (((Ad _ _).drew.trans (hb4.mono (Ab _))).mono Qf.size);have anG:w4.cell? ⟨ub,0,none⟩=some (.string (bs run)):=(hb4.cell (p:=⟨ub,0,none⟩) (Ae MP)).trans dU;go_wp2_with fail)
       |(go_simp;go_at_call 71;refine(Rf w4 q4 c4 _ _ rfl hb4 qf (Av.BU hr4) hq4 hc4).mono ?_;rintro e w9 ⟨q9,c9,rfl,KN,Eu,cx9,UZ⟩;go_wp2_with fail)
       |(go_simp;go_at_call 71;refine(Rf _ q4 c4 _ _ (Ai _ _) (hb4.alloc hb4.size _) (Aq w4 _) ((Av.BU hr4).below (Am w4 _)) hq4 hc4).mono ?_;rintro e w9 ⟨q9,c9,rfl,KN,Eu,cx9,UZ⟩;go_wp2_with fail))
     all_goals
      dsimp only[Rk];have dW:=qd w9 Eu;have qh:=Bh w9 b 0 _ _ (.slice q9 (put run s l1).length c9) dW;have anH:(w9.setCell ⟨b,0,none⟩ (.slice q9 (put run s l1).length c9)).cell? ⟨b,0,none⟩=some (.slice q9 (put run s l1).length c9):=cr qh;have Yh:=(A7.refl (fun j=>j=b) w9).setCell (p:=⟨b,0,none⟩) (.inl rfl) (.slice q9 (put run s l1).length c9);have hnb:∀ k,k=b→¬ Ap w9 k 75:=fun k e hb=>by
       obtain⟨cs,fr,hb⟩:=hb;rw[e,dW] at hb;injection hb with hb
       injection hb with _ hb
       exact absurd hb (by decide)
      have acZ:Ey (w9.setCell ⟨b,0,none⟩ (.slice q9 (put run s l1).length c9)) w.heap.size w.heap.size L g:=by
       have ad1:=MO.below Eu;have oF:¬ Ap w9 w.heap.size 167:=ad1.BV;obtain⟨⟨kv,h1,h2⟩,h3,h4,h6⟩:=ad1;exact⟨⟨kv,h1,h2.upd Yh (fun e=>oF (by rw[e];exact⟨_,_,dW⟩))⟩,h3,fun x hx=>AL (h4 x hx) Yh (fun j hj e=>hnb j e (Bi (h4 x hx) hj)),h6⟩
      have qi:=AL (Da KN Ag.size) Yh (fun j hj e=>hnb j e (Bi KN hj));have qj:=Ag.trans (Eu.mono Ag.size);have TJ:=Bu qj Yh (fun i e=>by rw[e];exact Qc) qj.size;have hgr:AR A8 (AJ (l.take k)++[(run,s)]) name=put run s l1:=(by rw[Js,Ac IK.out,←EA.out]);have hsg:=HSG.out;rw[Dy.out,hgr] at hsg;obtain⟨arU,ad2⟩:=hsg;have Nt:=Hi (abQ (cap:=c9) (Av.BU qi) (BN.LM (VI.put run s)) (by omega) ad2);have hfs:=M5.out;rw[hgr] at hfs;have Yi:=Hi hfs
      have M0:=Hi (show Dg A8 (AJ (l.take (k+1))) (Dep.putRow L name (put run s l1)) from by
       rw[Dy.out,←IK.out];exact anw Rq (by rw[IK.out,hgr]))
      have OX:=Hi (@Fits.XZ A8 (AJ (l.take k)) (run,s));have ad3:=Hi acZ;have Ec:=Hi TJ;have ad4:=Hi qi;have qm:=Hi qh;have aP:=Hi hgr;obtain⟨F4,Y2⟩:=ex (w9.setCell ⟨b,0,none⟩ (.slice q9 (put run s l1).length c9));rw[Y2] at Nt ad3 Ec ad4 qm anH ⊢;clear Y2 dW qh Yh hnb acZ qi qj TJ hgr ad2 hfs KN Eu cx9 UZ hr4 hb4 hq4 hc4 Rf Rs qd anD Qf VP anE anF cxb dU hin;generalize put run s l1=l2 at*;by_cases hcs:(Bc l2).isSome=true
      ·rw[Ac hcs] at Nt
       have MR:=Hi (show Fits A8 (AJ (l.take (k+1))) from by
        rw[Dy.out];refine OX.2 ⟨I7,?_⟩;rw[IK.out,aP.out];exact hcs)
       generalize (Bc l2).getD []=ct at*;clear hcs;go_wp2_with fail;refine Nt.mono ?_;rintro e TK⟨rfl,MX⟩;have ad5:=(MX.block _ (Ae qm)).trans qm.out;have arV:TK.cell? ⟨b,0,none⟩=some (.slice q9 l2.length c9):=cr ad5;obtain⟨dz,arW,ad6,ad7⟩:=(ad3.below MX).put (name:=name) (by rw[hnl];decide) (Bp ad4 MX) (by unfold maxLen;omega);have NV:=(Ec.trans (MX.mono Ec.size)).grown ad7 (Ec.trans (MX.mono Ec.size)).size (fun k e=>Nat.le_of_eq (EH e));have Ca:=Hi (show pW w w.heap.size l (.int .i64 ((k:Int)+1)) dz from⟨k+1,_,_,by omega,by go_num,ad6,M0,NV,MR,pY⟩);generalize l2.length=n2 at*;clear MX ad5 ad6 ad7 NV;go_wp2_with fail;go_roundw
       case rel=>exact Ca.out
       case measure=>
        show l.length -((k:Int)+1).toNat < l.length -((k:Int)).toNat
        omega
      ·rw[Aa hcs] at Nt;have Qb:=Hi (H5 (fun h=>hcs (Yi h.2)));generalize (Bc l2).getD []=ct at*;generalize l2.length=n2 at*;clear hcs;go_wp2_with fail;refine Nt.mono ?_;rintro e TK⟨rfl,MX⟩;have HQ:=Hi (Qb TK (Ec.trans (MX.mono Ec.size)));clear MX;go_wp2_with fail;go_ret;exact⟨5,rfl,HQ⟩
  ·obtain rfl:k=l.length:=(by omega);have hft:=I7.out;have hrw:=TY.out;have hps:=Rq.out;rw[Ck] at hft hrw hps;have NT:L.length≤100000:=by
    have:=cK hps;rw[Ke] at this;omega
   have e1:=hps.XP;have e2:=hps.fits hft
   have HCM:=Hi (abR (Q:=Q) (HM.below HB) HE (fun x hx=>by
    have h1:=K8 l.length x.1;rw[Ck] at h1;rw[hps.rows x hx];exact⟨BN.LM (NU _ _),Ah h1.1 (by decide),h1.2⟩) (fun x hx=>by
    obtain⟨z,_,hz⟩:=AV.1 ((hps.names x.1).1 (ES hx));rw[←hz,XO];decide) NT (fun h=>absurd e2 h) (fun _ W q c hW hch=>by
    rw[e1] at hch ⊢;exact HC ⟨hrw,hft⟩ W q c (HB.trans (hW.mono HB.size)) hch))
   clear hft hrw hps e1 e2;go_wp2_with fail;refine HCM.mono ?_;rintro e w9⟨cc,rfl,Qa⟩;go_wp2_with fail;go_ret;exact⟨cc,rfl,Qa⟩
end Dep
end Go.Proofs.YtmbbhdebddbhoaaGreat
