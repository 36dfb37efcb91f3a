/- PrsPut PrsGet PrsKeys -/
import Derived.Test.YtmbbhdebddbhoaaGreatR23
set_option maxHeartbeats 4000000
set_option maxRecDepth 100000
set_option linter.all false
namespace Go.Proofs.YtmbbhdebddbhoaaGreat
open Tryz
namespace Prs
open Go.RowKit Go.Maps
open Fil Man Wal
theorem DL.kind{w:World}{b:Nat}{l:List UInt8}{fp:Nat→Prop}(h:DL w b l fp)(k:Nat)(hk:fp k):AA w k 234∨AA w k 5:=by
 obtain⟨p,v,h1,_,h3,_,_,rfl⟩:=h;rcases hk with rfl|hk
 ·exact .inl ⟨_,_,h1⟩
 ·exact .inr (BQ h3 hk)
theorem DL.awU{w:World}{b:Nat}{l:List UInt8}{fp:Nat→Prop}(h:DL w b l fp){g:Nat}{cs:Array Value}{fr:Nat×Nat}(hg:w.heap[g]?=some (.cells cs 9 fr)):¬ fp g:=fun e=>by
 rcases DL.kind h g e with e|e
 ·exact AA.ne e ⟨cs,fr,hg⟩ (by decide) rfl
 ·exact AA.ne e ⟨cs,fr,hg⟩ (by decide) rfl
def Dz(l:M):T×Int:=match Fh l with|none=>([],5)|some s=>(s,0)
theorem ad8{L:List T}{S:T}(h:textsE L=some S)(t:T):textsE (L++[t])=(DJ t).map (S++ ·):=by
 rw[anh,h];simp only[Cj,textsE];cases DJ t with
 |none=>rfl
 |some x=>simp
theorem ad9{L:List T}{t:T}(h:t∈L)(ht:65535 < t.length):textsE L=none:=by
 obtain⟨k,hk,rfl⟩:=List.getElem_of_mem h;exact uC hk ht
theorem zw{l:M}{k:Nat}(h:k < l.length):flat (l.take (k+1))=flat (l.take k)++[l[k].1,l[k].2]:=by
 rw[Cw h,zu];rfl
theorem iC{l:M}{k:Nat}(h:k < l.length){t:T}(ht:t∈[l[k].1,l[k].2]):t∈flat l:=MM.2 ⟨l[k],Ci h,ht⟩
theorem amk(l:M)(k:Nat):rowLen (flat (l.take k))≤rowLen (flat l):=by
 have:flat (l.take k)=(flat l).take (2*k):=by
  induction l generalizing k with
  |nil=>simp[flat]
  |cons p l ih=>
   cases k with
   |zero=>simp[flat]
   |succ k=>
    rw[List.take_succ_cons,WN,WN,ih k,show 2*(k+1)=2*k+1+1 by omega,List.take_succ_cons,List.take_succ_cons]
 rw[this];exact acL _ _
theorem amj(a b:List T):rowLen (a++b)+2=rowLen a+rowLen b:=by
 unfold rowLen;rw[CF,JH];omega
theorem azt(A B:List T)(j:Nat):A++B.take j=(A++B).take (A.length+j):=by
 induction A with
 |nil=>simp
 |cons a A ih=>rw[GI,Br,show A.length+1+j=(A.length+j)+1 by omega,GI,List.take_succ_cons,ih]
structure Ec(w:World)(L:Nat)(T0:List T)(fp:Nat→Prop)(S:T)(wr:World):Prop where
 text:textsE T0=some S
 built:DL wr w.heap.size (Crc.le 2 L++S) fp
 low:∀ q,fp q→w.heap.size≤q
 Ay:Bw w wr
def apK(w:World)(L:Nat)(T0:List T)(x:T×T)(g:Nat)(i:Value)(wr:World):Prop:=
 ∃ (j:Nat) (S2:T) (fp':Nat→Prop),j≤2∧i=.int .i64 (j:Int)∧Ec w L (T0++[x.1,x.2].take j) fp' S2 wr∧wr.heap[g]?=some (.cells #[.string (bs x.1),.string (bs x.2)] 9)
def apL(w:World)(l:M)(i:Value)(wr:World):Prop:=∃ (k:Nat) (S:T) (fp:Nat→Prop),k≤l.length∧i=.int .i64 (k:Int)∧Ec w l.length (flat (l.take k)) fp S wr
theorem aly{w:World}{a:Option Addr}{cap:Nat}{l:M}(h:AO w a l)(hs:Cr l)(hl:l.length≤1000000)(CB:rowLen (flat l)≤1000000000):
  Calls prog 150 #[.slice a l.length cap] w fun e w'=>e=.returned (.tuple #[.string (bs (Dz l).1),.int .i64 (Dz l).2])∧Bw w w':=by
 by_cases aal:65535 < l.length
 ·have hR:Hid (Dz l=([],5)):=Hi (by unfold Dz Fh;rw[Aa (by omega)]);rw[hR.out];clear h hs;go_enter func150,ntmps150;go_wp2_with fail;go_ret2;exact⟨rfl,Af _ _⟩
 ·have HH:=Hi h;have HS:=Hi hs;have UN:=Hi CB;have Bc:=Hi ((Af w.heap.size w).alloc (Ac _) (.cells #[.pointer none,.slice none 0 0] 234));have D8:=Hi (DL.made w);clear h hs CB;go_enter func150,ntmps150;go_wp2_with fail;refine(ZE l.length 2 _ (by omega) (by decide) (by decide)).mono ?_;rintro e w1⟨rfl,hb⟩;have Ps:=Hi (D8.upd (ub hb) (fun _ _ f=>f));have HB1:=Hi (Bc.trans (hb.mono (by rw[Aq];omega)));clear hb;go_wp2_with fail;refine(WH Ps (Crc.le 2 l.length) (by simp[Crc.BK])).mono ?_;rintro e w2⟨rfl,fp2,h1,h2,h3⟩;rw[Eu] at h1
  have AR:=Hi (show Ec w l.length (flat (l.take 0)) fp2 [] w2 from⟨rfl,by rw[EH];exact h1,fun q hq=>by
   rcases h3 q hq with h|h
   ·rcases h with h|h
    ·omega
    ·simp[Value.ownBlock] at h
   ·have:=HB1.size;omega,Ca HB1 h2 (fun i hi=>by rcases hi with h|h;omega;simp[Value.ownBlock] at h) HB1.size⟩)
  clear h1 h2 h3 D8 Ps Bc HB1;go_wp2_with fail
  go_loopw [28] (fun i wr=>apL w l i wr) (fun i _=>l.length -(intOf i).toNat)
  case atStart=>exact⟨0,[],fp2,by omega,rfl,AR⟩
  case round=>
   clear AR;obtain⟨k,S,fp,hk,rfl,AP⟩:=hrel;by_cases hlt:k < l.length
   ·obtain⟨p,Cu,hp,-⟩:=(HH.below AP.Ay).index cap k hlt;have c1:=hp.key;have c2:=hp.val;have Tt:=Hi (fun t ht=>iC (t:=t) hlt ht);have Ky:=Hi (zw hlt);have JQ:=Hi (amk l (k+1));rw[Ky.out] at JQ;obtain⟨x,hx⟩:=ex (l[k]);rw[hx] at c1 c2 Tt Ky JQ;have AR:=Hi AP;clear hx hp AP;go_wp2_with fail;obtain⟨g,hg⟩:=ex (wr.heap.size+1)
    have Tx:=Hi (show ∀ (j:Nat),j < 2→∀ W,(Instr.indexAt 27 (.slice (some ⟨wr.heap.size+1,0,none⟩) 2 2) (.int .i64 (j:Int))).run prog W=.ok (.pointer (some ⟨g,j,none⟩)) W from fun j KN W=>by
     have:=Hr prog _ 9 underlying27 1 (by kernel_rfl) ⟨wr.heap.size+1,0,none⟩ 2 2 j KN W;rw[Nat.mul_one,add_plain,hg] at this;rw[hg];exact this)
    have PD:=Hi hg;clear hg
    go_loopw [38] (fun i wr2=>apK w l.length (flat (l.take k)) x g i wr2) (fun i _=>2 -(intOf i).toNat)
    case atStart=>
     have A8:=((Af wr.heap.size wr).alloc (Ac _) (.cells #[.string (bs x.1),.string (bs x.2)] 75)).alloc (by rw[Aq];omega) (.cells #[.string (bs x.1),.string (bs x.2)] 9);refine⟨0,S,fp,by omega,rfl,⟨by rw[GZ,EH];exact AR.text,AR.built.upd (ub A8) (fun _ _ f=>f),AR.low,AR.Ay.trans (A8.mono AR.Ay.size)⟩,?_⟩;have:=AJ (wr.alloc (.cells #[.string (bs x.1),.string (bs x.2)] 75)) (.cells #[.string (bs x.1),.string (bs x.2)] 9);rw[Aq,PD.out] at this;exact this
    case round=>
     obtain⟨j,S2,fp',hj,rfl,AP,bI⟩:=hrel;by_cases KN:j < 2
     ·obtain⟨t,ht⟩:=ex ([x.1,x.2][j]'(by simpa using KN));have FE:wr.cell? ⟨g,j,none⟩=some (.string (bs t)):=by
       rw[BA _ _ _ _ _ _ bI,←ht]
       match j,KN with
       |0,_=>rfl
       |1,_=>rfl
      have aBY:=Tx j KN;have HTM:=Hi (show t∈[x.1,x.2] from by rw[←ht];exact Ci _);have HTT:=Hi (show[x.1,x.2].take (j+1)=[x.1,x.2].take j++[t] from by rw[Cw (by simpa using KN),ht]);have HLS:=Hi (VP AP.text);have Hd:=Hi (amj (flat (l.take k)++[x.1,x.2].take j) [t])
      have aD:=Hi (show rowLen ((flat (l.take k)++[x.1,x.2].take j)++[t])≤1000000000 from by
       have h1:rowLen ((flat (l.take k)++[x.1,x.2].take j)++[t])≤rowLen (flat (l.take k)++[x.1,x.2]):=by
        rw[Dp,←HTT.out];have e:=azt (flat (l.take k)) [x.1,x.2] (j+1);rw[e];exact acL _ _
       have h2:=JQ.out;have h3:=UN.out;omega)
      have HI:=Hi AP;have QE:=Hi bI;clear ht AP bI;by_cases NW:65535 < t.length
      ·have hR:Hid (Dz l=([],5)):=Hi (by unfold Dz Fh;rw[Ab (by omega),ad9 (Tt t HTM) NW];rfl);go_wp2_with fail;refine(ach t _ NW).mono ?_;rintro e w3⟨rfl,rfl⟩;go_wp2_with fail;go_ret2;rw[hR.out];exact⟨rfl,HI.Ay⟩
      ·have FN:t.length≤65535:=(by omega);clear NW;go_wp2_with fail;refine(aci t _ FN).mono ?_;rintro e w3⟨rfl,Ak⟩;have Tk:=Hi (HI.built.upd (ub Ak) (fun _ _ f=>f));have Am:=Hi (HI.Ay.trans (Ak.mono HI.Ay.size));have vk:=Hi ((Ak.block g (Ai QE)).trans QE);clear Ak FE;go_wp2_with fail
       refine(WH Tk (Crc.le 2 t.length++t) (by
        have h1:=HLS.out;have h2:=Hd.out;have h3:=aD.out;have h4:rowLen [t]=4+t.length:=(by unfold rowLen;simp;omega);simp[Crc.BK];omega)).mono ?_
       rintro e w4⟨rfl,OI,h1,h2,h3⟩
       have Yd:=Hi (show Ec w l.length (flat (l.take k)++[x.1,x.2].take (j+1)) OI (S2++(Crc.le 2 t.length++t)) w4 from⟨by rw[HTT.out,←Dp,ad8 HI.text];unfold DJ;rw[Ab FN];rfl,by rw[←Dp];exact h1,fun q hq=>by
        rcases h3 q hq with h|h
        ·exact HI.low q h
        ·exact Ap Am.size h,Ca Am h2 HI.low Am.size⟩)
       have aol:=Hi ((h2.block g (Ai vk) (DL.awU Tk vk)).trans vk);clear h1 h2 h3;go_wp2_with fail;go_roundw
       case rel=>exact⟨j+1,_,OI,by omega,by go_num,Yd,aol⟩
       case measure=>simp[intOf];omega
     ·obtain rfl:j=2:=(by omega);have HI:=Hi (show Ec w l.length (flat (l.take (k+1))) fp' S2 wr from by rw[Ky.out];exact AP);clear AP bI;go_wp2_with fail;go_roundw
      case rel=>exact⟨k+1,S2,fp',by omega,by go_num,HI⟩
      case measure=>simp[intOf];omega
   ·obtain rfl:k=l.length:=(by omega);rw[CY] at AP;have AR:=Hi AP;have hR:Hid (Dz l=(Crc.le 2 l.length++S,0)):=Hi (by unfold Dz Fh;rw[Ab (by omega),AP.text];rfl);have HC:=Hi (alq (cap:=cap) (HH.below AP.Ay) hl);rw[Ab HS.out] at HC;clear AP;go_wp2_with fail;refine HC.mono ?_;rintro e w3⟨rfl,Ak⟩;have Tk:=Hi (AR.built.upd (ub Ak) (fun _ _ f=>f));have Am:=Hi (AR.Ay.trans (Ak.mono AR.Ay.size));clear Ak;go_wp2_with fail;refine(WG Tk).mono ?_;rintro e w4⟨rfl,hu⟩;have AZ:=Hi (Ca Am hu AR.low Am.size);clear hu;go_wp2_with fail;go_ret2;rw[hR.out];exact⟨rfl,AZ⟩
def UW(w:World)(s:T)(e:Ending)(w':World):Prop:=match GN s with
 |none=>e=.returned (.tuple #[.slice none 0 0,.int .i64 7])∧Bw w w'
 |some l=>∃ v,e=.returned (.tuple #[v,.int .i64 0])∧Bo w' w.heap.size v l∧Bw w w'
theorem kR{w w':World}{s:T}{e:Ending}(h:GN s=none)(he:e=.returned (.tuple #[.slice none 0 0,.int .i64 7]))(hb:Bw w w'):UW w s e w':=by
 unfold UW;rw[h];exact⟨he,hb⟩
theorem axd{w w':World}{s:T}{e:Ending}{v:Value}{l:M}(h:GN s=some l)(he:e=.returned (.tuple #[v,.int .i64 0]))(ho:Bo w' w.heap.size v l)(hb:Bw w w'):UW w s e w':=by
 unfold UW;rw[h];exact⟨v,he,ho,hb⟩
structure mh(w:World)(s:T)(n:Nat)(i:Nat)(S:T)(l:M)(v:Value)(wr:World):Prop where
 le:i≤n
 len:l.length=i
 short:S.length≤s.length
 read:readTs (2*n) (s.drop 2)=(readTs (2*n -2*i) S).map fun q=>(flat l++q.1,q.2)
 row:Bo wr w.heap.size v l
 Ay:Bw w wr
def aob(w:World)(s:T)(n:Nat)(sv lv iv:Value)(wr:World):Prop:=∃ (i:Nat) (S:T) (l:M),sv=.string (bs S)∧iv=.int .u64 (i:Int)∧mh w s n i S l lv wr
theorem alv(s:T)(w:World)(hs:s.length≤1000000000):Calls prog 194 #[.string (bs s)] w fun e w'=>UW w s e w':=by
 obtain⟨i0,Ba,AQ,AU,AV⟩:=Du Qu;by_cases h2:s.length < 2
 ·have hR:Hid (GN s=none):=Hi (by unfold GN;rw[Ab h2]);go_enter func194,ntmps194;go_wp2_with fail;exact El (v:=.tuple #[.slice none 0 0,.int .i64 7]) (by simp[results,results194,go_sem]) rfl (kR hR.out rfl (Af _ _))
 ·have Gf:∀ W,(Instr.slice 9 (.string (bs s)) none (some (.int .i64 2)) none).run prog W=.ok (.string (bs (s.take 2))) W:=fun W=>Ny prog W 9 underlying9 s 2 (by omega)
  have X3:∀ W,(Instr.slice 9 (.string (bs s)) (some (.int .i64 2)) none none).run prog W=.ok (.string (bs (s.drop 2))) W:=fun W=>LQ prog W 9 underlying9 s 2 (by omega)
  have hlt:(s.take 2).length=2:=by rw[AL];omega
  have hv:=Crc.Ji (s.take 2);rw[hlt] at hv;have MS:=Hi (fun(W:World)=>WO (s.take 2) W (by omega) (by omega));obtain⟨n,hn⟩:=ex (Crc.val (s.take 2));have FD:=Hi (show GN s=(readTs (2*n) (s.drop 2)).bind fun q=>if q.2=[]∧Cr (unflat q.1) then some (unflat q.1) else none from by unfold GN;rw[Aa h2,hn]);rw[hn] at MS hv;have KT:n < 65536:=hv;have hsi:¬ (s.length:Int) < 2:=by omega
  clear hn hlt hv;go_enter func194,ntmps194;go_wp2_with fail;refine(MS _).mono ?_;rintro e w1⟨rfl,rfl⟩;go_wp2_with fail
  go_loopw [0,2,23] (fun sv lv iv wr=>aob w s n sv lv iv wr) (fun _ _ iv _=>n -(intOf iv).toNat)
  case atStart=>exact⟨0,s.drop 2,[],rfl,rfl,AB _,rfl,by rw[Ce];omega,by simp[flat],by unfold Bo;rw[PV];exact EI _ _ _ _,Af _ _⟩
  case round=>
   obtain⟨i,S,l,rfl,rfl,AP⟩:=hrel;have AR:=Hi AP;have YK:=AP.short;have hle:=AP.le;by_cases hlt:i < n
   ·cases hr:Ie S with
    |none=>
     have hV:EU S=([],0,6):=(by unfold EU;rw[hr]);have He:=Hi (fun(W:World)=>dK S W (by omega));rw[hV] at He;have hR:Hid (GN s=none):=Hi (by rw[FD.out,dO (j:=2*i) (by omega) AP.read hr];rfl);clear AP hV hr;go_wp2_with fail;refine(He _).mono ?_;rintro e w2⟨rfl,hb⟩;have HB:=Hi hb;clear hb;go_wp2_with fail;exact El (v:=.tuple #[.slice none 0 0,.int .i64 7]) (by simp[results,results194,go_sem]) rfl (kR hR.out rfl (AR.Ay.trans (HB.mono AR.Ay.size)))
    |some r=>
     obtain⟨k,n1⟩:=r;obtain⟨_,DI,_⟩:=ZG hr;have hV:EU S=(k,n1,0):=(by unfold EU;rw[hr]);have He:=Hi (fun(W:World)=>dK S W (by omega));rw[hV] at He;have Ex:=Hi (dP (j:=2*i) (by omega) AP.read hr);have hcut:∀ W,(Instr.slice 9 (.string (bs S)) (some (.int .i64 (n1:Int))) none none).run prog W=.ok (.string (bs (S.drop n1))) W:=fun W=>LQ prog W 9 underlying9 S n1 DI
     cases Cy:Ie (S.drop n1) with
     |none=>
      have TU:EU (S.drop n1)=([],0,6):=(by unfold EU;rw[Cy]);have QM:=Hi (fun(W:World)=>dK (S.drop n1) W (by rw[Ce];omega));rw[TU] at QM;have hR:Hid (GN s=none):=Hi (by rw[FD.out,dO (j:=2*i+1) (by omega) Ex Cy];rfl);clear AP hV hr TU Cy;go_wp2_with fail;refine(He _).mono ?_;rintro e w2⟨rfl,hb⟩;have HB:=Hi (AR.Ay.trans (hb.mono AR.Ay.size));clear hb;go_wp2_with fail;refine(QM _).mono ?_;rintro e w3⟨rfl,hb⟩;have Am:=Hi (HB.trans (hb.mono HB.size));clear hb;go_wp2_with fail;exact El (v:=.tuple #[.slice none 0 0,.int .i64 7]) (by simp[results,results194,go_sem]) rfl (kR hR.out rfl Am)
     |some r2=>
      obtain⟨v,n2⟩:=r2;obtain⟨_,EP,_⟩:=ZG Cy;rw[Ce] at EP;have TU:EU (S.drop n1)=(v,n2,0):=(by unfold EU;rw[Cy]);have QM:=Hi (fun(W:World)=>dK (S.drop n1) W (by rw[Ce];omega));rw[TU] at QM;have Yg:=Hi (dP (j:=2*i+1) (by omega) Ex Cy);have atQ:∀ W,(Instr.slice 9 (.string (bs S)) (some (.int .i64 ((n1:Int)+(n2:Int)))) none none).run prog W=.ok (.string (bs (S.drop (n1+n2)))) W:=fun W=>by
       have:=LQ prog W 9 underlying9 S (n1+n2) (by omega);rwa[Int.natCast_add] at this
      have Zn:IntKind.i64.wrap ((n1:Int)+(n2:Int))=(n1:Int)+(n2:Int):=Ei _ (by omega);have CB:(n1:Int)+(n2:Int)≤1000000000:=(by omega);have av0:(n1:Int)+(n2:Int)≤(S.length:Int):=(by omega);have av1:((n1:Int)+(n2:Int)).toNat=n1+n2:=(by omega);have Y9:=Hi DI;have MW:=Hi EP;obtain⟨qo,co,rfl⟩:=Bg AP.row;clear AP hV hr TU Cy DI EP;go_wp2_with fail;refine(He _).mono ?_;rintro e w2⟨rfl,hb⟩;have BI:=Hi (C9 AR.row hb);have HB:=Hi (AR.Ay.trans (hb.mono AR.Ay.size));clear hb;go_wp2_with fail;refine(QM _).mono ?_;rintro e w3⟨rfl,hb⟩;have Ov:=Hi (C9 BI hb);have Am:=Hi (HB.trans (hb.mono HB.size));clear hb;go_wp2_with fail
      go_region_law
       ((refine step_append_lies _ (by rfl) _ _ _ (by rfl) w.heap.size 75 i0 _ 2 32 underlying22 Ba AQ AU AV (by rfl) (by omega) (.slice qo l.length co) l.length (Da l) (by rfl) ((Ov.alloc _).drew) ⟨w3.heap.size,0,none⟩ 1 1 [.string (bs k),.string (bs v)] (by rfl) (by rfl) (World.news_of_block (cs:=#[.string (bs k),.string (bs v)]) (t:=75) (fr:=(0,0)) (AJ w3 _)) (fun u hu=>by simp at hu;rcases hu with rfl|rfl<;>rfl) (by omega) (by have:=AR.len;have:=AR.le;unfold maxLen;omega) (by have:=AR.len;have:=AR.le;omega) (by have:=Am.size;rw[World.size_drew,Aq];omega) (w3.heap.size+1) (by simp) ?_;intro gg cap2 w4 Ob Az hat O8))
      all_goals
       have Yd:=Hi (show mh w s n (i+1) (S.drop (n1+n2)) (l++[(k,v)]) (.slice (some ⟨gg,0,none⟩) (l.length+1) cap2) w4 from
        ⟨by omega,by rw[Au,AR.len];rfl,by rw[Ce];omega,by
         have:=Yg.out;rw[show 2*n -(2*i+1+1)=2*n -2*(i+1) by omega,List.drop_drop] at this;rw[this,zu]
         congr 1
         funext q
         simp[flat],by unfold Bo;rw[Au,RY];exact Ob,
         ((Am.alloc Am.size _).drew).grown Az (by have:=Am.size;rw[World.size_drew,Aq];omega) (fun k e=>DC Ov e)⟩)
       clear Ob Az hat;go_wp2_with fail;go_roundw
       case rel=>
        first
        |exact⟨i+1,S.drop (n1+n2),l++[(k,v)],rfl,by go_num,Yd⟩
        |(repeat apply Exists.intro
          refine⟨?_,rfl⟩;exact⟨i+1,S.drop (n1+n2),l++[(k,v)],rfl,by go_num,Yd⟩)
       case measure=>
        show n -((i:Int)+1).toNat < n -((i:Int)).toNat
        omega
   ·obtain rfl:i=n:=(by omega);have LG:readTs (2*i) (s.drop 2)=some (flat l,S):=by
     rw[AP.read,Nat.sub_self];simp[readTs]
    have Yf:=Hi (show GN s=if S=[]∧Cr l then some l else none from by rw[FD.out,LG];simp only[Cj];rw[uG]);obtain⟨qo,co,rfl,Zf,YN⟩:=Es AP.row;have XY:=Hi (alq (cap:=co) (AO.CG AP.row) (by have:=AP.len;omega));clear AP LG;by_cases hS:S=[]
    ·subst hS;by_cases Qi:Cr l
     ·have hR:Hid (GN s=some l):=Hi (by rw[Yf.out,Ab ⟨rfl,Qi⟩]);rw[Ab Qi] at XY;clear Qi;go_wp2_with fail;refine XY.mono ?_;rintro e w2⟨rfl,hb⟩;have BI:=Hi (C9 AR.row hb);have HB:=Hi (AR.Ay.trans (hb.mono AR.Ay.size));clear hb;go_wp2_with fail;exact El (v:=.tuple #[.slice qo l.length co,.int .i64 0]) (by simp[results,results194,go_sem]) rfl (axd hR.out rfl BI HB)
     ·have hR:Hid (GN s=none):=Hi (by rw[Yf.out,Aa (fun h=>Qi h.2)]);rw[Aa Qi] at XY;clear Qi;go_wp2_with fail;refine XY.mono ?_;rintro e w2⟨rfl,hb⟩;have HB:=Hi (AR.Ay.trans (hb.mono AR.Ay.size));clear hb;go_wp2_with fail;exact El (v:=.tuple #[.slice none 0 0,.int .i64 7]) (by simp[results,results194,go_sem]) rfl (kR hR.out rfl HB)
    ·have hR:Hid (GN s=none):=Hi (by rw[Yf.out,Aa (fun h=>hS h.1)]);have hne:S.isEmpty=false:=by
      cases S with
      |nil=>exact absurd rfl hS
      |cons=>rfl
     clear hS;go_wp2_with fail;exact El (v:=.tuple #[.slice none 0 0,.int .i64 7]) (by simp[results,results194,go_sem]) rfl (kR hR.out rfl AR.Ay)
end Prs
namespace Prs
open Go.RowKit Go.Maps Go.Shelf
open Fil Man Wal Sha
attribute [local go_sem] Om
theorem dropWhile_drop{α:Type}(p:α→Bool):∀ (l:List α) (k:Nat),k≤l.length→(∀ j,(h:j < l.length)→j < k→p l[j]=true)→(∀ h:k < l.length,p l[k]=false)→l.dropWhile p=l.drop k
 |[],k,_,_,_=>by simp
 |x :: l,0,_,_,h2=>by
  have:=h2 (by simp);rw[List.drop_zero,List.dropWhile_cons_of_neg (by simpa using this)]
 |x :: l,k+1,hk,h1,h2=>by
  have h0:=h1 0 (by simp) (by omega);rw[List.dropWhile_cons_of_pos (by simpa using h0),List.drop_succ_cons];exact dropWhile_drop p l k (by simpa using hk) (fun j hj Xb=>h1 (j+1) (by simpa using hj) (by omega)) (fun h=>h2 (by simpa using h))
theorem au1{R:M}{k:Nat}(h1:1≤k)(hk:k≤R.length)(ha:∀ j,(h:j < R.length)→j < k→R[j].1=(R[0]'(by omega)).1)(hb:∀ h:k < R.length,R[k].1≠(R[0]'(by omega)).1):heads R=(R[0]'(by omega)).1 :: heads (R.drop k):=by
 cases R with
 |nil=>simp at hk;omega
 |cons x R=>
  rw[aid];obtain⟨k,rfl⟩:∃ j,k=j+1:=⟨k -1,by omega⟩;rw[dropWhile_drop _ R k (by simpa using hk) (fun j hj Xb=>by have:=ha (j+1) (by simpa using hj) (by omega);simpa using this) (fun h=>by have:=hb (by simpa using h);simpa using this)];rfl
def ek:M→M
 |[]=>[]
 |x :: l=>l.dropWhile fun y=>decide (y.1=x.1)
def dU(Z:M):Nat→M
 |0=>Z
 |k+1=>ek (dU Z k)
theorem azr{R:M}{k:Nat}(h1:1≤k)(hk:k≤R.length)(ha:∀ j,(h:j < R.length)→j < k→R[j].1=(R[0]'(by omega)).1)(hb:∀ h:k < R.length,R[k].1≠(R[0]'(by omega)).1):ek R=R.drop k:=by
 cases R with
 |nil=>simp at hk;omega
 |cons x R=>
  obtain⟨k,rfl⟩:∃ j,k=j+1:=⟨k -1,by omega⟩;exact dropWhile_drop _ R k (by simpa using hk) (fun j hj Xb=>by have:=ha (j+1) (by simpa using hj) (by omega);simpa using this) (fun h=>by have:=hb (by simpa using h);simpa using this)
theorem azs{R:M}(h:R≠[]):(ek R).length < R.length:=by
 cases R with
 |nil=>exact absurd rfl h
 |cons x R=>
  have:=(List.dropWhile_sublist (l:=R) fun y=>decide (y.1=x.1)).length_le
  show(R.dropWhile _).length < _
  simp only[Br];omega
theorem AO.of_block{W W':World}{q:Option Addr}{R:M}(h:AO W q R)(he:∀ p,q=some p→R≠[]→W'.heap[p.block]?=W.heap[p.block]?):AO W' q R:=fun i hi=>by
 obtain⟨p,e,hp⟩:=h i hi;have hb:=he p e (List.ne_nil_of_length_pos (by omega));rw[←add_block p (i*2)] at hb;exact⟨p,e,(World.cell?_of_block hb).trans hp.key,(World.cell?_of_block (a:=⟨(p.add (i*2)).block,(p.add (i*2)).off+1,none⟩) hb).trans hp.val⟩
structure JJ(W1:World)(Bx g:Nat)(R:M)(q:Option Addr)(c:Nat)(W:World):Prop where
 box:W.heap[Bx]?=some (.cells #[.slice q R.length c] 22)
 at_:AO W1 q R
 blk:∀ p,q=some p→R≠[]→p.block=g
 src:R≠[]→∃ cs fr,W1.heap[g]?=some (.cells cs 75 fr)∧W.heap[g]?=some (.cells cs 75 fr)
 cap:R.length≤c
 small:R.length≤1000000
section
variable {W1:World}{Bx g:Nat}{R:M}{q:Option Addr}{c:Nat}{W W':World}
theorem JJ.XG(h:JJ W1 Bx g R q c W):AO W q R:=h.at_.of_block fun p e hR=>by
 obtain⟨cs,fr,h1,h2⟩:=h.src hR;rw[h.blk p e hR,h1,h2]
theorem JJ.upd{F:Nat→Prop}(h:JJ W1 Bx g R q c W)(hu:A7 F W W')(h1:¬ F Bx)(h2:∀ cs fr,W.heap[g]?=some (.cells cs 75 fr)→¬ F g):JJ W1 Bx g R q c W':=
 ⟨(hu.block Bx (Ai h.box) h1).trans h.box,h.at_,h.blk,fun hR=>by
  obtain⟨cs,fr,k1,k2⟩:=h.src hR;exact⟨cs,fr,k1,(hu.block g (Ai k2) (h2 cs fr k2)).trans k2⟩,h.cap,h.small⟩
theorem JJ.below(h:JJ W1 Bx g R q c W)(hb:Bw W W'):JJ W1 Bx g R q c W':=h.upd (ub hb) (fun f=>f) (fun _ _ _ f=>f)
theorem JJ.put(h:JJ W1 Bx g R q c W){k:Nat}{o o':Obj}(ho:W.heap[k]?=some o)(hc:o.isCells=false):JJ W1 Bx g R q c (W.putObj k o'):=by
 refine⟨Um h.box ho hc,h.at_,h.blk,fun hR=>?_,h.cap,h.small⟩;obtain⟨cs,fr,k1,k2⟩:=h.src hR;refine⟨cs,fr,k1,?_⟩;rw[World.putObj_heap_other (fun e=>?_)]
 ·exact k2
 ·subst e;rw[k2] at ho;injection ho with ho
  subst ho;exact absurd hc (by simp[Obj.isCells])
theorem JJ.next(h:JJ W1 Bx g R q c W){k:Nat}(hk:k≤R.length):JJ W1 Bx g (R.drop k) (Ii q c k) (c -k) (W.setCell ⟨Bx,0,none⟩ (.slice (Ii q c k) (R.length -k) (c -k))):=by
 have hl:(R.drop k).length=R.length -k:=Ce;refine⟨by rw[hl];exact BU W Bx 0 _ _ _ h.box,h.at_.back hk h.cap,fun p e hR=>?_,fun hR=>?_,by rw[hl];have:=h.cap;omega,by rw[hl];have:=h.small;omega⟩
 ·have pU:R≠[]:=fun e=>hR (by rw[e];simp)
  unfold Ii at e;split at e
  ·exact h.blk p e pU
  ·cases q with
   |none=>cases e
   |some p0=>
    simp only[Ej,BX] at e;rw[←e,add_block];exact h.blk p0 rfl pU
 ·have pU:R≠[]:=fun e=>hR (by rw[e];simp)
  obtain⟨cs,fr,k1,k2⟩:=h.src pU;refine⟨cs,fr,k1,(((A7.refl (fun k=>k=Bx) W).setCell (p:=⟨Bx,0,none⟩) (.inl rfl) _).block g (Ai k2) (fun e=>?_)).trans k2⟩;rw[e,h.box] at k2;injection k2 with k2
  injection k2 with _ k2
  exact absurd k2 (by decide)
end
def arw(x:Value×T):Array Value:=#[x.1]
def eY(W1:World)(Bx g:Nat)(Z:M)(J:List T→World→Prop)(xs:List (Value×T))(W:World):Prop:=
 ∃ R q c,JJ W1 Bx g R q c W∧R=dU Z xs.length∧heads Z=xs.map (·.2)++heads R∧J (xs.map (·.2)) W
def uV(W1:World)(Bx g:Nat)(Z:M)(J:List T→World→Prop)(xs:List (Value×T))(x:Value×T)(W:World):Prop:=
 ∃ R q c,JJ W1 Bx g R q c W∧R=dU Z (xs.length+1)∧heads Z=xs.map (·.2)++x.2 :: heads R∧J (xs.map (·.2)) W∧∃ p n c',x.1=.slice (some p) (n+1) c'∧W.cell? p=some (.string (bs x.2))∧n < 1000000
def yt(Bx:Nat)(W:World):Nat:=match W.cell? ⟨Bx,0,none⟩ with
 |some (.slice _ n _)=>n
 |_=>0
theorem yu{W1:World}{Bx g:Nat}{R:M}{q:Option Addr}{c:Nat}{W:World}(h:JJ W1 Bx g R q c W):yt Bx W=R.length:=by
 unfold yt;rw[BA _ _ _ _ _ _ h.box];rfl
theorem asS(q:Option Addr)(m c:Nat)(w:World):
  Calls prog 137 #[.slice q m c] w fun e w'=>e=.returned (.func (.func 188) #[] #[.pointer (some ⟨w.heap.size,0,none⟩)])∧w'=w.alloc (.cells #[.slice q m c] 22):=by
 go_enter func137,ntmps137;go_wp2_with fail;go_ret;exact⟨rfl,rfl⟩
theorem axq(W:World)(q:Option Addr)(n cap k:Nat)(hk:k≤n)(hc:n≤cap):
  (Instr.slice 22 (.slice q n cap) none (some (.int .i64 (k:Int))) (some (.int .i64 (k:Int)))).run prog W=.ok (.slice q k k) W:=by
 obtain⟨i,hi,_,hs,_⟩:=Du Qu;cases q<;>simp[Instr.slice,Gp underlying22,Instr.sliceBounds,sizeOf,typeInfo,hi,go_sem]<;>omega
theorem asR(n:Nat)(hn:1≤n)(W1:World)(Bx g:Nat)(Z:M){J:List T→World→Prop}(hJ:∀ ks W W' cs,J ks W→W.heap[Bx]?=some (.cells cs 22)→A7 (fun k=>k=Bx) W W'→J ks W')(w:World):
  Yv n prog 188 #[.pointer (some ⟨Bx,0,none⟩)] arw (eY W1 Bx g Z J) (uV W1 Bx g Z J) (fun xs=>xs.map (·.2)=heads Z) w:=by
 intro l Bk W TS hY hW h0 hk0;have H0:=Hi h0;have Jk:=Hi hk0;clear h0 hk0;refine callsIn_of_wp func188 rfl trivial ?_ rfl;simp only[ntmps188,JG,Br,Ig,Nat.reduceAdd,Nat.reduceSub,LX,LY,M3,LZ,Eu,GI]
 gi_wp2
 gi_loopw [3] (fun _ wr=>∃ xs,eY W1 Bx g Z J xs wr∧Bk wr) (fun _ wr=>yt Bx wr)
 case atStart=>exact⟨[],H0,Jk⟩
 case round=>
  obtain⟨xs,⟨R,q,c,hG,YJ,hZ,Mi⟩,hk⟩:=hrel;have P6:prog.follows .mixedOrders=true:=by kernel_rfl
  have NZ:wr.cell? ⟨Bx,0,none⟩=some (.slice q R.length c):=cr hG.box;have HG:=Hi hG;have TC:=Hi YJ;have HZ:=Hi hZ;have HJ:=Hi Mi;have HK:=Hi hk;clear hG YJ hZ Mi hk H0 Jk;by_cases hR:R=[]
  ·have HE:=Hi (show xs.map (·.2)=heads Z from by rw[HZ.out,hR,aie,EH]);have hz:¬ (0:Int) < (R.length:Int):=(by rw[hR];simp);clear hR
   gi_wp2
   go_end0
   exact⟨⟨_,rfl⟩,xs,HE,⟨R,q,c,HG,TC,HZ,HJ⟩,HK⟩
  ·have Zd:=List.length_pos_iff.2 hR;have hz:(0:Int) < (R.length:Int):=by omega
   gi_wp2
   obtain⟨a0,ha0⟩:=ex ((R[0]'Zd).1);have XU:=Hi (show ∀ h:0 < R.length,(R[0]'h).1=a0 from fun _=>ha0);have mW:=Hi Zd;have YW:∀ W,∃ p:Addr,q=some p∧(Instr.indexAt 22 (.slice q R.length c) (.int .i64 0)).run prog W=.ok (.pointer (some p)) W:=fun W=>by
    obtain⟨p,rfl,hp⟩:=HG.XG 0 Zd;have:=Hr prog _ 75 underlying22 2 (by kernel_rfl) p R.length c 0 Zd W;rw[Nat.zero_mul,add_zero'] at this;exact⟨p,rfl,this⟩
   obtain⟨p0,rfl,-⟩:=YW wr;have Rb:∀ W,(Instr.indexAt 22 (.slice (some p0) R.length c) (.int .i64 0)).run prog W=.ok (.pointer (some p0)) W:=fun W=>by
    obtain⟨p,e,h⟩:=YW W;cases e;exact h
   have Yq:=Hi Rb;have EY:=Hi (yu HG);have Mc:=Hi (azs hR);clear hR ha0 Zd YW Rb NZ hz
   gi_loopw [3] (fun i wr2=>∃ k:Nat,1≤k∧k≤R.length∧i=.int .i64 (k:Int)∧(∀ j,(h:j < R.length)→j < k→R[j].1=a0)∧JJ W1 Bx g R (some p0) c wr2∧J (xs.map (·.2)) wr2∧Bk wr2) (fun i _=>R.length -(intOf i).toNat)
   case atStart=>exact⟨1,Ac _,mW,rfl,(fun j h hj=>by
    obtain rfl:j=0:=(by omega);exact XU h),HG,HJ,HK⟩
   case round=>
    clear HG HJ HK;obtain⟨k,hk1,Db,rfl,AY,Jr,iN,WQ⟩:=hrel;have TW:wr.cell? ⟨Bx,0,none⟩=some (.slice (some p0) R.length c):=cr Jr.box;have aud:=CJ _ _ 0 _ _ Jr.box;have bJ:wr.cell? p0=some (.string (bs a0)):=by
     obtain⟨p,e,hp⟩:=Jr.XG 0 mW.out;cases e;have:=hp.key;rwa[Nat.zero_mul,add_zero',XU mW.out] at this
    have Rb:=Yq.out;have Fg:=Jr.small;have Fy:=Hi AY;have CS:=Hi Jr;have Y6:=Hi iN;have Ag:=Hi WQ;have bR:(0:Int) < (k:Int):=(by omega);have atS:=fun W=>axq W (some p0) R.length c k Db Jr.cap
    have qm:=fun W=>dM W (some p0) R.length c k Db
    have TG:=Hi (show(∀ h:k < R.length,R[k].1≠a0)→∀ (nq:Nat),YieldAt Fence.wide (n -1) prog l #[.slice (some p0) k k] ((wr.drewN nq).setCell ⟨Bx,0,none⟩ (.slice (Ii (some p0) c k) (R.length -k) (c -k))) fun e W'=>e=.returned (.bool true)∧eY W1 Bx g Z J (xs++[(.slice (some p0) k k,a0)]) W'∧Bk W' from fun hb nq=>by
     have hd:Bw wr (wr.drewN nq):=F6 wr nq;have hGd:=Jr.below hd;have Nr:=azr hk1 Db (fun j h hj=>by rw[AY j h hj,XU.out]) (fun h=>by rw[XU.out];exact hb h);have hhd:=au1 hk1 Db (fun j h hj=>by rw[AY j h hj,XU.out]) (fun h=>by rw[XU.out];exact hb h);rw[XU.out] at hhd;have hne:R≠[]:=List.length_pos_iff.1 mW;have hu:A7 (fun k=>k=Bx) wr ((wr.drewN nq).setCell ⟨Bx,0,none⟩ (.slice (Ii (some p0) c k) (R.length -k) (c -k))):=(A7.of_below (F:=fun k=>k=Bx) hd).setCell (p:=⟨Bx,0,none⟩) (.inl rfl) _;refine hY xs (.slice (some p0) k k,a0) _ ⟨R.drop k,Ii (some p0) c k,c -k,hGd.next Db,by show _=ek (dU Z xs.length);rw[←TC.out,Nr],by rw[HZ.out,hhd],hJ _ _ _ _ iN Jr.box hu,p0,k -1,k,by show Value.slice _ _ _=_;rw[Nat.sub_add_cancel hk1],?_,by have:=Jr.small;omega⟩ (TS _ _ WQ ((Uj (ub hd) (fun _ _ f=>f.elim)).trans (KeepsOthers.setCell _ _ _)));refine(hu.cell (BS bJ) (fun e=>?_)).trans bJ;obtain⟨cs,fr,_,k2⟩:=Jr.src hne;have e2:p0.block=g:=Jr.blk p0 rfl hne;rw[←e2,e,Jr.box] at k2;injection k2 with k2
     injection k2 with _ k2
     exact absurd k2 (by decide))
    by_cases hlt:k < R.length
    ·obtain⟨pk,hik,hpk,-⟩:=Jr.XG.index c k hlt;have Q8:=hpk.key;by_cases jl:R[k].1=a0
     ·have aoe:=Hi (show ∀ j,(h:j < R.length)→j < k+1→R[j].1=a0 from fun j h hj=>by
       by_cases e:j=k
       ·subst e;exact jl
       ·exact AY j h (by omega))
      rw[jl] at Q8;clear AY Jr iN WQ hpk TG atS qm
      gi_wp2
      refine wpIn_region_quiet_lit rfl P6 (by kernel_rfl) ?_
      repeat (gi_big_quiet_step (fail))
      refine wpQuietIn_nil ?_;rintro _⟨nq,rfl⟩
      gi_wp2
      go_roundw
      case rel=>exact⟨k+1,by omega,by omega,by go_num,aoe,CS.below (F6 wr nq),hJ _ _ _ _ Y6 CS.box (A7.of_below (F6 wr nq)),TS _ _ Ag (Uj (ub (F6 wr nq)) (fun _ _ f=>f.elim))⟩
      case measure=>simp[intOf];omega
     ·have aM:=Hi (TG.out fun _=>jl);have hne:(R[k].1 == a0)=false:=(by simpa using jl);generalize R[k]=xk at*;clear AY Jr iN WQ hpk TG jl
      gi_wp2
      refine wpIn_region_quiet_lit rfl P6 (by kernel_rfl) ?_
      repeat (gi_big_quiet_step (fail))
      refine wpQuietIn_nil ?_;rintro _⟨nq,rfl⟩
      gi_wp2
      obtain⟨fn,tmps,assign,body,hy,hR⟩:=aM nq;have FD:=Hi hR;clear hR aM
      gi_wp2
      rw[hy]
      gi_wp2
      refine FD.mono ?_;rintro e W3⟨rfl,h1,h2⟩;have H1:=Hi h1;have H2:=Hi h2;clear h1 h2 hy FD
      gi_wp2
      go_roundw
      case rel=>exact⟨_,H1,H2⟩
      case measure=>
       obtain⟨R',q',c',g1,g2,_,_⟩:=H1.out;rw[yu g1,EY.out,g2,Au,Kq]
       show(ek (dU Z xs.length)).length < _
       rw[←TC.out];exact Mc.out
    ·obtain rfl:k=R.length:=(by omega);have aM:=Hi (TG (fun h=>absurd h (Nat.lt_irrefl _)));simp only[Nat.sub_self] at aM;clear AY Jr iN WQ TG
     gi_wp2
     refine wpIn_region_quiet_lit rfl P6 (by kernel_rfl) ?_
     repeat (gi_big_quiet_step (fail))
     refine wpQuietIn_nil ?_;rintro _⟨nq,rfl⟩
     gi_wp2
     obtain⟨fn,tmps,assign,body,hy,hR⟩:=aM nq;have FD:=Hi hR;clear hR aM
     gi_wp2
     rw[hy]
     gi_wp2
     refine FD.mono ?_;rintro e W3⟨rfl,h1,h2⟩;have H1:=Hi h1;have H2:=Hi h2;clear h1 h2 hy FD
     gi_wp2
     go_roundw
     case rel=>exact⟨_,H1,H2⟩
     case measure=>
      obtain⟨R',q',c',g1,g2,_,_⟩:=H1.out;rw[yu g1,EY.out,g2,Au,Kq]
      show(ek (dU Z xs.length)).length < _
      rw[←TC.out];exact Mc.out
def Yy(ats:Array TypeId)(ty:TypeId)(args:Array Value):Sem Value:=Builtin.append_ ats ty args
theorem nS(ats:Array TypeId)(ty:TypeId)(args:Array Value):Builtin.append_ ats ty args=Yy ats ty args:=rfl
structure IG(B:Nat)(w:World)(oc:Nat)(W:World)(l:List T)(v:Value):Prop where
 Ay:Below B w W
 low:B≤oc
 size:B≤W.heap.size
 box:W.heap[oc]?=some (.cells #[v] 27)
 row:W.ownsRow B 9 1 v l.length (strCells l)
section
variable {B:Nat}{w:World}{oc:Nat}{W W1 W2:World}{l:List T}{v:Value}
theorem IG.ne(h:IG B w oc W l v){k:Nat}(hk:v.ownBlock=some k):k≠oc∧B≤k:=by
 refine⟨fun e=>?_,DC h.row hk⟩;obtain⟨cs,fz,h1⟩:=BQ h.row hk;rw[e,h.box] at h1;injection h1 with h1
 injection h1 with _ h1
 exact absurd h1 (by decide)
theorem IG.upd{F:Nat→Prop}(h:IG B w oc W l v)(hu:A7 F W W1)(hB:∀ k,F k→B≤k)(h1:¬ F oc)(h2:∀ k,v.ownBlock=some k→¬ F k):IG B w oc W1 l v:=
 ⟨Ca h.Ay hu hB h.size,h.low,Ap h.size hu.size,(hu.block oc (Ai h.box) h1).trans h.box,Bh h.row hu h2⟩
theorem IG.below(h:IG B w oc W l v)(hb:Bw W W1):IG B w oc W1 l v:=h.upd (ub hb) (fun _ f=>f.elim) (fun f=>f) (fun _ _ f=>f)
theorem IG.put(h:IG B w oc W l v){k:Nat}{o o':Obj}(ho:W.heap[k]?=some o)(hc:o.isCells=false)(hk:B≤k):IG B w oc (W.putObj k o') l v:=by
 refine h.upd (F:=fun i=>i=k) (A7.of_grownBy (F:=fun i=>i=k) (grownBy_putObj' W k o') (fun i e=>by cases e;rfl)) (fun i e=>by rw[e];exact hk) (fun e=>?_) (fun i hi e=>?_)
 ·rw[←e,h.box] at ho;injection ho with ho
  subst ho;exact absurd hc (by simp[Obj.isCells])
 ·obtain⟨cs,fz,h2⟩:=BQ h.row hi;rw[e,ho] at h2;injection h2 with h2
  subst h2;exact absurd hc (by simp[Obj.isCells])
theorem IG.kind(h:IG B w oc W l v){k:Nat}{cs:Array Value}{t:TypeId}{fz:Nat×Nat}(hk:W.heap[k]?=some (.cells cs t fz))(h1:t≠27)(h2:t≠9):oc≠k∧v.ownBlock≠some k:=by
 refine⟨fun e=>?_,fun e=>?_⟩
 ·rw[←e,h.box] at hk;injection hk with hk
  injection hk with _ hk
  exact h1 hk.symm
 ·obtain⟨c2,f2,h3⟩:=BQ h.row e;rw[hk] at h3;injection h3 with h3
  injection h3 with _ h3
  exact h2 h3
theorem IG.add(h:IG B w oc W l v)(hb:Bw W W1)(hg:W1.grownBy W2 v.ownBlock){v':Value}{k:List T}(ho:W2.ownsRow B 9 1 v' (l.length+k.length) (strCells l++strCells k)):
  IG B w oc (W2.setCell ⟨oc,0,none⟩ v') (l++k) v':=by
 have h1:=h.below hb;have qx:W2.heap[oc]?=some (.cells #[v] 27):=(hg.block oc (Ai h1.box) (fun e=>(h1.ne e.symm).1 rfl)).trans h1.box;have hu:=(A7.refl (fun k=>k=oc) W2).setCell (p:=⟨oc,0,none⟩) (.inl rfl) v';refine⟨(h1.Ay.grown hg h1.size (fun k e=>(h1.ne e).2)).setCell (p:=⟨oc,0,none⟩) h.low v',h.low,Ap (Ap h1.size hg.size) hu.size,BU W2 oc 0 _ _ v' qx,?_⟩;rw[Au,show strCells (l++k)=strCells l++strCells k by unfold strCells;rw[CF]];refine Bh ho hu (fun g hg e=>?_);obtain⟨cs,fz,h2⟩:=BQ ho hg;rw[e,qx] at h2;injection h2 with h2
 injection h2 with _ h2
 exact absurd h2 (by decide)
theorem IG.keeps(h:IG B w oc W l v)(hb:Bw W W1)(hg:W1.grownBy W2 v.ownBlock)(v':Value):KeepsOthers W (W2.setCell ⟨oc,0,none⟩ v'):=by
 have h1:=h.below hb;refine((Uj (ub hb) (fun _ _ f=>f.elim)).trans (KeepsOthers.of_grownBy hg fun j o e ho=>?_)).trans (KeepsOthers.setCell _ _ _);obtain⟨cs,fz,h2⟩:=BQ h1.row e;rw[ho] at h2;injection h2 with h2
 subst h2;rfl
theorem IG.other(h:IG B w oc W l v)(hb:Bw W W1)(hg:W1.grownBy W2 v.ownBlock)(v':Value){k:Nat}{cs:Array Value}{t:TypeId}{fz:Nat×Nat}(hk:W.heap[k]?=some (.cells cs t fz))(h1:t≠27)(h2:t≠9):
  (W2.setCell ⟨oc,0,none⟩ v').heap[k]?=some (.cells cs t fz):=by
 have hk1:=(hb.block k (Ai hk)).trans hk;obtain⟨n1,n2⟩:=(h.below hb).kind hk1 h1 h2;have hk2:=(hg.block k (Ai hk1) (fun e=>n2 e.symm)).trans hk1;exact(((A7.refl (fun k=>k=oc) W2).setCell (p:=⟨oc,0,none⟩) (.inl rfl) v').block k (Ai hk2) (fun e=>n1 e.symm)).trans hk2
theorem azv(x:T)(h:W.ownsRow B 9 1 v l.length (strCells l))(hn:l.length≤1000000000)(hb:B≤W.heap.size):
  ∃ g cap w2,(Yy #[27,27] 27 #[v,.slice (some ⟨W.heap.size,0,none⟩) 1 1]).run prog (W.alloc (.cells #[.string (bs x)] 9))=.ok (.slice (some ⟨g,0,none⟩) (l.length+1) cap) w2∧
   w2.ownsRow B 9 1 (.slice (some ⟨g,0,none⟩) (l.length+1) cap) (l.length+[x].length) (strCells l++strCells [x])∧
   (W.alloc (.cells #[.string (bs x)] 9)).grownBy w2 v.ownBlock:=by
 obtain⟨i0,Ba,AQ,AU,AV⟩:=Du Ta;obtain⟨v',w2,h1,h2,h3,_,_⟩:=run_append_own_at (P:=prog) (W.alloc (.cells #[.string (bs x)] 9)) B 27 27 9 i0 _ 1 16 underlying27 Ba AQ AU AV rfl (by decide) v l.length _ (h.alloc _) ⟨W.heap.size,0,none⟩ 1 1 [.string (bs x)] rfl
  (by intro j u hj;rw[add_plain,DF];exact(Dn▸hj)) (by simp[Value.oneCell']) (by unfold maxLen;omega) (by omega) (by rw[Aq];omega)
 obtain⟨g,cap,rfl⟩:=ownsRow_succ h2;exact⟨g,cap,w2,h1,by unfold strCells at h2 ⊢;exact h2,h3⟩
end
end Prs
end Go.Proofs.YtmbbhdebddbhoaaGreat
