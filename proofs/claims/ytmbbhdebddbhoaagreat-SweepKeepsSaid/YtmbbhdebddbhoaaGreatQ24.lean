/- PrsPut PrsGet PrsKeys -/
import Derived.Test.YtmbbhdebddbhoaaGreatQ23
set_option maxHeartbeats 4000000
set_option maxRecDepth 100000
set_option linter.all false
namespace Go.Proofs.YtmbbhdebddbhoaaGreat
open Tryz
namespace Prs
open Go.RowKit Go.Maps
open Fil Man Wal
theorem CW.kind{w:World}{b:Nat}{l:List UInt8}{fp:Nat→Prop}(h:CW w b l fp)(k:Nat)(hk:fp k):Ap w k 234∨Ap w k 5:=by
 obtain⟨p,v,h1,_,h3,_,_,rfl⟩:=h;rcases hk with rfl|hk
 ·exact .inl ⟨_,_,h1⟩
 ·exact .inr (Bi h3 hk)
theorem CW.akM{w:World}{b:Nat}{l:List UInt8}{fp:Nat→Prop}(h:CW w b l fp){g:Nat}{cs:Array Value}{fr:Nat×Nat}(hg:w.heap[g]?=some (.cells cs 9 fr)):¬ fp g:=fun e=>by
 rcases CW.kind h g e with e|e
 ·exact Ap.ne e ⟨cs,fr,hg⟩ (by decide) rfl
 ·exact Ap.ne e ⟨cs,fr,hg⟩ (by decide) rfl
def CK(l:M):T×Int:=match DX l with|none=>([],5)|some s=>(s,0)
theorem lQ{L:List T}{S:T}(h:textsE L=some S)(t:T):textsE (L++[t])=(CO t).map (S++ ·):=by
 rw[sV,h];simp only[BI,textsE];cases CO t with
 |none=>rfl
 |some x=>simp
theorem lS{L:List T}{t:T}(h:t∈L)(ht:65535 < t.length):textsE L=none:=by
 obtain⟨k,hk,rfl⟩:=List.getElem_of_mem h;exact Zf hk ht
theorem lT{l:M}{k:Nat}(h:k < l.length):flat (l.take (k+1))=flat (l.take k)++[l[k].1,l[k].2]:=by
 rw[BS h,l6];rfl
theorem Xv{l:M}{k:Nat}(h:k < l.length){t:T}(ht:t∈[l[k].1,l[k].2]):t∈flat l:=JE.2 ⟨l[k],BF h,ht⟩
theorem aaD(l:M)(k:Nat):rowLen (flat (l.take k))≤rowLen (flat l):=by
 have:flat (l.take k)=(flat l).take (2*k):=by
  induction l generalizing k with
  |nil=>simp[flat]
  |cons p l ih=>
   cases k with
   |zero=>simp[flat]
   |succ k=>
    rw[List.take_succ_cons,R9,R9,ih k,show 2*(k+1)=2*k+1+1 by omega,List.take_succ_cons,List.take_succ_cons]
 rw[this];exact gT _ _
theorem aaE(a b:List T):rowLen (a++b)+2=rowLen a+rowLen b:=by
 unfold rowLen;rw[C8,Ht];omega
theorem akN(A B:List T)(j:Nat):A++B.take j=(A++B).take (A.length+j):=by
 induction A with
 |nil=>simp
 |cons a A ih=>rw[FL,AX,show A.length+1+j=(A.length+j)+1 by omega,FL,List.take_succ_cons,ih]
structure Dg(w:World)(L:Nat)(T0:List T)(fp:Nat→Prop)(S:T)(wr:World):Prop where
 text:textsE T0=some S
 built:CW wr w.heap.size (Crc.le 2 L++S) fp
 low:∀ q,fp q→w.heap.size≤q
 Ao:Bw w wr
def akO(w:World)(L:Nat)(T0:List T)(x:T×T)(g:Nat)(i:Value)(wr:World):Prop:=
 ∃ (j:Nat) (S2:T) (fp':Nat→Prop),j≤2∧i=.int .i64 (j:Int)∧Dg w L (T0++[x.1,x.2].take j) fp' S2 wr∧wr.heap[g]?=some (.cells #[.string (bs x.1),.string (bs x.2)] 9)
def akP(w:World)(l:M)(i:Value)(wr:World):Prop:=∃ (k:Nat) (S:T) (fp:Nat→Prop),k≤l.length∧i=.int .i64 (k:Int)∧Dg w l.length (flat (l.take k)) fp S wr
theorem aaF{w:World}{a:Option Addr}{cap:Nat}{l:M}(h:Av w a l)(hs:BN l)(hl:l.length≤1000000)(asV:rowLen (flat l)≤1000000000):
  Calls prog 150 #[.slice a l.length cap] w fun e w'=>e=.returned (.tuple #[.string (bs (CK l).1),.int .i64 (CK l).2])∧Bw w w':=by
 by_cases azu:65535 < l.length
 ·have hR:Hid (CK l=([],5)):=Hi (by unfold CK DX;rw[Aa (by omega)]);rw[hR.out];clear h hs;go_enter func150,ntmps150;go_wp2_with fail;go_ret2;exact⟨rfl,Ad _ _⟩
 ·have HH:=Hi h;have HS:=Hi hs;have Pm:=Hi asV;have HB0:=Hi ((Ad w.heap.size w).alloc (Ab _) (.cells #[.pointer none,.slice none 0 0] 234));have Ch:=Hi (CW.made w);clear h hs asV;go_enter func150,ntmps150;go_wp2_with fail;refine(RL l.length 2 _ (by omega) (by decide) (by decide)).mono ?_;rintro e w1⟨rfl,hb⟩;have Li:=Hi (Ch.upd (ub hb) (fun _ _ f=>f));have HB1:=Hi (HB0.trans (hb.mono (by rw[Ai];omega)));clear hb;go_wp2_with fail;refine(QC Li (Crc.le 2 l.length) (by simp[Crc.Be])).mono ?_;rintro e w2⟨rfl,fp2,h1,h2,h3⟩;rw[DI] at h1
  have HST:=Hi (show Dg w l.length (flat (l.take 0)) fp2 [] w2 from⟨rfl,by rw[E8];exact h1,fun q hq=>by
   rcases h3 q hq with h|h
   ·rcases h with h|h
    ·omega
    ·simp[Value.ownBlock] at h
   ·have:=HB1.size;omega,Bu HB1 h2 (fun i hi=>by rcases hi with h|h;omega;simp[Value.ownBlock] at h) HB1.size⟩)
  clear h1 h2 h3 Ch Li HB0 HB1;go_wp2_with fail
  go_loopw [28] (fun i wr=>akP w l i wr) (fun i _=>l.length -(intOf i).toNat)
  case atStart=>exact⟨0,[],fp2,by omega,rfl,HST⟩
  case round=>
   clear HST;obtain⟨k,S,fp,hk,rfl,hst⟩:=hrel;by_cases hlt:k < l.length
   ·obtain⟨p,hix,hp,-⟩:=(HH.below hst.Ao).index cap k hlt;have c1:=hp.key;have c2:=hp.val;have Ou:=Hi (fun t ht=>Xv (t:=t) hlt ht);have I7:=Hi (lT hlt);have GX:=Hi (aaD l (k+1));rw[I7.out] at GX;obtain⟨x,hx⟩:=ex (l[k]);rw[hx] at c1 c2 Ou I7 GX;have HST:=Hi hst;clear hx hp hst;go_wp2_with fail;obtain⟨g,hg⟩:=ex (wr.heap.size+1)
    have OH:=Hi (show ∀ (j:Nat),j < 2→∀ W,(Instr.indexAt 27 (.slice (some ⟨wr.heap.size+1,0,none⟩) 2 2) (.int .i64 (j:Int))).run prog W=.ok (.pointer (some ⟨g,j,none⟩)) W from fun j hj2 W=>by
     have:=Fw prog _ 9 underlying27 1 (by kernel_rfl) ⟨wr.heap.size+1,0,none⟩ 2 2 j hj2 W;rw[Nat.mul_one,add_plain,hg] at this;rw[hg];exact this)
    have LV:=Hi hg;clear hg
    go_loopw [38] (fun i wr2=>akO w l.length (flat (l.take k)) x g i wr2) (fun i _=>2 -(intOf i).toNat)
    case atStart=>
     have hb2:=((Ad wr.heap.size wr).alloc (Ab _) (.cells #[.string (bs x.1),.string (bs x.2)] 75)).alloc (by rw[Ai];omega) (.cells #[.string (bs x.1),.string (bs x.2)] 9);refine⟨0,S,fp,by omega,rfl,⟨by rw[FJ,E8];exact HST.text,HST.built.upd (ub hb2) (fun _ _ f=>f),HST.low,HST.Ao.trans (hb2.mono HST.Ao.size)⟩,?_⟩;have:=Aq (wr.alloc (.cells #[.string (bs x.1),.string (bs x.2)] 75)) (.cells #[.string (bs x.1),.string (bs x.2)] 9);rw[Ai,LV.out] at this;exact this
    case round=>
     obtain⟨j,S2,fp',hj,rfl,hst,axU⟩:=hrel;by_cases hj2:j < 2
     ·obtain⟨t,ht⟩:=ex ([x.1,x.2][j]'(by simpa using hj2));have atE:wr.cell? ⟨g,j,none⟩=some (.string (bs t)):=by
       rw[AY _ _ _ _ _ _ axU,←ht]
       match j,hj2 with
       |0,_=>rfl
       |1,_=>rfl
      have arp:=OH j hj2;have HTM:=Hi (show t∈[x.1,x.2] from by rw[←ht];exact BF _);have HTT:=Hi (show[x.1,x.2].take (j+1)=[x.1,x.2].take j++[t] from by rw[BS (by simpa using hj2),ht]);have HLS:=Hi (Pk hst.text);have Fg:=Hi (aaE (flat (l.take k)++[x.1,x.2].take j) [t])
      have UR:=Hi (show rowLen ((flat (l.take k)++[x.1,x.2].take j)++[t])≤1000000000 from by
       have h1:rowLen ((flat (l.take k)++[x.1,x.2].take j)++[t])≤rowLen (flat (l.take k)++[x.1,x.2]):=by
        rw[Cw,←HTT.out];have e:=akN (flat (l.take k)) [x.1,x.2] (j+1);rw[e];exact gT _ _
       have h2:=GX.out;have h3:=Pm.out;omega)
      have HI:=Hi hst;have MJ:=Hi axU;clear ht hst axU;by_cases avb:65535 < t.length
      ·have hR:Hid (CK l=([],5)):=Hi (by unfold CK DX;rw[Ac (by omega),lS (Ou t HTM) avb];rfl);go_wp2_with fail;refine(gQ t _ avb).mono ?_;rintro e w3⟨rfl,rfl⟩;go_wp2_with fail;go_ret2;rw[hR.out];exact⟨rfl,HI.Ao⟩
      ·have hxl:t.length≤65535:=(by omega);clear avb;go_wp2_with fail;refine(gP t _ hxl).mono ?_;rintro e w3⟨rfl,hb3⟩;have O8:=Hi (HI.built.upd (ub hb3) (fun _ _ f=>f));have HB3:=Hi (HI.Ao.trans (hb3.mono HI.Ao.size));have lU:=Hi ((hb3.block g (Ae MJ)).trans MJ);clear hb3 atE;go_wp2_with fail
       refine(QC O8 (Crc.le 2 t.length++t) (by
        have h1:=HLS.out;have h2:=Fg.out;have h3:=UR.out;have h4:rowLen [t]=4+t.length:=(by unfold rowLen;simp;omega);simp[Crc.Be];omega)).mono ?_
       rintro e w4⟨rfl,Ky,h1,h2,h3⟩
       have Tc:=Hi (show Dg w l.length (flat (l.take k)++[x.1,x.2].take (j+1)) Ky (S2++(Crc.le 2 t.length++t)) w4 from⟨by rw[HTT.out,←Cw,lQ HI.text];unfold CO;rw[Ac hxl];rfl,by rw[←Cw];exact h1,fun q hq=>by
        rcases h3 q hq with h|h
        ·exact HI.low q h
        ·exact Ah HB3.size h,Bu HB3 h2 HI.low HB3.size⟩)
       have akS:=Hi ((h2.block g (Ae lU) (CW.akM O8 lU)).trans lU);clear h1 h2 h3;go_wp2_with fail;go_roundw
       case rel=>exact⟨j+1,_,Ky,by omega,by go_num,Tc,akS⟩
       case measure=>simp[intOf];omega
     ·obtain rfl:j=2:=(by omega);have HI:=Hi (show Dg w l.length (flat (l.take (k+1))) fp' S2 wr from by rw[I7.out];exact hst);clear hst axU;go_wp2_with fail;go_roundw
      case rel=>exact⟨k+1,S2,fp',by omega,by go_num,HI⟩
      case measure=>simp[intOf];omega
   ·obtain rfl:k=l.length:=(by omega);rw[Ck] at hst;have HST:=Hi hst;have hR:Hid (CK l=(Crc.le 2 l.length++S,0)):=Hi (by unfold CK DX;rw[Ac (by omega),hst.text];rfl);have HC:=Hi (aaC (cap:=cap) (HH.below hst.Ao) hl);rw[Ac HS.out] at HC;clear hst;go_wp2_with fail;refine HC.mono ?_;rintro e w3⟨rfl,hb3⟩;have O8:=Hi (HST.built.upd (ub hb3) (fun _ _ f=>f));have HB3:=Hi (HST.Ao.trans (hb3.mono HST.Ao.size));clear hb3;go_wp2_with fail;refine(Qs O8).mono ?_;rintro e w4⟨rfl,hu⟩;have Ay:=Hi (Bu HB3 hu HST.low HB3.size);clear hu;go_wp2_with fail;go_ret2;rw[hR.out];exact⟨rfl,Ay⟩
def PO(w:World)(s:T)(e:Ending)(w':World):Prop:=match F6 s with
 |none=>e=.returned (.tuple #[.slice none 0 0,.int .i64 7])∧Bw w w'
 |some l=>∃ v,e=.returned (.tuple #[v,.int .i64 0])∧AP w' w.heap.size v l∧Bw w w'
theorem Xw{w w':World}{s:T}{e:Ending}(h:F6 s=none)(he:e=.returned (.tuple #[.slice none 0 0,.int .i64 7]))(hb:Bw w w'):PO w s e w':=by
 unfold PO;rw[h];exact⟨he,hb⟩
theorem akT{w w':World}{s:T}{e:Ending}{v:Value}{l:M}(h:F6 s=some l)(he:e=.returned (.tuple #[v,.int .i64 0]))(ho:AP w' w.heap.size v l)(hb:Bw w w'):PO w s e w':=by
 unfold PO;rw[h];exact⟨v,he,ho,hb⟩
structure aY(w:World)(s:T)(n:Nat)(i:Nat)(S:T)(l:M)(v:Value)(wr:World):Prop where
 le:i≤n
 len:l.length=i
 short:S.length≤s.length
 read:readTs (2*n) (s.drop 2)=(readTs (2*n -2*i) S).map fun q=>(flat l++q.1,q.2)
 row:AP wr w.heap.size v l
 Ao:Bw w wr
def akU(w:World)(s:T)(n:Nat)(sv lv iv:Value)(wr:World):Prop:=∃ (i:Nat) (S:T) (l:M),sv=.string (bs S)∧iv=.int .u64 (i:Int)∧aY w s n i S l lv wr
theorem aaH(s:T)(w:World)(hs:s.length≤1000000000):Calls prog 194 #[.string (bs s)] w fun e w'=>PO w s e w':=by
 obtain⟨i0,hi0,hz0,hz1,hz2⟩:=Cz LU;by_cases h2:s.length < 2
 ·have hR:Hid (F6 s=none):=Hi (by unfold F6;rw[Ac h2]);go_enter func194,ntmps194;go_wp2_with fail;exact Dt (v:=.tuple #[.slice none 0 0,.int .i64 7]) (by simp[results,results194,go_sem]) rfl (Xw hR.out rfl (Ad _ _))
 ·have hc2:∀ W,(Instr.slice 9 (.string (bs s)) none (some (.int .i64 2)) none).run prog W=.ok (.string (bs (s.take 2))) W:=fun W=>Ji prog W 9 underlying9 s 2 (by omega)
  have hcf:∀ W,(Instr.slice 9 (.string (bs s)) (some (.int .i64 2)) none none).run prog W=.ok (.string (bs (s.drop 2))) W:=fun W=>Ik prog W 9 underlying9 s 2 (by omega)
  have hlt:(s.take 2).length=2:=by rw[Aw];omega
  have hv:=Crc.Gg (s.take 2);rw[hlt] at hv;have Jj:=Hi (fun(W:World)=>QB (s.take 2) W (by omega) (by omega));obtain⟨n,hn⟩:=ex (Crc.val (s.take 2));have HRR:=Hi (show F6 s=(readTs (2*n) (s.drop 2)).bind fun q=>if q.2=[]∧BN (unflat q.1) then some (unflat q.1) else none from by unfold F6;rw[Aa h2,hn]);rw[hn] at Jj hv;have hnb:n < 65536:=hv;have hsi:¬ (s.length:Int) < 2:=by omega
  clear hn hlt hv;go_enter func194,ntmps194;go_wp2_with fail;refine(Jj _).mono ?_;rintro e w1⟨rfl,rfl⟩;go_wp2_with fail
  go_loopw [0,2,23] (fun sv lv iv wr=>akU w s n sv lv iv wr) (fun _ _ iv _=>n -(intOf iv).toNat)
  case atStart=>exact⟨0,s.drop 2,[],rfl,rfl,Ar _,rfl,by rw[BA];omega,by simp[flat],by unfold AP;rw[LQ];exact DJ _ _ _ _,Ad _ _⟩
  case round=>
   obtain⟨i,S,l,rfl,rfl,hst⟩:=hrel;have HST:=Hi hst;have RX:=hst.short;have hle:=hst.le;by_cases hlt:i < n
   ·cases hr:Fu S with
    |none=>
     have hV:Dx S=([],0,6):=(by unfold Dx;rw[hr]);have Fa:=Hi (fun(W:World)=>Un S W (by omega));rw[hV] at Fa;have hR:Hid (F6 s=none):=Hi (by rw[HRR.out,Ur (j:=2*i) (by omega) hst.read hr];rfl);clear hst hV hr;go_wp2_with fail;refine(Fa _).mono ?_;rintro e w2⟨rfl,hb⟩;have HB:=Hi hb;clear hb;go_wp2_with fail;exact Dt (v:=.tuple #[.slice none 0 0,.int .i64 7]) (by simp[results,results194,go_sem]) rfl (Xw hR.out rfl (HST.Ao.trans (HB.mono HST.Ao.size)))
    |some r=>
     obtain⟨k,n1⟩:=r;obtain⟨_,hn1,_⟩:=RN hr;have hV:Dx S=(k,n1,0):=(by unfold Dx;rw[hr]);have Fa:=Hi (fun(W:World)=>Un S W (by omega));rw[hV] at Fa;have Dn:=Hi (Uq (j:=2*i) (by omega) hst.read hr);have hcut:∀ W,(Instr.slice 9 (.string (bs S)) (some (.int .i64 (n1:Int))) none none).run prog W=.ok (.string (bs (S.drop n1))) W:=fun W=>Ik prog W 9 underlying9 S n1 hn1
     cases hr2:Fu (S.drop n1) with
     |none=>
      have hV2:Dx (S.drop n1)=([],0,6):=(by unfold Dx;rw[hr2]);have Mj:=Hi (fun(W:World)=>Un (S.drop n1) W (by rw[BA];omega));rw[hV2] at Mj;have hR:Hid (F6 s=none):=Hi (by rw[HRR.out,Ur (j:=2*i+1) (by omega) Dn hr2];rfl);clear hst hV hr hV2 hr2;go_wp2_with fail;refine(Fa _).mono ?_;rintro e w2⟨rfl,hb⟩;have HB:=Hi (HST.Ao.trans (hb.mono HST.Ao.size));clear hb;go_wp2_with fail;refine(Mj _).mono ?_;rintro e w3⟨rfl,hb⟩;have HB3:=Hi (HB.trans (hb.mono HB.size));clear hb;go_wp2_with fail;exact Dt (v:=.tuple #[.slice none 0 0,.int .i64 7]) (by simp[results,results194,go_sem]) rfl (Xw hR.out rfl HB3)
     |some r2=>
      obtain⟨v,n2⟩:=r2;obtain⟨_,hn2,_⟩:=RN hr2;rw[BA] at hn2;have hV2:Dx (S.drop n1)=(v,n2,0):=(by unfold Dx;rw[hr2]);have Mj:=Hi (fun(W:World)=>Un (S.drop n1) W (by rw[BA];omega));rw[hV2] at Mj;have RY:=Hi (Uq (j:=2*i+1) (by omega) Dn hr2);have akV:∀ W,(Instr.slice 9 (.string (bs S)) (some (.int .i64 ((n1:Int)+(n2:Int)))) none none).run prog W=.ok (.string (bs (S.drop (n1+n2)))) W:=fun W=>by
       have:=Ik prog W 9 underlying9 S (n1+n2) (by omega);rwa[Int.natCast_add] at this
      have hwr:IntKind.i64.wrap ((n1:Int)+(n2:Int))=(n1:Int)+(n2:Int):=CZ _ (by omega);have asV:(n1:Int)+(n2:Int)≤1000000000:=(by omega);have akW:(n1:Int)+(n2:Int)≤(S.length:Int):=(by omega);have akX:((n1:Int)+(n2:Int)).toNat=n1+n2:=(by omega);have Td:=Hi hn1;have Jh:=Hi hn2;obtain⟨qo,co,rfl⟩:=AA hst.row;clear hst hV hr hV2 hr2 hn1 hn2;go_wp2_with fail;refine(Fa _).mono ?_;rintro e w2⟨rfl,hb⟩;have HR2:=Hi (Bp HST.row hb);have HB:=Hi (HST.Ao.trans (hb.mono HST.Ao.size));clear hb;go_wp2_with fail;refine(Mj _).mono ?_;rintro e w3⟨rfl,hb⟩;have HR3:=Hi (Bp HR2 hb);have HB3:=Hi (HB.trans (hb.mono HB.size));clear hb;go_wp2_with fail
      go_region_law
       ((refine step_append_lies _ (by rfl) _ _ _ (by rfl) w.heap.size 75 i0 _ 2 32 underlying22 hi0 hz0 hz1 hz2 (by rfl) (by omega) (.slice qo l.length co) l.length (Cj l) (by rfl) ((HR3.alloc _).drew) ⟨w3.heap.size,0,none⟩ 1 1 [.string (bs k),.string (bs v)] (by rfl) (by rfl) (World.news_of_block (cs:=#[.string (bs k),.string (bs v)]) (t:=75) (fr:=(0,0)) (Aq w3 _)) (fun u hu=>by simp at hu;rcases hu with rfl|rfl<;>rfl) (by omega) (by have:=HST.len;have:=HST.le;unfold maxLen;omega) (by have:=HST.len;have:=HST.le;omega) (by have:=HB3.size;rw[World.size_drew,Ai];omega) (w3.heap.size+1) (by simp) ?_;intro gg cap2 w4 avo asx hat avm))
      all_goals
       have Tc:=Hi (show aY w s n (i+1) (S.drop (n1+n2)) (l++[(k,v)]) (.slice (some ⟨gg,0,none⟩) (l.length+1) cap2) w4 from
        ⟨by omega,by rw[Aj,HST.len];rfl,by rw[BA];omega,by
         have:=RY.out;rw[show 2*n -(2*i+1+1)=2*n -2*(i+1) by omega,List.drop_drop] at this;rw[this,l6]
         congr 1
         funext q
         simp[flat],by unfold AP;rw[Aj,NJ];exact avo,
         ((HB3.alloc HB3.size _).drew).grown asx (by have:=HB3.size;rw[World.size_drew,Ai];omega) (fun k e=>CJ HR3 e)⟩)
       clear avo asx hat;go_wp2_with fail;go_roundw
       case rel=>
        first
        |exact⟨i+1,S.drop (n1+n2),l++[(k,v)],rfl,by go_num,Tc⟩
        |(repeat apply Exists.intro
          refine⟨?_,rfl⟩;exact⟨i+1,S.drop (n1+n2),l++[(k,v)],rfl,by go_num,Tc⟩)
       case measure=>
        show n -((i:Int)+1).toNat < n -((i:Int)).toNat
        omega
   ·obtain rfl:i=n:=(by omega);have hrs:readTs (2*i) (s.drop 2)=some (flat l,S):=by
     rw[hst.read,Nat.sub_self];simp[readTs]
    have Te:=Hi (show F6 s=if S=[]∧BN l then some l else none from by rw[HRR.out,hrs];simp only[BI];rw[aG]);obtain⟨qo,co,rfl,hqo,hco⟩:=Dl hst.row;have Tf:=Hi (aaC (cap:=co) (Av.BU hst.row) (by have:=hst.len;omega));clear hst hrs;by_cases hS:S=[]
    ·subst hS;by_cases LW:BN l
     ·have hR:Hid (F6 s=some l):=Hi (by rw[Te.out,Ac ⟨rfl,LW⟩]);rw[Ac LW] at Tf;clear LW;go_wp2_with fail;refine Tf.mono ?_;rintro e w2⟨rfl,hb⟩;have HR2:=Hi (Bp HST.row hb);have HB:=Hi (HST.Ao.trans (hb.mono HST.Ao.size));clear hb;go_wp2_with fail;exact Dt (v:=.tuple #[.slice qo l.length co,.int .i64 0]) (by simp[results,results194,go_sem]) rfl (akT hR.out rfl HR2 HB)
     ·have hR:Hid (F6 s=none):=Hi (by rw[Te.out,Aa (fun h=>LW h.2)]);rw[Aa LW] at Tf;clear LW;go_wp2_with fail;refine Tf.mono ?_;rintro e w2⟨rfl,hb⟩;have HB:=Hi (HST.Ao.trans (hb.mono HST.Ao.size));clear hb;go_wp2_with fail;exact Dt (v:=.tuple #[.slice none 0 0,.int .i64 7]) (by simp[results,results194,go_sem]) rfl (Xw hR.out rfl HB)
    ·have hR:Hid (F6 s=none):=Hi (by rw[Te.out,Aa (fun h=>hS h.1)]);have hne:S.isEmpty=false:=by
      cases S with
      |nil=>exact absurd rfl hS
      |cons=>rfl
     clear hS;go_wp2_with fail;exact Dt (v:=.tuple #[.slice none 0 0,.int .i64 7]) (by simp[results,results194,go_sem]) rfl (Xw hR.out rfl HST.Ao)
end Prs
namespace Prs
open Go.RowKit Go.Maps Go.Shelf
open Fil Man Wal Sha
attribute [local go_sem] Le
theorem dropWhile_drop{α:Type}(p:α→Bool):∀ (l:List α) (k:Nat),k≤l.length→(∀ j,(h:j < l.length)→j < k→p l[j]=true)→(∀ h:k < l.length,p l[k]=false)→l.dropWhile p=l.drop k
 |[],k,_,_,_=>by simp
 |x :: l,0,_,_,h2=>by
  have:=h2 (by simp);rw[List.drop_zero,List.dropWhile_cons_of_neg (by simpa using this)]
 |x :: l,k+1,hk,h1,h2=>by
  have h0:=h1 0 (by simp) (by omega);rw[List.dropWhile_cons_of_pos (by simpa using h0),List.drop_succ_cons];exact dropWhile_drop p l k (by simpa using hk) (fun j hj hjk=>h1 (j+1) (by simpa using hj) (by omega)) (fun h=>h2 (by simpa using h))
theorem akY{R:M}{k:Nat}(h1:1≤k)(hk:k≤R.length)(ha:∀ j,(h:j < R.length)→j < k→R[j].1=(R[0]'(by omega)).1)(hb:∀ h:k < R.length,R[k].1≠(R[0]'(by omega)).1):heads R=(R[0]'(by omega)).1 :: heads (R.drop k):=by
 cases R with
 |nil=>simp at hk;omega
 |cons x R=>
  rw[zQ];obtain⟨k,rfl⟩:∃ j,k=j+1:=⟨k -1,by omega⟩;rw[dropWhile_drop _ R k (by simpa using hk) (fun j hj hjk=>by have:=ha (j+1) (by simpa using hj) (by omega);simpa using this) (fun h=>by have:=hb (by simpa using h);simpa using this)];rfl
def Vi:M→M
 |[]=>[]
 |x :: l=>l.dropWhile fun y=>decide (y.1=x.1)
def Vj(Z:M):Nat→M
 |0=>Z
 |k+1=>Vi (Vj Z k)
theorem akZ{R:M}{k:Nat}(h1:1≤k)(hk:k≤R.length)(ha:∀ j,(h:j < R.length)→j < k→R[j].1=(R[0]'(by omega)).1)(hb:∀ h:k < R.length,R[k].1≠(R[0]'(by omega)).1):Vi R=R.drop k:=by
 cases R with
 |nil=>simp at hk;omega
 |cons x R=>
  obtain⟨k,rfl⟩:∃ j,k=j+1:=⟨k -1,by omega⟩;exact dropWhile_drop _ R k (by simpa using hk) (fun j hj hjk=>by have:=ha (j+1) (by simpa using hj) (by omega);simpa using this) (fun h=>by have:=hb (by simpa using h);simpa using this)
theorem al0{R:M}(h:R≠[]):(Vi R).length < R.length:=by
 cases R with
 |nil=>exact absurd rfl h
 |cons x R=>
  have:=(List.dropWhile_sublist (l:=R) fun y=>decide (y.1=x.1)).length_le
  show(R.dropWhile _).length < _
  simp only[AX];omega
theorem Av.of_block{W W':World}{q:Option Addr}{R:M}(h:Av W q R)(he:∀ p,q=some p→R≠[]→W'.heap[p.block]?=W.heap[p.block]?):Av W' q R:=fun i hi=>by
 obtain⟨p,e,hp⟩:=h i hi;have hb:=he p e (List.ne_nil_of_length_pos (by omega));rw[←add_block p (i*2)] at hb;exact⟨p,e,(World.cell?_of_block hb).trans hp.key,(World.cell?_of_block (a:=⟨(p.add (i*2)).block,(p.add (i*2)).off+1,none⟩) hb).trans hp.val⟩
structure Hl(W1:World)(Bx g:Nat)(R:M)(q:Option Addr)(c:Nat)(W:World):Prop where
 box:W.heap[Bx]?=some (.cells #[.slice q R.length c] 22)
 at_:Av W1 q R
 blk:∀ p,q=some p→R≠[]→p.block=g
 src:R≠[]→∃ cs fr,W1.heap[g]?=some (.cells cs 75 fr)∧W.heap[g]?=some (.cells cs 75 fr)
 cap:R.length≤c
 small:R.length≤1000000
section
variable {W1:World}{Bx g:Nat}{R:M}{q:Option Addr}{c:Nat}{W W':World}
theorem Hl.Tg(h:Hl W1 Bx g R q c W):Av W q R:=h.at_.of_block fun p e hR=>by
 obtain⟨cs,fr,h1,h2⟩:=h.src hR;rw[h.blk p e hR,h1,h2]
theorem Hl.upd{F:Nat→Prop}(h:Hl W1 Bx g R q c W)(hu:A7 F W W')(h1:¬ F Bx)(h2:∀ cs fr,W.heap[g]?=some (.cells cs 75 fr)→¬ F g):Hl W1 Bx g R q c W':=
 ⟨(hu.block Bx (Ae h.box) h1).trans h.box,h.at_,h.blk,fun hR=>by
  obtain⟨cs,fr,k1,k2⟩:=h.src hR;exact⟨cs,fr,k1,(hu.block g (Ae k2) (h2 cs fr k2)).trans k2⟩,h.cap,h.small⟩
theorem Hl.below(h:Hl W1 Bx g R q c W)(hb:Bw W W'):Hl W1 Bx g R q c W':=h.upd (ub hb) (fun f=>f) (fun _ _ _ f=>f)
theorem Hl.put(h:Hl W1 Bx g R q c W){k:Nat}{o o':Obj}(ho:W.heap[k]?=some o)(hc:o.isCells=false):Hl W1 Bx g R q c (W.putObj k o'):=by
 refine⟨ME h.box ho hc,h.at_,h.blk,fun hR=>?_,h.cap,h.small⟩;obtain⟨cs,fr,k1,k2⟩:=h.src hR;refine⟨cs,fr,k1,?_⟩;rw[World.putObj_heap_other (fun e=>?_)]
 ·exact k2
 ·subst e;rw[k2] at ho;injection ho with ho
  subst ho;exact absurd hc (by simp[Obj.isCells])
theorem Hl.next(h:Hl W1 Bx g R q c W){k:Nat}(hk:k≤R.length):Hl W1 Bx g (R.drop k) (FT q c k) (c -k) (W.setCell ⟨Bx,0,none⟩ (.slice (FT q c k) (R.length -k) (c -k))):=by
 have hl:(R.drop k).length=R.length -k:=BA;refine⟨by rw[hl];exact Bh W Bx 0 _ _ _ h.box,h.at_.back hk h.cap,fun p e hR=>?_,fun hR=>?_,by rw[hl];have:=h.cap;omega,by rw[hl];have:=h.small;omega⟩
 ·have hR2:R≠[]:=fun e=>hR (by rw[e];simp)
  unfold FT at e;split at e
  ·exact h.blk p e hR2
  ·cases q with
   |none=>cases e
   |some p0=>
    simp only[Dm,Bt] at e;rw[←e,add_block];exact h.blk p0 rfl hR2
 ·have hR2:R≠[]:=fun e=>hR (by rw[e];simp)
  obtain⟨cs,fr,k1,k2⟩:=h.src hR2;refine⟨cs,fr,k1,(((A7.refl (fun k=>k=Bx) W).setCell (p:=⟨Bx,0,none⟩) (.inl rfl) _).block g (Ae k2) (fun e=>?_)).trans k2⟩;rw[e,h.box] at k2;injection k2 with k2
  injection k2 with _ k2
  exact absurd k2 (by decide)
end
def al1(x:Value×T):Array Value:=#[x.1]
def Xx(W1:World)(Bx g:Nat)(Z:M)(J:List T→World→Prop)(xs:List (Value×T))(W:World):Prop:=
 ∃ R q c,Hl W1 Bx g R q c W∧R=Vj Z xs.length∧heads Z=xs.map (·.2)++heads R∧J (xs.map (·.2)) W
def lV(W1:World)(Bx g:Nat)(Z:M)(J:List T→World→Prop)(xs:List (Value×T))(x:Value×T)(W:World):Prop:=
 ∃ R q c,Hl W1 Bx g R q c W∧R=Vj Z (xs.length+1)∧heads Z=xs.map (·.2)++x.2 :: heads R∧J (xs.map (·.2)) W∧∃ p n c',x.1=.slice (some p) (n+1) c'∧W.cell? p=some (.string (bs x.2))∧n < 1000000
def lW(Bx:Nat)(W:World):Nat:=match W.cell? ⟨Bx,0,none⟩ with
 |some (.slice _ n _)=>n
 |_=>0
theorem lX{W1:World}{Bx g:Nat}{R:M}{q:Option Addr}{c:Nat}{W:World}(h:Hl W1 Bx g R q c W):lW Bx W=R.length:=by
 unfold lW;rw[AY _ _ _ _ _ _ h.box];rfl
theorem al2(q:Option Addr)(m c:Nat)(w:World):
  Calls prog 137 #[.slice q m c] w fun e w'=>e=.returned (.func (.func 188) #[] #[.pointer (some ⟨w.heap.size,0,none⟩)])∧w'=w.alloc (.cells #[.slice q m c] 22):=by
 go_enter func137,ntmps137;go_wp2_with fail;go_ret;exact⟨rfl,rfl⟩
theorem al3(W:World)(q:Option Addr)(n cap k:Nat)(hk:k≤n)(hc:n≤cap):
  (Instr.slice 22 (.slice q n cap) none (some (.int .i64 (k:Int))) (some (.int .i64 (k:Int)))).run prog W=.ok (.slice q k k) W:=by
 obtain⟨i,hi,_,hs,_⟩:=Cz LU;cases q<;>simp[Instr.slice,ER underlying22,Instr.sliceBounds,sizeOf,typeInfo,hi,go_sem]<;>omega
theorem al4(n:Nat)(hn:1≤n)(W1:World)(Bx g:Nat)(Z:M){J:List T→World→Prop}(hJ:∀ ks W W' cs,J ks W→W.heap[Bx]?=some (.cells cs 22)→A7 (fun k=>k=Bx) W W'→J ks W')(w:World):
  SH n prog 188 #[.pointer (some ⟨Bx,0,none⟩)] al1 (Xx W1 Bx g Z J) (lV W1 Bx g Z J) (fun xs=>xs.map (·.2)=heads Z) w:=by
 intro l Bk W OC hY hW h0 hk0;have H0:=Hi h0;have GJ:=Hi hk0;clear h0 hk0;refine callsIn_of_wp func188 rfl trivial ?_ rfl;simp only[ntmps188,Ih,AX,FN,Nat.reduceAdd,Nat.reduceSub,JB,JA,Jz,JC,DI,FL]
 gi_wp2
 gi_loopw [3] (fun _ wr=>∃ xs,Xx W1 Bx g Z J xs wr∧Bk wr) (fun _ wr=>lW Bx wr)
 case atStart=>exact⟨[],H0,GJ⟩
 case round=>
  obtain⟨xs,⟨R,q,c,hG,Ti,hZ,hJs⟩,hk⟩:=hrel;have Mh:prog.follows .mixedOrders=true:=by kernel_rfl
  have hbx:wr.cell? ⟨Bx,0,none⟩=some (.slice q R.length c):=cr hG.box;have HG:=Hi hG;have O7:=Hi Ti;have HZ:=Hi hZ;have HJ:=Hi hJs;have HK:=Hi hk;clear hG Ti hZ hJs hk H0 GJ;by_cases hR:R=[]
  ·have HE:=Hi (show xs.map (·.2)=heads Z from by rw[HZ.out,hR,zP,E8]);have hz:¬ (0:Int) < (R.length:Int):=(by rw[hR];simp);clear hR
   gi_wp2
   go_end0
   exact⟨⟨_,rfl⟩,xs,HE,⟨R,q,c,HG,O7,HZ,HJ⟩,HK⟩
  ·have ayG:=List.length_pos_iff.2 hR;have hz:(0:Int) < (R.length:Int):=by omega
   gi_wp2
   obtain⟨a0,ha0⟩:=ex ((R[0]'ayG).1);have Tj:=Hi (show ∀ h:0 < R.length,(R[0]'h).1=a0 from fun _=>ha0);have aZ:=Hi ayG;have Tk:∀ W,∃ p:Addr,q=some p∧(Instr.indexAt 22 (.slice q R.length c) (.int .i64 0)).run prog W=.ok (.pointer (some p)) W:=fun W=>by
    obtain⟨p,rfl,hp⟩:=HG.Tg 0 ayG;have:=Fw prog _ 75 underlying22 2 (by kernel_rfl) p R.length c 0 ayG W;rw[Nat.zero_mul,add_zero'] at this;exact⟨p,rfl,this⟩
   obtain⟨p0,rfl,-⟩:=Tk wr;have hx0:∀ W,(Instr.indexAt 22 (.slice (some p0) R.length c) (.int .i64 0)).run prog W=.ok (.pointer (some p0)) W:=fun W=>by
    obtain⟨p,e,h⟩:=Tk W;cases e;exact h
   have HX0:=Hi hx0;have atv:=Hi (lX HG);have IV:=Hi (al0 hR);clear hR ha0 ayG Tk hx0 hbx hz
   gi_loopw [3] (fun i wr2=>∃ k:Nat,1≤k∧k≤R.length∧i=.int .i64 (k:Int)∧(∀ j,(h:j < R.length)→j < k→R[j].1=a0)∧Hl W1 Bx g R (some p0) c wr2∧J (xs.map (·.2)) wr2∧Bk wr2) (fun i _=>R.length -(intOf i).toNat)
   case atStart=>exact⟨1,Ab _,aZ,rfl,(fun j h hj=>by
    obtain rfl:j=0:=(by omega);exact Tj h),HG,HJ,HK⟩
   case round=>
    clear HG HJ HK;obtain⟨k,hk1,hkl,rfl,asD,hG2,hJ2,hB2⟩:=hrel;have Tm:wr.cell? ⟨Bx,0,none⟩=some (.slice (some p0) R.length c):=cr hG2.box;have agb:=Cb _ _ 0 _ _ hG2.box;have hc0:wr.cell? p0=some (.string (bs a0)):=by
     obtain⟨p,e,hp⟩:=hG2.Tg 0 aZ.out;cases e;have:=hp.key;rwa[Nat.zero_mul,add_zero',Tj aZ.out] at this
    have hx0:=HX0.out;have hsm:=hG2.small;have Eh:=Hi asD;have HG2:=Hi hG2;have HJ2:=Hi hJ2;have HB2:=Hi hB2;have Vk:(0:Int) < (k:Int):=(by omega);have al5:=fun W=>al3 W (some p0) R.length c k hkl hG2.cap
    have ayS:=fun W=>Vf W (some p0) R.length c k hkl
    have Oh:=Hi (show(∀ h:k < R.length,R[k].1≠a0)→∀ (nq:Nat),YieldAt Fence.wide (n -1) prog l #[.slice (some p0) k k] ((wr.drewN nq).setCell ⟨Bx,0,none⟩ (.slice (FT (some p0) c k) (R.length -k) (c -k))) fun e W'=>e=.returned (.bool true)∧Xx W1 Bx g Z J (xs++[(.slice (some p0) k k,a0)]) W'∧Bk W' from fun hb nq=>by
     have hd:Bw wr (wr.drewN nq):=DK wr nq;have hGd:=hG2.below hd;have htl:=akZ hk1 hkl (fun j h hj=>by rw[asD j h hj,Tj.out]) (fun h=>by rw[Tj.out];exact hb h);have hhd:=akY hk1 hkl (fun j h hj=>by rw[asD j h hj,Tj.out]) (fun h=>by rw[Tj.out];exact hb h);rw[Tj.out] at hhd;have hne:R≠[]:=List.length_pos_iff.1 aZ;have hu:A7 (fun k=>k=Bx) wr ((wr.drewN nq).setCell ⟨Bx,0,none⟩ (.slice (FT (some p0) c k) (R.length -k) (c -k))):=(A7.of_below (F:=fun k=>k=Bx) hd).setCell (p:=⟨Bx,0,none⟩) (.inl rfl) _;refine hY xs (.slice (some p0) k k,a0) _ ⟨R.drop k,FT (some p0) c k,c -k,hGd.next hkl,by show _=Vi (Vj Z xs.length);rw[←O7.out,htl],by rw[HZ.out,hhd],hJ _ _ _ _ hJ2 hG2.box hu,p0,k -1,k,by show Value.slice _ _ _=_;rw[Nat.sub_add_cancel hk1],?_,by have:=hG2.small;omega⟩ (OC _ _ hB2 ((OE (ub hd) (fun _ _ f=>f.elim)).trans (KeepsOthers.setCell _ _ _)));refine(hu.cell (Bz hc0) (fun e=>?_)).trans hc0;obtain⟨cs,fr,_,k2⟩:=hG2.src hne;have e2:p0.block=g:=hG2.blk p0 rfl hne;rw[←e2,e,hG2.box] at k2;injection k2 with k2
     injection k2 with _ k2
     exact absurd k2 (by decide))
    by_cases hlt:k < R.length
    ·obtain⟨pk,hik,hpk,-⟩:=hG2.Tg.index c k hlt;have hck:=hpk.key;by_cases Xy:R[k].1=a0
     ·have al7:=Hi (show ∀ j,(h:j < R.length)→j < k+1→R[j].1=a0 from fun j h hj=>by
       by_cases e:j=k
       ·subst e;exact Xy
       ·exact asD j h (by omega))
      rw[Xy] at hck;clear asD hG2 hJ2 hB2 hpk Oh al5 ayS
      gi_wp2
      refine wpIn_region_quiet_lit rfl Mh (by kernel_rfl) ?_
      repeat (gi_big_quiet_step (fail))
      refine wpQuietIn_nil ?_;rintro _⟨nq,rfl⟩
      gi_wp2
      go_roundw
      case rel=>exact⟨k+1,by omega,by omega,by go_num,al7,HG2.below (DK wr nq),hJ _ _ _ _ HJ2 HG2.box (A7.of_below (DK wr nq)),OC _ _ HB2 (OE (ub (DK wr nq)) (fun _ _ f=>f.elim))⟩
      case measure=>simp[intOf];omega
     ·have Vl:=Hi (Oh.out fun _=>Xy);have hne:(R[k].1 == a0)=false:=(by simpa using Xy);generalize R[k]=xk at*;clear asD hG2 hJ2 hB2 hpk Oh Xy
      gi_wp2
      refine wpIn_region_quiet_lit rfl Mh (by kernel_rfl) ?_
      repeat (gi_big_quiet_step (fail))
      refine wpQuietIn_nil ?_;rintro _⟨nq,rfl⟩
      gi_wp2
      obtain⟨fn,tmps,assign,body,hy,hR⟩:=Vl nq;have HRR:=Hi hR;clear hR Vl
      gi_wp2
      rw[hy]
      gi_wp2
      refine HRR.mono ?_;rintro e W3⟨rfl,h1,h2⟩;have H1:=Hi h1;have H2:=Hi h2;clear h1 h2 hy HRR
      gi_wp2
      go_roundw
      case rel=>exact⟨_,H1,H2⟩
      case measure=>
       obtain⟨R',q',c',g1,g2,_,_⟩:=H1.out;rw[lX g1,atv.out,g2,Aj,Ii]
       show(Vi (Vj Z xs.length)).length < _
       rw[←O7.out];exact IV.out
    ·obtain rfl:k=R.length:=(by omega);have Vl:=Hi (Oh (fun h=>absurd h (Nat.lt_irrefl _)));simp only[Nat.sub_self] at Vl;clear asD hG2 hJ2 hB2 Oh
     gi_wp2
     refine wpIn_region_quiet_lit rfl Mh (by kernel_rfl) ?_
     repeat (gi_big_quiet_step (fail))
     refine wpQuietIn_nil ?_;rintro _⟨nq,rfl⟩
     gi_wp2
     obtain⟨fn,tmps,assign,body,hy,hR⟩:=Vl nq;have HRR:=Hi hR;clear hR Vl
     gi_wp2
     rw[hy]
     gi_wp2
     refine HRR.mono ?_;rintro e W3⟨rfl,h1,h2⟩;have H1:=Hi h1;have H2:=Hi h2;clear h1 h2 hy HRR
     gi_wp2
     go_roundw
     case rel=>exact⟨_,H1,H2⟩
     case measure=>
      obtain⟨R',q',c',g1,g2,_,_⟩:=H1.out;rw[lX g1,atv.out,g2,Aj,Ii]
      show(Vi (Vj Z xs.length)).length < _
      rw[←O7.out];exact IV.out
def Tn(ats:Array TypeId)(ty:TypeId)(args:Array Value):Sem Value:=Builtin.append_ ats ty args
theorem bf(ats:Array TypeId)(ty:TypeId)(args:Array Value):Builtin.append_ ats ty args=Tn ats ty args:=rfl
structure G9(B:Nat)(w:World)(oc:Nat)(W:World)(l:List T)(v:Value):Prop where
 Ao:Below B w W
 low:B≤oc
 size:B≤W.heap.size
 box:W.heap[oc]?=some (.cells #[v] 27)
 row:W.ownsRow B 9 1 v l.length (strCells l)
section
variable {B:Nat}{w:World}{oc:Nat}{W W1 W2:World}{l:List T}{v:Value}
theorem G9.ne(h:G9 B w oc W l v){k:Nat}(hk:v.ownBlock=some k):k≠oc∧B≤k:=by
 refine⟨fun e=>?_,CJ h.row hk⟩;obtain⟨cs,fz,h1⟩:=Bi h.row hk;rw[e,h.box] at h1;injection h1 with h1
 injection h1 with _ h1
 exact absurd h1 (by decide)
theorem G9.upd{F:Nat→Prop}(h:G9 B w oc W l v)(hu:A7 F W W1)(hB:∀ k,F k→B≤k)(h1:¬ F oc)(h2:∀ k,v.ownBlock=some k→¬ F k):G9 B w oc W1 l v:=
 ⟨Bu h.Ao hu hB h.size,h.low,Ah h.size hu.size,(hu.block oc (Ae h.box) h1).trans h.box,AL h.row hu h2⟩
theorem G9.below(h:G9 B w oc W l v)(hb:Bw W W1):G9 B w oc W1 l v:=h.upd (ub hb) (fun _ f=>f.elim) (fun f=>f) (fun _ _ f=>f)
theorem G9.put(h:G9 B w oc W l v){k:Nat}{o o':Obj}(ho:W.heap[k]?=some o)(hc:o.isCells=false)(hk:B≤k):G9 B w oc (W.putObj k o') l v:=by
 refine h.upd (F:=fun i=>i=k) (A7.of_grownBy (F:=fun i=>i=k) (grownBy_putObj' W k o') (fun i e=>by cases e;rfl)) (fun i e=>by rw[e];exact hk) (fun e=>?_) (fun i hi e=>?_)
 ·rw[←e,h.box] at ho;injection ho with ho
  subst ho;exact absurd hc (by simp[Obj.isCells])
 ·obtain⟨cs,fz,h2⟩:=Bi h.row hi;rw[e,ho] at h2;injection h2 with h2
  subst h2;exact absurd hc (by simp[Obj.isCells])
theorem G9.kind(h:G9 B w oc W l v){k:Nat}{cs:Array Value}{t:TypeId}{fz:Nat×Nat}(hk:W.heap[k]?=some (.cells cs t fz))(h1:t≠27)(h2:t≠9):oc≠k∧v.ownBlock≠some k:=by
 refine⟨fun e=>?_,fun e=>?_⟩
 ·rw[←e,h.box] at hk;injection hk with hk
  injection hk with _ hk
  exact h1 hk.symm
 ·obtain⟨c2,f2,h3⟩:=Bi h.row e;rw[hk] at h3;injection h3 with h3
  injection h3 with _ h3
  exact h2 h3
theorem G9.add(h:G9 B w oc W l v)(hb:Bw W W1)(hg:W1.grownBy W2 v.ownBlock){v':Value}{k:List T}(ho:W2.ownsRow B 9 1 v' (l.length+k.length) (strCells l++strCells k)):
  G9 B w oc (W2.setCell ⟨oc,0,none⟩ v') (l++k) v':=by
 have h1:=h.below hb;have bg:W2.heap[oc]?=some (.cells #[v] 27):=(hg.block oc (Ae h1.box) (fun e=>(h1.ne e.symm).1 rfl)).trans h1.box;have hu:=(A7.refl (fun k=>k=oc) W2).setCell (p:=⟨oc,0,none⟩) (.inl rfl) v';refine⟨(h1.Ao.grown hg h1.size (fun k e=>(h1.ne e).2)).setCell (p:=⟨oc,0,none⟩) h.low v',h.low,Ah (Ah h1.size hg.size) hu.size,Bh W2 oc 0 _ _ v' bg,?_⟩;rw[Aj,show strCells (l++k)=strCells l++strCells k by unfold strCells;rw[C8]];refine AL ho hu (fun g hg e=>?_);obtain⟨cs,fz,h2⟩:=Bi ho hg;rw[e,bg] at h2;injection h2 with h2
 injection h2 with _ h2
 exact absurd h2 (by decide)
theorem G9.keeps(h:G9 B w oc W l v)(hb:Bw W W1)(hg:W1.grownBy W2 v.ownBlock)(v':Value):KeepsOthers W (W2.setCell ⟨oc,0,none⟩ v'):=by
 have h1:=h.below hb;refine((OE (ub hb) (fun _ _ f=>f.elim)).trans (KeepsOthers.of_grownBy hg fun j o e ho=>?_)).trans (KeepsOthers.setCell _ _ _);obtain⟨cs,fz,h2⟩:=Bi h1.row e;rw[ho] at h2;injection h2 with h2
 subst h2;rfl
theorem G9.other(h:G9 B w oc W l v)(hb:Bw W W1)(hg:W1.grownBy W2 v.ownBlock)(v':Value){k:Nat}{cs:Array Value}{t:TypeId}{fz:Nat×Nat}(hk:W.heap[k]?=some (.cells cs t fz))(h1:t≠27)(h2:t≠9):
  (W2.setCell ⟨oc,0,none⟩ v').heap[k]?=some (.cells cs t fz):=by
 have hk1:=(hb.block k (Ae hk)).trans hk;obtain⟨n1,n2⟩:=(h.below hb).kind hk1 h1 h2;have hk2:=(hg.block k (Ae hk1) (fun e=>n2 e.symm)).trans hk1;exact(((A7.refl (fun k=>k=oc) W2).setCell (p:=⟨oc,0,none⟩) (.inl rfl) v').block k (Ae hk2) (fun e=>n1 e.symm)).trans hk2
theorem al8(x:T)(h:W.ownsRow B 9 1 v l.length (strCells l))(hn:l.length≤1000000000)(hb:B≤W.heap.size):
  ∃ g cap w2,(Tn #[27,27] 27 #[v,.slice (some ⟨W.heap.size,0,none⟩) 1 1]).run prog (W.alloc (.cells #[.string (bs x)] 9))=.ok (.slice (some ⟨g,0,none⟩) (l.length+1) cap) w2∧
   w2.ownsRow B 9 1 (.slice (some ⟨g,0,none⟩) (l.length+1) cap) (l.length+[x].length) (strCells l++strCells [x])∧
   (W.alloc (.cells #[.string (bs x)] 9)).grownBy w2 v.ownBlock:=by
 obtain⟨i0,hi0,hz0,hz1,hz2⟩:=Cz Nr;obtain⟨v',w2,h1,h2,h3,_,_⟩:=run_append_own_at (P:=prog) (W.alloc (.cells #[.string (bs x)] 9)) B 27 27 9 i0 _ 1 16 underlying27 hi0 hz0 hz1 hz2 rfl (by decide) v l.length _ (h.alloc _) ⟨W.heap.size,0,none⟩ 1 1 [.string (bs x)] rfl
  (by intro j u hj;rw[add_plain,CV];exact(CB▸hj)) (by simp[Value.oneCell']) (by unfold maxLen;omega) (by omega) (by rw[Ai];omega)
 obtain⟨g,cap,rfl⟩:=ownsRow_succ h2;exact⟨g,cap,w2,h1,by unfold strCells at h2 ⊢;exact h2,h3⟩
end
end Prs
end Go.Proofs.YtmbbhdebddbhoaaGreat
