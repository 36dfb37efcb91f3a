/- PrsY PrsPut PrsGet SameT RefOct RefPut RefCom RefCommit PrsKeys PrsKeysW MemW MemR -/
import Derived.Test.YtkmninbcgipliaaGreatDoorW7
set_option maxHeartbeats 4000000
set_option maxRecDepth 100000
set_option linter.all false
namespace Go.Proofs.YtkmninbcgipliaaGreatDoor
open Tryz
open Go.RowKit
namespace Bu
open Go.Maps
open Ah Aq
def aa8(w:World)(a:Option Addr)(rows:List M):Prop:=∀ i,(h:i < rows.length)→∃ p:Addr,a=some p∧∃ q c,w.cell? (p.add i)=some (.slice q rows[i].length c)∧Bg w q rows[i]∧(q=none→c=0)∧rows[i].length≤c
def LP(rows:List M):M:=rows.foldl (fun o r=>Gw o (Fq r)) []
theorem azP(rows:List M)(r:M):LP (rows++[r])=Gw (LP rows) (Fq r):=by unfold LP;rw[List.foldl_append];rfl
theorem azO(rows:List M):(LP rows).length=(rows.map List.length).sum:=by
 unfold LP
 suffices h:∀ (rows:List M) (o:M),(rows.foldl (fun o r=>Gw o (Fq r)) o).length=o.length+(rows.map List.length).sum from by rw[h];simp
 intro rows
 induction rows with
 |nil=>intro o;simp
 |cons r rows ih=>intro o;rw[List.foldl_cons,ih,azQ,iO,Ce,DY];omega
theorem aps(rows:List M)(k:Nat):((rows.take k).map List.length).sum≤(rows.map List.length).sum:=by
 induction rows generalizing k with
 |nil=>simp
 |cons r rows ih=>
  cases k with
  |zero=>simp
  |succ k=>have:=ih k;simp only[List.take_succ_cons,Ce,DY];omega
theorem an6{w:World}{a:Option Addr}{cap:Nat}{rows:List M}(h:aa8 w a rows)(hs:(rows.map List.length).sum≤1000000)(hl:rows.length≤1000000):
  Calls prog 97 #[.slice a rows.length cap] w fun e w'=>∃ v,e=.returned v∧BK w' 0 v (LP rows)∧Bw w w'∧∀ g,v.ownBlock=some g→w.heap.size≤g:=by
 have HH:=Hi h;clear h
 go_in
 go_wp2
 go_loopw [2,7] (fun vo i wr=>∃ k:Nat,k≤rows.length∧i= ↑(k:Int)∧BK wr w.heap.size vo (LP (rows.take k))∧Bw w wr) (fun _ i _=>rows.length -(intOf i).toNat)
 case atStart=>exact⟨0,AV _,rfl,by unfold BK LP;rw[Gm,List.foldl_nil,R9];exact DZ _ _ _ _,Ai _ _⟩
 case round=>
  obtain⟨k,hk,rfl,Af,hb⟩:=hrel;by_cases hlt:k < rows.length
  ·obtain⟨p,rfl,q,c,Gh,hat,hq,hc⟩:=HH k hlt;have Cn:∀ W,(Instr.indexAt 263 (.slice (some p) rows.length cap) ↑(k:Int)).run prog W=.ok (.pointer (some (p.add k))) W:=fun W=>by
    have:=Hy prog 263 30 underlying263 1 (by kernel_rfl) p rows.length cap k hlt W;rwa[Nat.mul_one] at this
   have awI:=(hb.cell (Cv Gh)).trans Gh;have HS:=Hi (apc _ wr q c rows[k] (Ag _) (hat.below hb) hq (by have:=aps rows (k+1);rw[Cr hlt,CQ,LX] at this;simp only[Ce,Kw,DY,List.sum_nil] at this;omega));have HT:=Hi (show LP (rows.take (k+1))=Gw (LP (rows.take k)) (Fq rows[k]) from by rw[Cr hlt,azP]);have Df:(LP (rows.take k)).length+(Fq rows[k]).length≤1000000:=by
    have:=aps rows (k+1);rw[Cr hlt,CQ,LX] at this;simp only[Ce,Kw,DY,List.sum_nil] at this;rw[azO,iO];omega
   have CS:=iO rows[k];generalize rows[k]=r at*;obtain⟨qo,co,rfl,aW,ay⟩:=FQ Af;have HR:=Hi Af;have HB:=Hi hb;have qI:=Hi aW;have QM:=Hi ay;have Nz:=Hi CS;have Wj:=Hi Df;clear Af hb aW ay CS hat hq hc Gh Df;generalize LP (rows.take k)=o at*;go_wp2_with fail;refine HS.mono ?_;rintro e w1⟨v1,rfl,h1,Ak⟩;obtain⟨q1,c1,rfl,EC,GG⟩:=FQ h1;have HM:=Hi (an7 (Bg.CR (Cc HR Ak)) (Bg.CR h1) qI EC QM GG Wj);have HB1:=bH HB Ak;clear h1 Ak EC GG awI;go_wp2_with fail;refine HM.mono ?_;rintro e w2⟨v2,rfl,h2,Ac⟩;have H2:=Hi h2;have Aj:=bH HB1 Ac;clear h2 Ac;go_wp2;go_roundw
   case rel=>exact⟨k+1,by omega,by go_num,by rw[HT.out];exact EM H2 HB1.size,Aj⟩
   case measure=>simp[intOf];omega
  ·obtain rfl:k=rows.length:=(by omega);rw[D5] at Af;have HR:=Hi Af;have HB:=Hi hb;clear Af hb;go_wp2;go_ret;exact⟨_,rfl,EM HR (AV _),HB,fun g hg=>DT HR hg⟩
theorem apl{l:M}{k:Nat}(h:D8 (l.take k))(h1:1≤k)(hk:k < l.length)(hn:¬ l[k].1 < (l[k -1]'(by omega)).1):D8 (l.take (k+1)):=by
 rw[Cr hk];refine List.pairwise_append.2 ⟨h,Tq _ _,fun a ha b hb=>?_⟩;rw[Fu] at hb;subst hb;obtain⟨i,hi,e⟩:=List.mem_take_iff_getElem.1 ha;have hik:i < k:=by omega
 have h2:(l[i]'(by omega)).1≤(l[k -1]'(by omega)).1:=by
  by_cases e1:i=k -1
  ·subst e1;exact List.le_refl _
  ·have:=(List.pairwise_iff_getElem.1 h) i (k -1) (by rw[Bc];omega) (by rw[Bc];omega) (by omega);rwa[List.getElem_take,List.getElem_take] at this
 rw[←e];exact List.le_trans h2 (iA.1 hn)
theorem ano{l:M}{k:Nat}(h1:1≤k)(hk:k < l.length)(hn:l[k].1 < (l[k -1]'(by omega)).1):¬ D8 l:=fun h=>
 absurd hn (List.not_lt.2 ((List.pairwise_iff_getElem.1 h) (k -1) k (by omega) hk (by omega)))
theorem anF{w:World}{a:Option Addr}{cap:Nat}{l:M}(h:Bg w a l)(hl:l.length≤1000000):
  Calls prog 237 #[.slice a l.length cap] w fun e w'=>e=.returned (.int .i64 (if D8 l then 0 else 2))∧Bw w w':=by
 have HH:=Hi h;clear h
 go_in
 go_wp2
 go_loopw [3] (fun i wr=>∃ k:Nat,1≤k∧(k≤l.length∨k=1)∧i= ↑(k:Int)∧D8 (l.take k)∧Bw w wr) (fun i _=>l.length -(intOf i).toNat)
 case atStart=>exact⟨1,Ag _,.inr rfl,rfl,by
  cases l with
  |nil=>exact List.Pairwise.nil
  |cons x l=>exact Tq _ _,Ai _ _⟩
 case round=>
  obtain⟨k,F8,hk,rfl,hs,hb⟩:=hrel;by_cases hlt:k < l.length
  ·obtain⟨p,Cn,hp,-⟩:=HH.index cap k hlt;obtain⟨p',acf,NP,-⟩:=HH.index cap (k -1) (by omega);have Rx:IntKind.i64.wrap ((k:Int) -1)=((k -1:Nat):Int):=(by rw[EN _ (by omega)];omega);have c1:=(hp.upd (ub hb) (fun f=>f)).key;have c2:=(NP.upd (ub hb) (fun f=>f)).key;have HT:=Hi (fun hn=>apl hs F8 hlt hn);have HN:=Hi (fun hn=>ano F8 hlt hn);have HB:=Hi hb;clear hs hb hp NP;generalize l[k]=x at*;generalize l[k -1]'(by omega)=y at*;by_cases Js:x.1 < y.1
   ·have Ct:Op.bytesLess x.1 y.1=true:=(by rw[Go.Proofs.bytesLess_eq];simpa using Js);have zi:=Hi (HN Js);clear HT HN Js;go_wp2;go_region;go_wp2;go_ret;exact⟨by first|rfl|(rw[A9 zi.out];rfl),HB.drew⟩
   ·have Ct:Op.bytesLess x.1 y.1=false:=(by rw[Go.Proofs.bytesLess_eq];simpa using Js);have UO:=Hi (HT Js);clear HT HN Js;go_wp2;go_region;go_wp2;go_roundw
    case rel=>exact⟨k+1,by omega,.inl (by omega),by go_num,UO.out,HB.drew⟩
    case measure=>simp[intOf];omega
  ·have HS:=Hi (show D8 l from by
    have:=hs;rwa[Gx (by omega)] at this)
   have HB:=Hi hb;have gu:¬ (k:Int) < (l.length:Int):=(by omega);clear hs hb hlt;go_wp2;go_ret;exact⟨by first|rfl|(rw[Ae HS.out];rfl),HB.out⟩
end Bu
namespace Bu
open Go.Maps
open Ah Aq Aw
theorem Et.kind{w:World}{b:Nat}{l:List UInt8}{fp:Nat→Prop}(h:Et w b l fp)(k:Nat)(hk:fp k):Bf w k 210∨Bf w k 5:=by
 obtain⟨p,v,h1,_,h3,_,_,rfl⟩:=h;rcases hk with rfl|hk
 ·exact .inl ⟨_,_,h1⟩
 ·exact .inr (Cx h3 hk)
theorem Et.aA6{w:World}{b:Nat}{l:List UInt8}{fp:Nat→Prop}(h:Et w b l fp){g:Nat}{cs:Array Value}{fr:Nat×Nat}(hg:w.heap[g]?=some (.cells cs 9 fr)):¬ fp g:=fun e=>by
 rcases Et.kind h g e with e|e
 ·exact Bf.ne e ⟨cs,fr,hg⟩ (by decide) rfl
 ·exact Bf.ne e ⟨cs,fr,hg⟩ (by decide) rfl
def Ej(l:M):T×Int:=match FW l with|none=>([],5)|some s=>(s,0)
theorem aeF{L:List T}{S:T}(h:BL L=some S)(t:T):BL (L++[t])=(Er t).map (S++ ·):=by
 rw[apC,h];simp only[CU,BL];cases Er t with
 |none=>rfl
 |some x=>simp
theorem aeG{L:List T}{t:T}(h:t∈L)(ht:65535 < t.length):BL L=none:=by
 obtain⟨k,hk,rfl⟩:=Tp h;exact xI hk ht
theorem ab2{l:M}{k:Nat}(h:k < l.length):flat (l.take (k+1))=flat (l.take k)++[l[k].1,l[k].2]:=by
 rw[Cr h,ab1];rfl
theorem kN{l:M}{k:Nat}(h:k < l.length){t:T}(ht:t∈[l[k].1,l[k].2]):t∈flat l:=NZ.2 ⟨l[k],CK h,ht⟩
theorem aoB(l:M)(k:Nat):rowLen (flat (l.take k))≤rowLen (flat l):=by
 have:flat (l.take k)=(flat l).take (2*k):=by
  induction l generalizing k with
  |nil=>simp[flat]
  |cons p l ih=>
   cases k with
   |zero=>simp[flat]
   |succ k=>
    rw[List.take_succ_cons,Y3,Y3,ih k,show 2*(k+1)=2*k+1+1 by omega,List.take_succ_cons,List.take_succ_cons]
 rw[this];exact aek _ _
theorem aoA(a b:List T):rowLen (a++b)+2=rowLen a+rowLen b:=by
 unfold rowLen;rw[CQ,LX];omega
theorem aD1(A B:List T)(j:Nat):A++B.take j=(A++B).take (A.length+j):=by
 induction A with
 |nil=>simp
 |cons a A ih=>rw[I5,BM,show A.length+1+j=(A.length+j)+1 by omega,I5,List.take_succ_cons,ih]
structure EU(w:World)(L:Nat)(T0:List T)(fp:Nat→Prop)(S:T)(wr:World):Prop where
 text:BL T0=some S
 built:Et wr w.heap.size (Ab.le 2 L++S) fp
 low:∀ q,fp q→w.heap.size≤q
 AR:Bw w wr
def as7(w:World)(L:Nat)(T0:List T)(x:T×T)(g:Nat)(i:Value)(wr:World):Prop:=
 ∃ (j:Nat) (S2:T) (fp':Nat→Prop),j≤2∧i= ↑(j:Int)∧EU w L (T0++[x.1,x.2].take j) fp' S2 wr∧wr.heap[g]?=some (.cells #[x.1,x.2] 9)
def as8(w:World)(l:M)(i:Value)(wr:World):Prop:=∃ (k:Nat) (S:T) (fp:Nat→Prop),k≤l.length∧i= ↑(k:Int)∧EU w l.length (flat (l.take k)) fp S wr
theorem anN{w:World}{a:Option Addr}{cap:Nat}{l:M}(h:Bg w a l)(hs:D8 l)(hl:l.length≤1000000)(Df:rowLen (flat l)≤1000000000):
  Calls prog 181 #[.slice a l.length cap] w (Rt w (.tuple #[(Ej l).1,.int .i64 (Ej l).2])):=by
 by_cases abU:65535 < l.length
 ·have hR:Hid (Ej l=([],5)):=Hi (by unfold Ej FW;rw[A9 (by omega)]);rw[hR.out];clear h hs
  go_in
  go_wp2;go_ret2;exact⟨rfl,Ai _ _⟩
 ·have HH:=Hi h;have HS:=Hi hs;have Wj:=Hi Df;have AP:=Hi ((Ai w.heap.size w).alloc (Ag _) (.cells #[.pointer none,()] 210));have Dl:=Hi (Et.made w);clear h hs Df
  go_in
  go_wp2_with fail;refine(bO l.length 2 _ (by omega) (by decide) (by decide)).mono ?_;rintro e w1⟨rfl,hb⟩;have QK:=Hi (Dl.upd (ub hb) (fun _ _ f=>f));have HB1:=Hi (AP.trans (hb.mono (by rw[Az];omega)));clear hb;go_wp2_with fail;refine(XZ QK (Ab.le 2 l.length) (by simp[Ab.Cb])).mono ?_;rintro e w2⟨rfl,fp2,h1,h2,h3⟩;rw[EE] at h1
  have Ba:=Hi (show EU w l.length (flat (l.take 0)) fp2 [] w2 from⟨rfl,by rw[Eg];exact h1,fun q hq=>by
   rcases h3 q hq with h|h
   ·rcases h with h|h
    ·omega
    ·simp[Value.ownBlock] at h
   ·have:=HB1.size;omega,Cz HB1 h2 (fun i hi=>by rcases hi with h|h;omega;simp[Value.ownBlock] at h) HB1.size⟩)
  clear h1 h2 h3 Dl QK AP HB1;go_wp2
  go_loopw [28] (fun i wr=>as8 w l i wr) (fun i _=>l.length -(intOf i).toNat)
  case atStart=>exact⟨0,[],fp2,by omega,rfl,Ba⟩
  case round=>
   clear Ba;obtain⟨k,S,fp,hk,rfl,Bj⟩:=hrel;by_cases hlt:k < l.length
   ·obtain⟨p,Cn,hp,-⟩:=(HH.below Bj.AR).index cap k hlt;have c1:=hp.key;have c2:=hp.val;have UG:=Hi (fun t ht=>kN (t:=t) hlt ht);have M3:=Hi (ab2 hlt);have Iz:=Hi (aoB l (k+1));rw[M3.out] at Iz;obtain⟨x,hx⟩:=ex (l[k]);rw[hx] at c1 c2 UG M3 Iz;have Ba:=Hi Bj;clear hx hp Bj;go_wp2_with fail;obtain⟨g,hg⟩:=ex (wr.heap.size+1)
    have UK:=Hi (show ∀ (j:Nat),j < 2→∀ W,(Instr.indexAt 61 (.slice (some ⟨wr.heap.size+1,0,none⟩) 2 2) ↑(j:Int)).run prog W=.ok (.pointer (some ⟨g,j,none⟩)) W from fun j Rl W=>by
     have:=Hy prog _ 9 underlying61 1 (by kernel_rfl) ⟨wr.heap.size+1,0,none⟩ 2 2 j Rl W;rw[Nat.mul_one,add_plain,hg] at this;rw[hg];exact this)
    have QR:=Hi hg;clear hg
    go_loopw [38] (fun i wr2=>as7 w l.length (flat (l.take k)) x g i wr2) (fun i _=>2 -(intOf i).toNat)
    case atStart=>
     have Ac:=((Ai wr.heap.size wr).alloc (Ag _) (.cells #[x.1,x.2] 51)).alloc (by rw[Az];omega) (.cells #[x.1,x.2] 9);refine⟨0,S,fp,by omega,rfl,⟨by rw[Gm,Eg];exact Ba.text,Ba.built.upd (ub Ac) (fun _ _ f=>f),Ba.low,Ba.AR.trans (Ac.mono Ba.AR.size)⟩,?_⟩;have:=AU (wr.alloc (.cells #[x.1,x.2] 51)) (.cells #[x.1,x.2] 9);rw[Az,QR.out] at this;exact this
    case round=>
     obtain⟨j,S2,fp',hj,rfl,Bj,fF⟩:=hrel;by_cases Rl:j < 2
     ·obtain⟨t,ht⟩:=ex ([x.1,x.2][j]'(by simpa using Rl));have Gh:wr.cell? ⟨g,j,none⟩=some (.string (bs t)):=by
       rw[BJ _ _ _ _ _ _ fF,←ht]
       match j,Rl with
       |0,_=>rfl
       |1,_=>rfl
      have aFX:=UK j Rl;have HTM:=Hi (show t∈[x.1,x.2] from by rw[←ht];exact CK _);have HTT:=Hi (show[x.1,x.2].take (j+1)=[x.1,x.2].take j++[t] from by rw[Cr (by simpa using Rl),ht]);have HLS:=Hi (Xo Bj.text);have GV:=Hi (aoA (flat (l.take k)++[x.1,x.2].take j) [t])
      have XN:=Hi (show rowLen ((flat (l.take k)++[x.1,x.2].take j)++[t])≤1000000000 from by
       have h1:rowLen ((flat (l.take k)++[x.1,x.2].take j)++[t])≤rowLen (flat (l.take k)++[x.1,x.2]):=by
        rw[DJ,←HTT.out];have e:=aD1 (flat (l.take k)) [x.1,x.2] (j+1);rw[e];exact aek _ _
       have h2:=Iz.out;have h3:=Wj.out;omega)
      have HI:=Hi Bj;have Sc:=Hi fF;clear ht Bj fF;by_cases Pj:65535 < t.length
      ·have hR:Hid (Ej l=([],5)):=Hi (by unfold Ej FW;rw[Ae (by omega),aeG (UG t HTM) Pj];rfl);go_wp2_with fail;refine(adU t _ Pj).mono ?_;rintro e w3⟨rfl,rfl⟩;go_wp2;go_ret2;rw[hR.out];exact⟨rfl,HI.AR⟩
      ·have Gv:t.length≤65535:=(by omega);clear Pj;go_wp2_with fail;refine(adV t _ Gv).mono ?_;rintro e w3⟨rfl,Av⟩;have UC:=Hi (HI.built.upd (ub Av) (fun _ _ f=>f));have Au:=Hi (HI.AR.trans (Av.mono HI.AR.size));have yt:=Hi ((Av.block g (Ao Sc)).trans Sc);clear Av Gh;go_wp2_with fail
       refine(XZ UC (Ab.le 2 t.length++t) (by
        have h1:=HLS.out;have h2:=GV.out;have h3:=XN.out;have h4:rowLen [t]=4+t.length:=(by unfold rowLen;simp;omega);simp[Ab.Cb];omega)).mono ?_
       rintro e w4⟨rfl,Qi,h1,h2,h3⟩
       have Sm:=Hi (show EU w l.length (flat (l.take k)++[x.1,x.2].take (j+1)) Qi (S2++(Ab.le 2 t.length++t)) w4 from⟨by rw[HTT.out,←DJ,aeF HI.text];unfold Er;rw[Ae Gv];rfl,by rw[←DJ];exact h1,fun q hq=>by
        rcases h3 q hq with h|h
        ·exact HI.low q h
        ·exact Ay Au.size h,Cz Au h2 HI.low Au.size⟩)
       have aqK:=Hi ((h2.block g (Ao yt) (Et.aA6 UC yt)).trans yt);clear h1 h2 h3;go_wp2;go_roundw
       case rel=>exact⟨j+1,_,Qi,by omega,by go_num,Sm,aqK⟩
       case measure=>simp[intOf];omega
     ·obtain rfl:j=2:=(by omega);have HI:=Hi (show EU w l.length (flat (l.take (k+1))) fp' S2 wr from by rw[M3.out];exact Bj);clear Bj fF;go_wp2;go_roundw
      case rel=>exact⟨k+1,S2,fp',by omega,by go_num,HI⟩
      case measure=>simp[intOf];omega
   ·obtain rfl:k=l.length:=(by omega);rw[D5] at Bj;have Ba:=Hi Bj;have hR:Hid (Ej l=(Ab.le 2 l.length++S,0)):=Hi (by unfold Ej FW;rw[Ae (by omega),Bj.text];rfl);have HC:=Hi (anF (cap:=cap) (HH.below Bj.AR) hl);rw[Ae HS.out] at HC;clear Bj;go_wp2_with fail;refine HC.mono ?_;rintro e w3⟨rfl,Av⟩;have UC:=Hi (Ba.built.upd (ub Av) (fun _ _ f=>f));have Au:=Hi (Ba.AR.trans (Av.mono Ba.AR.size));clear Av;go_wp2_with fail;refine(XY UC).mono ?_;rintro e w4⟨rfl,hu⟩;have AX:=Hi (Cz Au hu Ba.low Au.size);clear hu;go_wp2;go_ret2;rw[hR.out];exact⟨rfl,AX⟩
def Ws(w:World)(s:T)(e:Ending)(w':World):Prop:=match Ic s with
 |none=>e=.returned (.tuple #[(),.int .i64 7])∧Bw w w'
 |some l=>∃ v,e=.returned (.tuple #[v,.int .i64 0])∧BK w' w.heap.size v l∧Bw w w'
theorem nX{w w':World}{s:T}{e:Ending}(h:Ic s=none)(he:e=.returned (.tuple #[(),.int .i64 7]))(hb:Bw w w'):Ws w s e w':=by
 unfold Ws;rw[h];exact⟨he,hb⟩
theorem aAp{w w':World}{s:T}{e:Ending}{v:Value}{l:M}(h:Ic s=some l)(he:e=.returned (.tuple #[v,.int .i64 0]))(ho:BK w' w.heap.size v l)(hb:Bw w w'):Ws w s e w':=by
 unfold Ws;rw[h];exact⟨v,he,ho,hb⟩
structure pI(w:World)(s:T)(n:Nat)(i:Nat)(S:T)(l:M)(v:Value)(wr:World):Prop where
 le:i≤n
 len:l.length=i
 short:S.length≤s.length
 read:EL (2*n) (s.drop 2)=(EL (2*n -2*i) S).map fun q=>(flat l++q.1,q.2)
 row:BK wr w.heap.size v l
 AR:Bw w wr
def aqA(w:World)(s:T)(n:Nat)(sv lv iv:Value)(wr:World):Prop:=∃ (i:Nat) (S:T) (l:M),sv= ↑S∧iv=.int .u64 (i:Int)∧pI w s n i S l lv wr
theorem anK(s:T)(w:World)(hs:s.length≤1000000000):Calls prog 229 #[s] w fun e w'=>Ws w s e w':=by
 obtain⟨i0,Bh,AY,AZ,Bb⟩:=Dy RO;by_cases h2:s.length < 2
 ·have hR:Hid (Ic s=none):=Hi (by unfold Ic;rw[Ae h2])
  go_in
  go_wp2_with fail;exact EO (v:=.tuple #[(),.int .i64 7]) (by simp[results,results229,go_sem]) rfl (nX hR.out rfl (Ai _ _))
 ·have GY:∀ W,(Instr.slice 9 ↑s none (some (.int .i64 2)) none).run prog W=.ok ↑(s.take 2) W:=fun W=>OD prog W 9 underlying9 s 2 (by omega)
  have Yn:∀ W,(Instr.slice 9 ↑s (some (.int .i64 2)) none none).run prog W=.ok ↑(s.drop 2) W:=fun W=>Nh prog W 9 underlying9 s 2 (by omega)
  have hlt:(s.take 2).length=2:=by rw[Bc];omega
  have hv:=Ab.Jw (s.take 2);rw[hlt] at hv;have JC:=Hi (fun(W:World)=>Y7 (s.take 2) W (by omega) (by omega));obtain⟨n,hn⟩:=ex (Ab.val (s.take 2));have Ey:=Hi (show Ic s=(EL (2*n) (s.drop 2)).bind fun q=>if q.2=[]∧D8 (Tn q.1) then some (Tn q.1) else none from by unfold Ic;rw[A9 h2,hn]);rw[hn] at JC hv;have Ke:n < 65536:=hv;have hsi:¬ (s.length:Int) < 2:=by omega
  clear hn hlt hv
  go_in
  go_wp2_with fail;refine(JC _).mono ?_;rintro e w1⟨rfl,rfl⟩;go_wp2
  go_loopw [0,2,23] (fun sv lv iv wr=>aqA w s n sv lv iv wr) (fun _ _ iv _=>n -(intOf iv).toNat)
  case atStart=>exact⟨0,s.drop 2,[],rfl,rfl,AV _,rfl,by rw[CF];omega,by simp[flat],by unfold BK;rw[R9];exact DZ _ _ _ _,Ai _ _⟩
  case round=>
   obtain⟨i,S,l,rfl,rfl,Bj⟩:=hrel;have Ba:=Hi Bj;have Ql:=Bj.short;have hle:=Bj.le;by_cases hlt:i < n
   ·cases hr:Ea S with
    |none=>
     have hV:FM S=([],0,6):=(by unfold FM;rw[hr]);have GX:=Hi (fun(W:World)=>iC S W (by omega));rw[hV] at GX;have hR:Hid (Ic s=none):=Hi (by rw[Ey.out,iG (j:=2*i) (by omega) Bj.read hr];rfl);clear Bj hV hr;go_wp2_with fail;refine(GX _).mono ?_;rintro e w2⟨rfl,hb⟩;have HB:=Hi hb;clear hb;go_wp2_with fail;exact EO (v:=.tuple #[(),.int .i64 7]) (by simp[results,results229,go_sem]) rfl (nX hR.out rfl (Ba.AR.trans (HB.mono Ba.AR.size)))
    |some r=>
     obtain⟨k,n1⟩:=r;obtain⟨_,EB,_⟩:=bR hr;have hV:FM S=(k,n1,0):=(by unfold FM;rw[hr]);have GX:=Hi (fun(W:World)=>iC S W (by omega));rw[hV] at GX;have Fh:=Hi (iI (j:=2*i) (by omega) Bj.read hr);have hcut:∀ W,(Instr.slice 9 ↑S (some ↑(n1:Int)) none none).run prog W=.ok ↑(S.drop n1) W:=fun W=>Nh prog W 9 underlying9 S n1 EB
     cases DC:Ea (S.drop n1) with
     |none=>
      have Md:FM (S.drop n1)=([],0,6):=(by unfold FM;rw[DC]);have Sn:=Hi (fun(W:World)=>iC (S.drop n1) W (by rw[CF];omega));rw[Md] at Sn;have hR:Hid (Ic s=none):=Hi (by rw[Ey.out,iG (j:=2*i+1) (by omega) Fh DC];rfl);clear Bj hV hr Md DC;go_wp2_with fail;refine(GX _).mono ?_;rintro e w2⟨rfl,hb⟩;have HB:=Hi (Ba.AR.trans (hb.mono Ba.AR.size));clear hb;go_wp2_with fail;refine(Sn _).mono ?_;rintro e w3⟨rfl,hb⟩;have Au:=bH HB hb;clear hb;go_wp2_with fail;exact EO (v:=.tuple #[(),.int .i64 7]) (by simp[results,results229,go_sem]) rfl (nX hR.out rfl Au)
     |some r2=>
      obtain⟨v,n2⟩:=r2;obtain⟨_,GJ,_⟩:=bR DC;rw[CF] at GJ;have Md:FM (S.drop n1)=(v,n2,0):=(by unfold FM;rw[DC]);have Sn:=Hi (fun(W:World)=>iC (S.drop n1) W (by rw[CF];omega));rw[Md] at Sn;have ZF:=Hi (iI (j:=2*i+1) (by omega) Fh DC);have awQ:∀ W,(Instr.slice 9 ↑S (some (.int .i64 ((n1:Int)+(n2:Int)))) none none).run prog W=.ok ↑(S.drop (n1+n2)) W:=fun W=>by
       have:=Nh prog W 9 underlying9 S (n1+n2) (by omega);rwa[Int.natCast_add] at this
      have bz:IntKind.i64.wrap ((n1:Int)+(n2:Int))=(n1:Int)+(n2:Int):=EN _ (by omega);have Df:(n1:Int)+(n2:Int)≤1000000000:=(by omega);have ay3:(n1:Int)+(n2:Int)≤(S.length:Int):=(by omega);have ay4:((n1:Int)+(n2:Int)).toNat=n1+n2:=(by omega);have PX:=Hi EB;have JY:=Hi GJ;obtain⟨qo,co,rfl⟩:=Bp Bj.row;clear Bj hV hr Md DC EB GJ;go_wp2_with fail;refine(GX _).mono ?_;rintro e w2⟨rfl,hb⟩;have BV:=Hi (Cc Ba.row hb);have HB:=Hi (Ba.AR.trans (hb.mono Ba.AR.size));clear hb;go_wp2_with fail;refine(Sn _).mono ?_;rintro e w3⟨rfl,hb⟩;have Ny:=Hi (Cc BV hb);have Au:=bH HB hb;clear hb;go_wp2_with fail
      go_region_law
       ((refine step_append_lies _ (by rfl) _ _ _ (by rfl) w.heap.size 51 i0 _ 2 32 underlying30 Bh AY AZ Bb (by rfl) (by omega) (.slice qo l.length co) l.length (Dr l) (by rfl) ((Ny.alloc _).drew) ⟨w3.heap.size,0,none⟩ 1 1 [.string (bs k),.string (bs v)] (by rfl) (by rfl) (World.news_of_block (cs:=#[.string (bs k),.string (bs v)]) (t:=51) (fr:=(0,0)) (AU w3 _)) (fun u hu=>by simp at hu;rcases hu with rfl|rfl<;>rfl) (by omega) (by have:=Ba.len;have:=Ba.le;unfold maxLen;omega) (by have:=Ba.len;have:=Ba.le;omega) (by have:=Au.size;rw[World.size_drew,Az];omega) (w3.heap.size+1) (by simp) ?_;intro gg cap2 w4 Py AJ hat Pv))
      all_goals
       have Sm:=Hi (show pI w s n (i+1) (S.drop (n1+n2)) (l++[(k,v)]) (.slice gg (l.length+1) cap2) w4 from
        ⟨by omega,by rw[AA,Ba.len];rfl,by rw[CF];omega,by
         have:=ZF.out;rw[show 2*n -(2*i+1+1)=2*n -2*(i+1) by omega,List.drop_drop] at this;rw[this,ab1]
         congr 1
         funext q
         simp[flat],by unfold BK;rw[AA,TQ];exact Py,
         ((Au.alloc Au.size _).drew).grown AJ (by have:=Au.size;rw[World.size_drew,Az];omega) (fun k e=>DT Ny e)⟩)
       clear Py AJ hat;go_wp2;go_roundw
       case rel=>
        first
        |exact⟨i+1,S.drop (n1+n2),l++[(k,v)],rfl,by go_num,Sm⟩
        |(repeat apply Exists.intro
          refine⟨?_,rfl⟩;exact⟨i+1,S.drop (n1+n2),l++[(k,v)],rfl,by go_num,Sm⟩)
       case measure=>
        show n -((i:Int)+1).toNat < n -((i:Int)).toNat
        omega
   ·obtain rfl:i=n:=(by omega);have Na:EL (2*i) (s.drop 2)=some (flat l,S):=by
     rw[Bj.read,Nat.sub_self];simp[EL]
    have ZE:=Hi (show Ic s=if S=[]∧D8 l then some l else none from by rw[Ey.out,Na];simp only[CU];rw[xN]);obtain⟨qo,co,rfl,aW,ay⟩:=FQ Bj.row;have Zo:=Hi (anF (cap:=co) (Bg.CR Bj.row) (by have:=Bj.len;omega));clear Bj Na;by_cases hS:S=[]
    ·subst hS;by_cases Rw:D8 l
     ·have hR:Hid (Ic s=some l):=Hi (by rw[ZE.out,Ae ⟨rfl,Rw⟩]);rw[Ae Rw] at Zo;clear Rw;go_wp2_with fail;refine Zo.mono ?_;rintro e w2⟨rfl,hb⟩;have BV:=Hi (Cc Ba.row hb);have HB:=Hi (Ba.AR.trans (hb.mono Ba.AR.size));clear hb;go_wp2_with fail;exact EO (v:=.tuple #[.slice qo l.length co,.int .i64 0]) (by simp[results,results229,go_sem]) rfl (aAp hR.out rfl BV HB)
     ·have hR:Hid (Ic s=none):=Hi (by rw[ZE.out,A9 (fun h=>Rw h.2)]);rw[A9 Rw] at Zo;clear Rw;go_wp2_with fail;refine Zo.mono ?_;rintro e w2⟨rfl,hb⟩;have HB:=Hi (Ba.AR.trans (hb.mono Ba.AR.size));clear hb;go_wp2_with fail;exact EO (v:=.tuple #[(),.int .i64 7]) (by simp[results,results229,go_sem]) rfl (nX hR.out rfl HB)
    ·have hR:Hid (Ic s=none):=Hi (by rw[ZE.out,A9 (fun h=>hS h.1)]);have hne:S.isEmpty=false:=by
      cases S with
      |nil=>exact absurd rfl hS
      |cons=>rfl
     clear hS;go_wp2_with fail;exact EO (v:=.tuple #[(),.int .i64 7]) (by simp[results,results229,go_sem]) rfl (nX hR.out rfl Ba.AR)
end Bu
section
open Go.Maps
theorem aoI(l m:List (List UInt8))(a a':Option Addr)(cap cap':Nat)(w:World)(hl:Dz w a l)(hm:Dz w a' m)(h1:l.length≤maxLen)(h2:m.length≤maxLen):
  Calls prog 251 #[.slice a l.length cap,.slice a' m.length cap'] w (Rt w (decide (l=m))):=by
 unfold maxLen at h1 h2;by_cases hlen:l.length=m.length
 ·have HL:=Hi hl;have HM:=Hi hm;have FO:=Hi hlen;have ug:((l.length:Int) == (m.length:Int))=true:=by simp[hlen]
  have LF:((l.length:Int) != (m.length:Int))=false:=by simp[hlen]
  clear hl hm hlen
  go_in
  go_wp2
  go_loopw [5] (fun i wr=>∃ k:Nat,k≤l.length∧i=.int .i64 k∧l.take k=m.take k∧Bw w wr) (fun i _=>l.length -(intOf i).toNat)
  case atStart=>exact⟨0,by omega,rfl,rfl,Ai _ _⟩
  case round=>
   obtain⟨k,hk,rfl,ht,hb⟩:=hrel;have HT:=Hi ht;have HB:=Hi hb;clear ht hb;by_cases hlt:k < l.length
   ·have al2:k < m.length:=(by rw[←FO.out];exact hlt);obtain⟨q,II,hq⟩:=(HL.below HB).index cap k hlt;obtain⟨q',uG,hq'⟩:=(HM.below HB).index cap' k al2;have alV:l.take (k+1)=l.take k++[l[k]]:=Cr hlt;have alW:m.take (k+1)=m.take k++[m[k]]:=Cr al2;have hne:l[k]≠m[k]→l≠m:=fun h e=>h (by subst e;rfl)
    have UO:=Hi (CB alV alW);have zg:=Hi hne;clear alV alW hne;generalize l[k]=x at*;generalize m[k]=y at*;by_cases Js:x=y
    ·subst Js;have HR:=Hi (show l.take (k+1)=m.take (k+1) by rw[UO.1,UO.2,HT.out]);go_wp2
     go_quiet (fail)
     go_wp2;go_roundw
     case rel=>exact⟨k+1,by omega,by go_num,HR,HB.trans ((FP wr _).mono HB.size)⟩
     case measure=>simp[intOf];omega
    ·have Ak:(x == y)=false:=(by simp[Js]);have Ac:(x != y)=true:=(by simp[Js]);have HR:=Hi (show decide (l=m)=false by simpa using zg Js);clear Js;go_wp2
     go_quiet (fail)
     go_wp2;go_ret;rw[HR.out];exact⟨rfl,HB.trans ((FP wr _).mono HB.size)⟩
   ·obtain rfl:k=l.length:=by omega
    have HR:=Hi (show decide (l=m)=true by
     have h:=HT.out;rw[Gx (Ag _),Gx (by rw[FO.out];exact Ag _)] at h;simpa using h)
    go_wp2;go_ret;rw[HR.out];exact⟨rfl,HB⟩
 ·have ug:((l.length:Int) == (m.length:Int))=false:=by simp;omega
  have LF:((l.length:Int) != (m.length:Int))=true:=by simp;omega
  have HR:=Hi (show decide (l=m)=false by simp;exact fun e=>hlen (by rw[e]));clear hl hm hlen
  go_in
  go_wp2;go_ret;rw[HR.out];exact⟨rfl,Ai _ _⟩
end
section
open Go.WideShapes Go.ChangeShapes Go.Deep
structure asf(w:World)(v:Value)(l:List (List UInt8)):Prop where
 at_:∃ a cap,v=.slice a l.length cap∧Dz w a l∧(a=none→cap=0)
 len:l.length≤maxLen
 all:∀ s∈l,s.length≤reachBytes
theorem aD7{H:Type}{enc:TypeId×Value→H}{W:World}{base:Nat}{sp:Nat→Bool}{hd:Bool}{n:Nat}{cs:List Value}{y:DataW H×List MemPlace}
  (h:DataW.trod enc prog W base sp hd n 61 cs=some y)(hz:∀ n∈DataW.weights prog 61 y.1,n≤reachBytes):∃ v l,cs=[v]∧asf W v l:=by
 rcases Go.Deep.open_slice underlying61 h with⟨rfl,_⟩|⟨a,len,cap,m,k,D,Pl,rfl,_,hl,hm,NN,hx,hi⟩
 ·exact⟨_,[],rfl,⟨none,0,rfl,fun i hi=>by simp at hi,fun _=>rfl⟩,by simp,by simp⟩
 ·have hC:prog.cellsOf 9=1:=by kernel_rfl
  rw[hC] at hi;have U7:len≤m:=by rw[NN];split<;>omega
  obtain⟨l,EA,hP⟩:=adC (P:=fun i (x:List UInt8)=>W.cell? (a.add i)=some (.string (bs x))∧x.length≤reachBytes) len (fun i JJ=>by
   obtain⟨cs',h1,h2⟩:=hi i (by omega);obtain⟨_,GZ,hat⟩:=World.cells?_some h1;obtain⟨v,e1,e2,_⟩:=DataW.trod_string underlying9 h2;subst e1;refine⟨v.data.toList,?_,?_⟩
   ·have:=hat 0 (by omega);rw[add_zero',Nat.mul_one] at this;rw[this];rfl
   ·refine hz _ ?_;have hD:D i=.lit (.string v.data.toList):=congrArg Prod.fst e2;rw[hx];simp only[DataW.weights,underlying61];exact Fs _ (UA _ (af6 (Bv.2 ⟨i,List.mem_range.2 JJ,rfl⟩) (by rw[hD];simp[DataW.weights]))))
  refine⟨_,l,rfl,⟨some a,cap,by rw[EA],fun i JJ=>⟨a,rfl,(hP i JJ).1⟩,fun e=>by cases e⟩,by omega,fun x Vv=>?_⟩;obtain⟨i,JJ,rfl⟩:=Tp Vv;exact(hP i JJ).2
end
section
open Go.Maps
open Aw
theorem aDU{s:List UInt8}{j:Nat}(h:j < s.length):Ab.val (s.drop j)=s[j].toNat+256*Ab.val (s.drop (j+1)):=by
 rw[OH h];rfl
theorem aDV(s:List UInt8)(j:Nat)(h:s.length≤8)(hj:j+1≤s.length):256*Ab.val (s.drop (j+1))+256≤18446744073709551616:=by
 have h1:=Ab.Jw (s.drop (j+1));have h2:256 ^ (s.drop (j+1)).length≤256 ^ 7:=Nat.pow_le_pow_right (by decide) (by rw[CF];omega);have h3:(256:Nat) ^ 7=72057594037927936:=by decide
 omega
theorem af0(s:List UInt8)(w:World)(h8:s.length≤8):
  Calls prog 276 #[s] w fun e w'=>e=.returned (.int .u64 (Ab.val s:Nat))∧w=w':=by
 go_in
 go_wp2
 go_loop [3,4] (fun v i=>∃ j:Nat,j≤s.length∧i=.int .i64 ((j:Int) -1)∧v=.int .u64 (Ab.val (s.drop j):Nat)) (fun _ i=>(intOf i+1).toNat)
 case atStart=>exact⟨s.length,by omega,rfl,by rw[List.drop_length];rfl⟩
 case round=>
  obtain⟨j,hj,rfl,rfl⟩:=hrel;cases j with
  |zero=>
   rw[List.drop_zero];go_wp2;go_ret;exact⟨rfl,rfl⟩
  |succ j=>
   have e:((j+1:Nat):Int) -1=(j:Int):=(by omega);have hlt:j < s.length:=(by omega);have hv:=aDU hlt;have hb:=aDV s j h8 (by omega);have hc:=s[j].toNat_lt;simp only[e];clear e;have HV:=Hi hv;generalize Ab.val (s.drop (j+1))=V at*;have w1:IntKind.u64.wrap ((V:Int)*256)=(V:Int)*256:=IntWalk.u64_in _ (by omega);have w2:IntKind.u64.wrap ((s[j].toNat:Int))=(s[j].toNat:Int):=IntWalk.u64_in _ (by omega);have w3:IntKind.u64.wrap ((V:Int)*256+(s[j].toNat:Int))=(V:Int)*256+(s[j].toNat:Int):=IntWalk.u64_in _ (by omega);clear hv hb;go_wp2
   go_round
   case rel=>exact⟨j,by omega,rfl,by rw[HV.out];congr 1;omega⟩
   case measure=>simp[intOf]
theorem ou(s:List UInt8)(w:World)(h:s.length≤65535):
  Calls prog 244 #[s] w (Rt w (.tuple #[(Ab.le 2 s.length++s),.int .i64 0])):=by
 go_in
 go_wp2_with fail;refine(wy s.length 2 _ (by omega) (by decide)).mono ?_;rintro e w1⟨rfl,hb⟩;go_wp2;go_ret2;exact⟨rfl,hb⟩
theorem oo(s:List UInt8)(w:World)(h:65535 < s.length):
  Calls prog 244 #[s] w fun e w'=>e=.returned (.tuple #[.string (bs []),.int .i64 5])∧w=w':=by
 go_in
 go_wp2;go_ret2;exact⟨rfl,rfl⟩
theorem x8(s:List UInt8)(w:World)(hl:s.length≤1099511627776):
  Calls prog 277 #[s] w fun e w'=>e=.returned (.tuple #[(FM s).1,.int .i64 ((FM s).2.1:Nat),.int .i64 (FM s).2.2])∧w=w':=by
 by_cases h2:s.length < 2
 ·have hR:Hid (FM s=([],0,6)):=Hi (by unfold FM Ea;rw[Ae h2]);rw[hR.out]
  go_in
  go_wp2;go_ret3;exact⟨rfl,rfl⟩
 ·have GY:∀ W,(Instr.slice 9 ↑s none (some (.int .i64 2)) none).run prog W=.ok ↑(s.take 2) W:=fun W=>OD prog W 9 underlying9 s 2 (by omega)
  have Pv:(s.take 2).length=2:=by rw[Bc];omega
  have Gi:=Ab.Jw (s.take 2);rw[Pv] at Gi;have Ry:=fun(W:World)=>af0 (s.take 2) W (by omega)
  have hR:FM s=if 2+Ab.val (s.take 2)≤s.length then((s.take (2+Ab.val (s.take 2))).drop 2,2+Ab.val (s.take 2),0) else([],0,6):=by
   unfold FM Ea;rw[A9 h2];by_cases hq:2+Ab.val (s.take 2)≤s.length
   ·rw[Ae hq,Ae hq]
   ·rw[A9 hq,A9 hq]
  generalize Ab.val (s.take 2)=v at*;have hv3:v < 65536:=Gi;have ZO:=Hi Ry;have HR:=Hi hR;have e2:IntKind.i64.wrap (v:Int)=(v:Int):=EN _ (by omega);clear Pv Gi Ry hR;by_cases h3:2+v≤s.length
  ·have hcu:∀ W,(Instr.slice 9 ↑s (some (.int .i64 2)) (some (.int .i64 (2+(v:Int)))) none).run prog W=.ok ↑((s.take (2+v)).drop 2) W:=fun W=>by
    have:=Z7 prog W 9 underlying9 s 2 (2+v) (by omega) h3;rw[Int.natCast_add] at this;exact this
   have BV:=Hi (HR.trans (Ae h3))
   go_in
   go_wp2_with fail;refine(ZO _).mono ?_;rintro e w1⟨rfl,rfl⟩;go_wp2;go_ret3;rw[BV.out];exact⟨rfl,rfl⟩
  ·have BV:=Hi (HR.trans (A9 h3))
   go_in
   go_wp2_with fail;refine(ZO _).mono ?_;rintro e w1⟨rfl,rfl⟩;go_wp2;go_ret3;rw[BV.out];exact⟨rfl,rfl⟩
def ru(l:List (List UInt8))(k:Nat)(v:Value):Prop:=∃ S,v=.string (bs (Ab.le 2 l.length++S))∧BL (l.take k)=some S
theorem ru.next{l:List (List UInt8)}{k:Nat}{S x:List UInt8}(h:BL (l.take (k+1))=(Er x).map (S++ ·))(hx:x.length≤65535){v:Value}(hv:v= ↑(Ab.le 2 l.length++(S++(Ab.le 2 x.length++x)))):ru l (k+1) v:=
 ⟨S++(Ab.le 2 x.length++x),hv,by rw[h];unfold Er;rw[Ae hx];rfl⟩
theorem aBD(s:List UInt8)(w:World)(hs:s.length≤1000000000):
  Calls prog 250 #[s] w fun e w'=>MR w s e w':=by
 by_cases h2:s.length < 2
 ·have hR:Hid (Dv s=none):=Hi (by unfold Dv;rw[Ae h2])
  go_in
  go_wp2;go_ret2;exact Mx hR.out rfl (Ai _ _)
 ·have GY:∀ W,(Instr.slice 9 ↑s none (some (.int .i64 2)) none).run prog W=.ok ↑(s.take 2) W:=fun W=>OD prog W 9 underlying9 s 2 (by omega)
  have KN:∀ W,(Instr.slice 9 ↑s (some (.int .i64 2)) none none).run prog W=.ok ↑(s.drop 2) W:=fun W=>Nh prog W 9 underlying9 s 2 (by omega)
  have Pv:(s.take 2).length=2:=by rw[Bc];omega
  have Gi:=Ab.Jw (s.take 2);rw[Pv] at Gi;have Ry:=fun(W:World)=>af0 (s.take 2) W (by omega)
  have G7:Dv s=(EL (Ab.val (s.take 2)) (s.drop 2)).bind fun q=>if q.2=[] then some q.1 else none:=by unfold Dv;rw[A9 h2]
  generalize Ab.val (s.take 2)=n at*;have hn3:n < 65536:=Gi;have ZO:=Hi Ry;have Ey:=Hi G7;have e2:IntKind.i64.wrap (n:Int)=(n:Int):=EN _ (by omega);clear Pv Gi Ry G7
  go_in
  go_wp2_with fail;refine(ZO _).mono ?_;rintro e w1⟨rfl,rfl⟩;go_wp2
  go_loopw [0,5,6] (fun sv lv i wr=>∃ (j:Nat) (S:List UInt8) (l:List (List UInt8)),j≤n∧i=.int .i64 j∧sv= ↑S∧wr.ownsRow 0 9 1 lv l.length (strCells l)∧l.length=j∧S.length≤s.length∧Bw w wr∧(∀ g,lv.ownBlock=some g→w.heap.size≤g)∧EL n (s.drop 2)=(EL (n -j) S).map fun q=>(l++q.1,q.2)) (fun _ _ i _=>n -(intOf i).toNat)
  case atStart=>exact⟨0,s.drop 2,[],by omega,rfl,rfl,by rw[oD];exact DZ _ _ _ _,rfl,by rw[CF];omega,Ai _ _,fun g e=>by simp[Value.ownBlock] at e,by simp⟩
  case round=>
   obtain⟨j,S,l,hj,rfl,rfl,hown,EA,Ql,hb,Pw,Na⟩:=hrel;have HO:=Hi hown;have HB:=Hi hb;have HN:=Hi Pw;have Fh:=Hi Na;have O7:=Hi EA;obtain⟨qv,cv,rfl⟩:=Bp hown;clear hown hb Pw Na EA GY KN;by_cases hlt:j < n
   ·cases hr:Ea S with
    |none=>
     have hR:Hid (Dv s=none):=Hi (by rw[Ey.out,iG hlt Fh hr];rfl);have hRV:Hid (FM S=([],0,6)):=Hi (by unfold FM;rw[hr]);clear hr;go_wp2_with fail;refine(x8 S _ (by omega)).mono ?_;rw[hRV.out];rintro e w2⟨rfl,rfl⟩;go_wp2;go_ret2;exact Mx hR.out rfl HB.out
    |some r=>
     obtain⟨t,m⟩:=r;have hRV:Hid (FM S=(t,m,0)):=Hi (by unfold FM;rw[hr]);have ZF:=Hi (iI hlt Fh hr);obtain⟨_,hmS,_⟩:=bR hr;have hcut:∀ W,(Instr.slice 9 ↑S (some ↑(m:Int)) none none).run prog W=.ok ↑(S.drop m) W:=fun W=>Nh prog W 9 underlying9 S m hmS
     obtain⟨i0,Bh,AY,AZ,Bb⟩:=Dy Tk;have Qv:l.length≤65536:=(by have:=O7.out;omega);clear hr;go_wp2_with fail;refine(x8 S _ (by omega)).mono ?_;rw[hRV.out];rintro e w2⟨rfl,rfl⟩
     go_wp2_with (
      at_builtin
      refine wpList_append_own_at _ rfl _ _ _ rfl 0 9 i0 _ 1 16 underlying61 Bh AY AZ Bb rfl (by omega) (.slice qv l.length cv) l.length (strCells l) rfl (HO.alloc _) ⟨wr.heap.size,0,none⟩ 1 1 [.string (bs t)] rfl rfl (World.news_of_block (cs:=#[.string (bs t)]) (t:=9) (fr:=(0,0)) (AU wr _)) (fun u hu=>by rw[Fu] at hu;subst hu;rfl) (by unfold maxLen;omega) (by omega) (AV _) ?_;intro v' w6 hown AJ _ hat;have HO6:=Hi (show w6.ownsRow 0 9 1 v' (l++[t]).length (strCells (l++[t])) by rw[Tj,AA];exact hown);have EP:=Hi ((HB.alloc HB.size (.cells #[t] 9)).grown AJ (Ay HB.size (by rw[Az];omega)) HN)
      have HN6:=Hi (show ∀ g,v'.ownBlock=some g→w.heap.size≤g from fun g hg=>by
       rcases hat with hat|hat
       ·rw[hat] at hg;exact HN g hg
       ·rw[hat] at hg;have:=GR hg;rw[Az] at this;have:=HB.size;omega)
      clear hown AJ hat)
     go_roundw
     case rel=>exact⟨j+1,S.drop m,l++[t],by omega,by go_num,rfl,HO6,by rw[AA,O7.out];rfl,by rw[CF];omega,EP,HN6,ZF⟩
     case measure=>simp[intOf];omega
   ·obtain rfl:j=n:=(by omega);by_cases hS:S=[]
    ·subst hS;have hR:Hid (Dv s=some l):=Hi (by rw[Ey.out,Fh.out,Nat.sub_self];simp[EL]);go_wp2;go_ret2;exact og hR.out rfl HO HB HN.out
    ·have hR:Hid (Dv s=none):=Hi (by rw[Ey.out,Fh.out,Nat.sub_self];simp[EL,hS]);have hne:S.isEmpty=false:=by
      cases S with
      |nil=>exact absurd rfl hS
      |cons=>rfl
     clear hS;go_wp2;go_ret2;exact Mx hR.out rfl HB.out
end
section
open Go.Maps
open Ah Aq
section
variable {w w':World}
structure EU(w W:World)(ov:Value)(m:Nat)(o:M)(c:Am)(gn:Bool):Prop where
 row:W.ownsRow (w.heap.size+1) 274 2 ov m (Dr o)
 AR:Bw w W
 box:W.heap[w.heap.size]?=some (.cells #[c.name,c.data,gn] 57)
theorem EU.drew{W:World}{ov:Value}{m:Nat}{o:M}{c:Am}{gn:Bool}(h:EU w W ov m o c gn):EU w W.drew ov m o c gn:=⟨h.row.drew,h.AR.drew,h.box⟩
theorem EU.add{W W2:World}{ov v2:Value}{m:Nat}{o:M}{c:Am}{gn:Bool}{ob:Obj}{a b:T}(h:EU w W ov m o c gn)(hg:(W.alloc ob).grownBy W2 ov.ownBlock)(ho:W2.ownsRow (w.heap.size+1) 274 2 v2 (m+1) (Dr o++[.string (bs a),.string (bs b)])):EU w W2 v2 (m+1) (o++[(a,b)]) c gn:=by
 have hlt:=Ao h.box;have BS:(W.alloc ob).heap.size=W.heap.size+1:=Az _ _;refine⟨by rw[TQ];exact ho,(h.AR.alloc h.AR.size ob).grown hg (by omega) (fun j hj=>by have:=DT h.row hj;omega),?_⟩;exact(hg.block w.heap.size (by omega) (row_ne_low h.row (Nat.lt_succ_self w.heap.size))).trans (((AQ W ob).block _ hlt).trans h.box)
theorem anV(c:Am)(d:Bool)(p:T×T)(l:M):FR c d (p :: l)=(if d=false∧¬ p.1 < c.name then[(c.name,c.data)] else[])++((if p.1=c.name then[] else[p])++FR c (d || !decide (p.1 < c.name)) l):=rfl
theorem aBC{q:Option Addr}{cap:Nat}{A:M}(c:Am)(h:MJ w 0 (.slice q A.length cap) A)(hu:Up A)(hl:A.length≤1000000):
  Calls prog 197 #[.slice q A.length cap,.agg #[c.name,c.data,c.gone]] w fun e w'=>∃ v,e=.returned v∧MJ w' w.heap.size v (Am.on A c)∧Bw w w':=by
 obtain⟨i0,Bh,AY,AZ,Bb⟩:=Dy aus;have HR:=Hi h;have HE:=Hi (anX (c:=c) hu);have ER:=Hi (AQ w (.cells #[c.name,c.data,c.gone] 57));have Xz:=Hi (AU w (.cells #[c.name,c.data,c.gone] 57));obtain⟨gn,aF⟩:=ex (c.gone);rw[aF] at HE ER Xz ⊢;clear h hu aF
 go_in
 go_wp2
 go_loopw [5,6,7] (fun ov dv i wr=>∃ (k m:Nat) (o:M) (d:Bool),k≤A.length∧o.length=m∧m≤2*k∧i= ↑(k:Int)∧dv= ↑d∧o++FR c d (A.drop k)=FR c gn A∧EU w wr ov m o c gn)
  (fun _ _ i _=>A.length -(intOf i).toNat)
 case atStart=>exact⟨0,0,[],gn,AV _,rfl,AV _,rfl,rfl,by rw[List.drop_zero];rfl,⟨by rw[R9];exact DZ _ _ _ _,ER,Xz⟩⟩
 case round=>
  obtain⟨k,m,o,d,hk,mM,KT,rfl,rfl,GL,Bj⟩:=hrel;obtain⟨oq,Hw,rfl⟩:=Bp Bj.row;have IA:=Hi Bj;have Nw:=Hi mM;clear ER Xz mM;by_cases hlt:k < A.length
  ·obtain⟨p,II,Mj,EI⟩:=(MJ.index (BD HR (ub Bj.AR) (fun _ _ f=>f)) hlt)
   have HP:=Hi (fun(W:World) (hW:Bw w W)=>(show W.cell? p=some ↑A[k].1∧W.cell? ⟨p.block,p.off+1,none⟩=some ↑A[k].2 from by
    obtain⟨p',uG,acC,acD⟩:=(MJ.index (BD HR (ub hW) (fun _ _ f=>f)) hlt);have e:=II W;rw[uG W] at e;injection e with e
    injection e with e
    injection e with e
    subst e;exact⟨acC,acD⟩))
   obtain⟨b0,b1,b2,_,_,_⟩:=OC Bj.box;have hd:=OH hlt;rw[hd,anV] at GL;obtain⟨x1,Eo⟩:=ex (A[k].1);obtain⟨x2,Ee⟩:=ex (A[k].2);rw[show A[k]=(x1,x2) from Prod.ext Eo Ee] at GL;rw[Eo] at Mj HP;rw[Ee] at EI HP;have Ji:=Hi GL;clear hd Eo Ee GL Bj;by_cases h1:x1 < c.name
   ·
    cases d with
    |false=>
     have Ct:Op.bytesLess x1 c.name=true:=(by rw[Go.Proofs.bytesLess_eq];simpa using h1);have hne:(x1 == c.name)=false:=(by simpa using LM h1);have HN:=Hi (show(o++[(x1,x2)])++FR c false (A.drop (k+1))=FR c gn A by rw[←Ji.out];simp[h1,LM h1]);clear h1;go_wp2;go_region;have C8:=Hi IA.drew;clear b0 b1 b2 Mj EI;generalize wr.drew=W1 at C8 ⊢;obtain⟨b0,b1,b2,_,_,_⟩:=OC C8.box;obtain⟨p0,p1⟩:=HP _ C8.AR;go_wp2;go_region;have BX:=Hi C8.drew;clear b0 b1 b2 p0 p1;generalize W1.drew=W2 at BX ⊢;obtain⟨b0,b1,b2,_,_,_⟩:=OC BX.box;obtain⟨p0,p1⟩:=HP _ BX.AR;go_wp2_with (at_builtin;refine wpList_append_own_at _ rfl _ _ 172 rfl (w.heap.size+1) 274 i0 _ 2 32 underlying172 Bh AY AZ Bb rfl (by decide) (.slice oq m Hw) m _ rfl (BX.row.alloc _) ⟨W2.heap.size,0,none⟩ 1 1 [.string (bs x1),.string (bs x2)] rfl rfl (by intro j u hj;rw[add_plain,E5];exact(Dx▸hj)) (by simp[Value.oneCell']) (by unfold maxLen;omega) (by omega) (by rw[Az];have:=Ao BX.box;omega) ?_;intro v2 w2 Dt Ec _ _;obtain⟨g2,cap2,rfl⟩:=ownsRow_succ Dt;have Hl:=Hi (BX.add Ec Dt);clear Dt Ec);go_roundw
     case rel=>exact⟨k+1,m+1,o++[(x1,x2)],false,by omega,by simp[Nw.out],by omega,by go_num,rfl,HN,Hl⟩
     case measure=>simp[intOf];omega
    |true=>
     have Ct:Op.bytesLess x1 c.name=true:=(by rw[Go.Proofs.bytesLess_eq];simpa using h1);have hne:(x1 == c.name)=false:=(by simpa using LM h1);have HN:=Hi (show(o++[(x1,x2)])++FR c true (A.drop (k+1))=FR c gn A by rw[←Ji.out];simp[h1,LM h1]);clear h1;go_wp2;go_region;have C8:=Hi IA.drew;clear b0 b1 b2 Mj EI;generalize wr.drew=W1 at C8 ⊢;obtain⟨b0,b1,b2,_,_,_⟩:=OC C8.box;obtain⟨p0,p1⟩:=HP _ C8.AR;go_wp2;go_region;have BX:=Hi C8.drew;clear b0 b1 b2 p0 p1;generalize W1.drew=W2 at BX ⊢;obtain⟨b0,b1,b2,_,_,_⟩:=OC BX.box;obtain⟨p0,p1⟩:=HP _ BX.AR;go_wp2_with (at_builtin;refine wpList_append_own_at _ rfl _ _ 172 rfl (w.heap.size+1) 274 i0 _ 2 32 underlying172 Bh AY AZ Bb rfl (by decide) (.slice oq m Hw) m _ rfl (BX.row.alloc _) ⟨W2.heap.size,0,none⟩ 1 1 [.string (bs x1),.string (bs x2)] rfl rfl (by intro j u hj;rw[add_plain,E5];exact(Dx▸hj)) (by simp[Value.oneCell']) (by unfold maxLen;omega) (by omega) (by rw[Az];have:=Ao BX.box;omega) ?_;intro v2 w2 Dt Ec _ _;obtain⟨g2,cap2,rfl⟩:=ownsRow_succ Dt;have Hl:=Hi (BX.add Ec Dt);clear Dt Ec);go_roundw
     case rel=>exact⟨k+1,m+1,o++[(x1,x2)],true,by omega,by simp[Nw.out],by omega,by go_num,rfl,HN,Hl⟩
     case measure=>simp[intOf];omega
   ·by_cases h2:x1=c.name
    ·
     cases d with
     |false=>
      have Ct:Op.bytesLess x1 c.name=false:=(by rw[Go.Proofs.bytesLess_eq];simpa using h1);have hne:(x1 == c.name)=true:=(by simpa using h2);have HN:=Hi (show(o++[(c.name,c.data)])++FR c true (A.drop (k+1))=FR c gn A by rw[←Ji.out];simp[h2,Td]);clear h1 h2;go_wp2;go_region;have C8:=Hi IA.drew;clear b0 b1 b2 Mj EI;generalize wr.drew=W1 at C8 ⊢;obtain⟨b0,b1,b2,_,_,_⟩:=OC C8.box;obtain⟨p0,p1⟩:=HP _ C8.AR;go_wp2_with (at_builtin;refine wpList_append_own_at _ rfl _ _ 172 rfl (w.heap.size+1) 274 i0 _ 2 32 underlying172 Bh AY AZ Bb rfl (by decide) (.slice oq m Hw) m _ rfl (C8.row.alloc _) ⟨W1.heap.size,0,none⟩ 1 1 [.string (bs c.name),.string (bs c.data)] rfl rfl (by intro j u hj;rw[add_plain,E5];exact(Dx▸hj)) (by simp[Value.oneCell']) (by unfold maxLen;omega) (by omega) (by rw[Az];have:=Ao C8.box;omega) ?_;intro v1 w1 DW NL _ _;obtain⟨g1,Wu,rfl⟩:=ownsRow_succ DW;have JD:=Hi (C8.add NL DW);clear DW NL);have BX:=Hi JD.drew;obtain⟨e0,e1,e2,_,_,_⟩:=OC JD.box;obtain⟨r0,r1⟩:=HP _ JD.AR;go_wp2;go_region;clear b0 b1 b2 p0 p1 e0 e1 e2 r0 r1;generalize w1.drew=W2 at BX ⊢;obtain⟨b0,b1,b2,_,_,_⟩:=OC BX.box;obtain⟨p0,p1⟩:=HP _ BX.AR;go_wp2;go_roundw
      case rel=>exact⟨k+1,m+1,o++[(c.name,c.data)],true,by omega,by simp[Nw.out],by omega,by go_num,rfl,HN,BX⟩
      case measure=>simp[intOf];omega
     |true=>
      have Ct:Op.bytesLess x1 c.name=false:=(by rw[Go.Proofs.bytesLess_eq];simpa using h1);have hne:(x1 == c.name)=true:=(by simpa using h2);have HN:=Hi (show(o)++FR c true (A.drop (k+1))=FR c gn A by rw[←Ji.out];simp[h2]);clear h1 h2;go_wp2;go_region;have C8:=Hi IA.drew;clear b0 b1 b2 Mj EI;generalize wr.drew=W1 at C8 ⊢;obtain⟨b0,b1,b2,_,_,_⟩:=OC C8.box;obtain⟨p0,p1⟩:=HP _ C8.AR;go_wp2;go_region;have BX:=Hi C8.drew;clear b0 b1 b2 p0 p1;generalize W1.drew=W2 at BX ⊢;obtain⟨b0,b1,b2,_,_,_⟩:=OC BX.box;obtain⟨p0,p1⟩:=HP _ BX.AR;go_wp2;go_roundw
      case rel=>exact⟨k+1,m,o,true,by omega,by simp[Nw.out],by omega,by go_num,rfl,HN,BX⟩
      case measure=>simp[intOf];omega
    ·
     cases d with
     |false=>
      have Ct:Op.bytesLess x1 c.name=false:=(by rw[Go.Proofs.bytesLess_eq];simpa using h1);have hne:(x1 == c.name)=false:=(by simpa using h2);have HN:=Hi (show((o++[(c.name,c.data)])++[(x1,x2)])++FR c true (A.drop (k+1))=FR c gn A by rw[←Ji.out];simp[h1,h2]);clear h1 h2;go_wp2;go_region;have C8:=Hi IA.drew;clear b0 b1 b2 Mj EI;generalize wr.drew=W1 at C8 ⊢;obtain⟨b0,b1,b2,_,_,_⟩:=OC C8.box;obtain⟨p0,p1⟩:=HP _ C8.AR;go_wp2_with (at_builtin;refine wpList_append_own_at _ rfl _ _ 172 rfl (w.heap.size+1) 274 i0 _ 2 32 underlying172 Bh AY AZ Bb rfl (by decide) (.slice oq m Hw) m _ rfl (C8.row.alloc _) ⟨W1.heap.size,0,none⟩ 1 1 [.string (bs c.name),.string (bs c.data)] rfl rfl (by intro j u hj;rw[add_plain,E5];exact(Dx▸hj)) (by simp[Value.oneCell']) (by unfold maxLen;omega) (by omega) (by rw[Az];have:=Ao C8.box;omega) ?_;intro v1 w1 DW NL _ _;obtain⟨g1,Wu,rfl⟩:=ownsRow_succ DW;have JD:=Hi (C8.add NL DW);clear DW NL);have BX:=Hi JD.drew;obtain⟨e0,e1,e2,_,_,_⟩:=OC JD.box;obtain⟨r0,r1⟩:=HP _ JD.AR;go_wp2;go_region;clear b0 b1 b2 p0 p1 e0 e1 e2 r0 r1;generalize w1.drew=W2 at BX ⊢;obtain⟨b0,b1,b2,_,_,_⟩:=OC BX.box;obtain⟨p0,p1⟩:=HP _ BX.AR
      go_wp2_with (at_builtin;refine wpList_append_own_at _ rfl _ _ 172 rfl (w.heap.size+1) 274 i0 _ 2 32 underlying172 Bh AY AZ Bb rfl (by decide) (.slice g1 (m+1) Wu) (m+1) _ rfl (BX.row.alloc _) ⟨W2.heap.size,0,none⟩ 1 1 [.string (bs x1),.string (bs x2)] rfl rfl (by intro j u hj;rw[add_plain,E5];exact(Dx▸hj)) (by simp[Value.oneCell']) (by unfold maxLen;omega) (by omega) (by rw[Az];have:=Ao BX.box;omega) ?_;intro v2 w2 Dt Ec _ _;obtain⟨g2,cap2,rfl⟩:=ownsRow_succ Dt;have Hl:=Hi (BX.add Ec Dt);clear Dt Ec);go_roundw
      case rel=>exact⟨k+1,m+1+1,(o++[(c.name,c.data)])++[(x1,x2)],true,by omega,by simp[Nw.out],by omega,by go_num,rfl,HN,Hl⟩
      case measure=>simp[intOf];omega
     |true=>
      have Ct:Op.bytesLess x1 c.name=false:=(by rw[Go.Proofs.bytesLess_eq];simpa using h1);have hne:(x1 == c.name)=false:=(by simpa using h2);have HN:=Hi (show(o++[(x1,x2)])++FR c true (A.drop (k+1))=FR c gn A by rw[←Ji.out];simp[h2]);clear h1 h2;go_wp2;go_region;have C8:=Hi IA.drew;clear b0 b1 b2 Mj EI;generalize wr.drew=W1 at C8 ⊢;obtain⟨b0,b1,b2,_,_,_⟩:=OC C8.box;obtain⟨p0,p1⟩:=HP _ C8.AR;go_wp2;go_region;have BX:=Hi C8.drew;clear b0 b1 b2 p0 p1;generalize W1.drew=W2 at BX ⊢;obtain⟨b0,b1,b2,_,_,_⟩:=OC BX.box;obtain⟨p0,p1⟩:=HP _ BX.AR;go_wp2_with (at_builtin;refine wpList_append_own_at _ rfl _ _ 172 rfl (w.heap.size+1) 274 i0 _ 2 32 underlying172 Bh AY AZ Bb rfl (by decide) (.slice oq m Hw) m _ rfl (BX.row.alloc _) ⟨W2.heap.size,0,none⟩ 1 1 [.string (bs x1),.string (bs x2)] rfl rfl (by intro j u hj;rw[add_plain,E5];exact(Dx▸hj)) (by simp[Value.oneCell']) (by unfold maxLen;omega) (by omega) (by rw[Az];have:=Ao BX.box;omega) ?_;intro v2 w2 Dt Ec _ _;obtain⟨g2,cap2,rfl⟩:=ownsRow_succ Dt;have Hl:=Hi (BX.add Ec Dt);clear Dt Ec);go_roundw
      case rel=>exact⟨k+1,m+1,o++[(x1,x2)],true,by omega,by simp[Nw.out],by omega,by go_num,rfl,HN,Hl⟩
      case measure=>simp[intOf];omega
  ·obtain rfl:k=A.length:=(by omega);rw[List.drop_length] at GL;obtain⟨b0,b1,b2,_,_,_⟩:=OC Bj.box;clear Bj;cases d with
   |false=>
    have HN:=Hi (show o++[(c.name,c.data)]=Am.on A c by rw[←HE.out,←GL];rfl);clear GL;go_wp2_with (at_builtin;refine wpList_append_own_at _ rfl _ _ 172 rfl (w.heap.size+1) 274 i0 _ 2 32 underlying172 Bh AY AZ Bb rfl (by decide) (.slice oq m Hw) m _ rfl (IA.row.alloc _) ⟨wr.heap.size,0,none⟩ 1 1 [.string (bs c.name),.string (bs c.data)] rfl rfl (by intro j u hj;rw[add_plain,E5];exact(Dx▸hj)) (by simp[Value.oneCell']) (by unfold maxLen;omega) (by omega) (by rw[Az];have:=Ao IA.box;omega) ?_;intro v0 w0 JL aD _ _;obtain⟨g0,cap0,rfl⟩:=ownsRow_succ JL;have XP:=Hi (IA.add aD JL);clear JL aD);go_ret;refine⟨_,rfl,?_,XP.AR⟩;rw[←HN.out];unfold MJ;rw[AA,Nw.out];exact MJ.adF XP.row (by omega)
   |true=>
    have HN:=Hi (show o=Am.on A c by rw[←HE.out,←GL];exact(Eg o).symm);clear GL;go_wp2;go_ret;refine⟨_,rfl,?_,IA.AR⟩;rw[←HN.out];unfold MJ;rw[Nw.out];exact MJ.adF IA.row (by omega)
end
end
section
open Go.Maps
open Ah Aq
section
variable {w w':World}
theorem aDL(A:M)(k:Nat)(h:k < A.length):used (A.take (k+1))=used (A.take k)+8+A[k].1.length+A[k].2.length:=by
 unfold used;rw[Cr h,CQ,LX];simp[cost];omega
theorem apY(A:M)(k:Nat):used (A.take k)≤used A:=by
 unfold used;have:((A.take k).map cost).sum+((A.drop k).map cost).sum=(A.map cost).sum:=by rw[←LX,←CQ,Lb]
 omega
theorem aeo{q:Option Addr}{cap:Nat}{A:M}(h:MJ w 0 (.slice q A.length cap) A)(hc:used A≤1000000000):
  Calls prog 120 #[.slice q A.length cap] w (Rt w (.int .i64 (used A:Nat))):=by
 have HR:=Hi h;have Ij:=RV A;clear h
 go_in
 go_wp2
 go_loopw [3,4] (fun n i wr=>∃ k:Nat,k≤A.length∧i= ↑(k:Int)∧n=.int .i64 (used (A.take k):Nat)∧Bw w wr) (fun _ i _=>A.length -(intOf i).toNat)
 case atStart=>exact⟨0,AV _,rfl,rfl,Ai _ _⟩
 case round=>
  obtain⟨k,hk,rfl,rfl,hb⟩:=hrel;have HB:=Hi hb;have hut:=apY A k;by_cases hlt:k < A.length
  ·obtain⟨p,II,Mj,EI⟩:=MJ.index (BD HR (ub hb) (fun _ _ f=>f)) hlt;have FL:=aDL A k hlt;have ED:=apY A (k+1);have ET:=Hi FL;obtain⟨x1,Eo⟩:=ex (A[k].1);obtain⟨x2,Ee⟩:=ex (A[k].2);rw[Eo] at Mj;rw[Ee] at EI;rw[Eo,Ee] at ET FL;obtain⟨U,hU⟩:=ex (used (A.take k));rw[hU] at ET FL hut ⊢;have Ak:U+8+x1.length+x2.length≤1000000000:=(by omega);clear hb Eo Ee hU FL ED hut;go_wp2;go_region;all_goals
    go_wp2;go_roundw
    case rel=>exact⟨k+1,by omega,by go_num,by rw[ET.out];congr 1,HB.drew⟩
    case measure=>simp[intOf];omega
  ·obtain rfl:k=A.length:=(by omega);rw[D5];go_wp2;go_ret;exact⟨rfl,HB⟩
theorem aoT{r cap:Nat}{a:Option Addr}{v:Value}{A:M}{most:Int}{l:List Am}(h:I9 w r v A most)(hu:Up A)(hl:Eh w a l)(hA:A.length≤500000)(EA:l.length≤500000):
  Calls prog 119 #[r,.slice a l.length cap] w fun e w'=>∃ v',e=.returned v'∧MJ w' 0 v' (made A l)∧Bw w w':=by
 have c0:w.cell? r=some v:=cr h.1;have HR:=Hi h.2;have HL:=Hi hl;clear h hl
 go_in
 go_wp2_with fail;clear c0
 go_loopw [5,6] (fun ov i wr=>∃ (k:Nat) (F:M),k≤l.length∧F=made A (l.take k)∧i= ↑(k:Int)∧MJ wr 0 ov F∧Bw w wr) (fun _ i _=>l.length -(intOf i).toNat)
 case atStart=>exact⟨0,A,AV _,rfl,rfl,HR,Ai _ _⟩
 case round=>
  obtain⟨k,F,hk,hF,rfl,Af,hb⟩:=hrel;obtain⟨oq,Hw,rfl⟩:=Bp Af;have HB:=Hi hb;have HW:=Hi Af;have HF:=Hi hF;have Yb:F.length≤1000000:=by
   have:=adI A (l.take k);rw[hF];rw[Bc] at this;omega
  have hFu:Up F:=by rw[hF];exact hu.made _
  clear Af hF;by_cases hlt:k < l.length
  ·obtain⟨p,II,hp,_⟩:=(HL.below hb).index cap k hlt;obtain⟨p0,p1,p2⟩:=hp.cells;have Gp:=Hi (aBC (w:=wr) l[k] HW hFu Yb);have HMS:=Hi (show made A (l.take (k+1))=Am.on (made A (l.take k)) l[k] by rw[Cr hlt,vM]);generalize l[k]=c at*;clear hb hp hFu;go_wp2_with fail;refine Gp.mono ?_;rintro e w2⟨v2,rfl,DC,Ac⟩;have BV:=Hi DC;have Aj:=bH HB Ac;clear DC Ac;go_wp2;go_roundw
   case rel=>exact⟨k+1,Am.on F c,by omega,by rw[HMS.out,HF.out],by go_num,MJ.adF BV (AV _),Aj⟩
   case measure=>simp[intOf];omega
  ·obtain rfl:k=l.length:=(by omega);have HE:=Hi (show F=made A l by rw[HF.out,D5]);clear hb;go_wp2;go_ret;exact⟨_,rfl,by rw[←HE.out];exact HW.out,HB⟩
theorem get_at{A:M}{k:Nat}{nm:T}(hk:k < A.length)(h:∀ j,(hj:j < A.length)→j < k→A[j].1≠nm)(he:A[k].1=nm):Ah.get A nm=some A[k].2:=by
 unfold Ah.get;rw[List.find?_eq_some_iff_getElem.2 ⟨by simpa using he,k,hk,rfl,fun j hj=>by simpa using h j (by omega) hj⟩];rfl
theorem avz{A:M}{nm:T}(h:∀ j,(hj:j < A.length)→A[j].1≠nm):Ah.get A nm=none:=get_none.2 fun p hp=>by
 obtain⟨j,hj,rfl⟩:=Tp hp;exact h j hj
theorem aor{r:Nat}{v:Value}{A:M}{most:Int}(h:I9 w r v A most)(hA:A.length≤1000000)(nm:T):
  Calls prog 184 #[r,nm] w (Rt w (.tuple #[((Ah.get A nm).getD []),.bool (Ah.get A nm).isSome])):=by
 obtain⟨oq,Hw,rfl⟩:=Bp h.2;have HR:=Hi h;clear h
 go_in
 go_wp2
 go_loopw [6] (fun i wr=>∃ k:Nat,k≤A.length∧i= ↑(k:Int)∧(∀ j,(hj:j < A.length)→j < k→A[j].1≠nm)∧Bw w wr) (fun i _=>A.length -(intOf i).toNat)
 case atStart=>exact⟨0,AV _,rfl,fun j _ e=>by omega,Ai _ _⟩
 case round=>
  obtain⟨k,hk,rfl,hall,hb⟩:=hrel;have Ga:=Hi hall;have HB:=Hi hb;have hr:=HR.below hb;have c0:wr.cell? r=some (.slice oq A.length Hw):=cr hr.1;clear hall;by_cases hlt:k < A.length
  ·obtain⟨p,II,Mj,EI⟩:=MJ.index hr.2 hlt;obtain⟨x1,Eo⟩:=ex (A[k].1);obtain⟨x2,Ee⟩:=ex (A[k].2);rw[Eo] at Mj;rw[Ee] at EI;by_cases he:x1=nm
   ·have HG:=Hi (get_at hlt Ga (Eo.trans he));rw[Ee] at HG;subst he;clear hr hb Eo Ee;go_wp2;go_ret2;exact⟨by rw[HG.out];rfl,HB⟩
   ·have heb:(x1 == nm)=false:=(by simpa using he);have zg:=Hi (show A[k].1≠nm by rw[Eo];exact he);clear hr hb Eo Ee;go_wp2;go_roundw
    case rel=>exact⟨k+1,by omega,by go_num,fun j hj Yy=>by
     by_cases e:j=k
     ·subst e;exact zg.out
     ·exact Ga j hj (by omega),HB⟩
    case measure=>simp[intOf];omega
  ·have HG:=Hi (avz (A:=A) (nm:=nm) (fun j hj=>Ga j hj (by omega)));obtain rfl:k=A.length:=(by omega);clear hr hb;go_wp2;go_ret2;exact⟨by rw[HG.out];rfl,HB⟩
end
end
section
open Go.Maps
open Ah Aq
section
variable {w w':World}
theorem aAW{r n cap:Nat}{a:Option Addr}{v:Value}{A:M}{l:List Am}(h:I9 w r v A (Cy n))(hu:Up A)(hl:Eh w a l)(hn:n≤16384)(hA:used A≤Cy n)(EA:l.length≤100000)(hok:∀ c∈l,c.name.length≤maxLen∧c.data.length≤maxLen)(Vt:l.all Am.may=true→Ff l≤1400000):
  Calls prog 44 #[r,.slice a l.length cap] w fun e w'=>e=.returned (.int .i64 (FB n A l))∧∃ v',I9 w' r v' (Ep n A l) (Cy n)∧A7 (fun k=>k=r) w w':=by
 have Jo:=bU hn;have Ij:=RV A;have FL:=VF hu l;have HR:=Hi h;have HL:=Hi hl;have Gy:=Hi hok;clear h hl hok
 go_in
 go_wp2
 go_loopw [5] (fun i wr=>∃ k:Nat,k≤l.length∧i= ↑(k:Int)∧(l.take k).all Am.may=true∧Bw w wr) (fun i _=>l.length -(intOf i).toNat)
 case atStart=>exact⟨0,AV _,rfl,rfl,Ai _ _⟩
 case round=>
  obtain⟨k,hk,rfl,hall,hb⟩:=hrel;have Ga:=Hi hall;have HB:=Hi hb;clear hall;by_cases hlt:k < l.length
  ·obtain⟨p,II,hp,_⟩:=(HL.below hb).index cap k hlt;obtain⟨p0,p1,p2⟩:=hp.cells;obtain⟨o1,o2⟩:=Gy _ (CK hlt);have HM:=Hi (aov l[k].name l[k].data l[k].gone wr o1 o2);obtain⟨mv,EH⟩:=ex (Am.may l[k]);rw[show(⟨l[k].name,l[k].data,l[k].gone⟩:Am)=l[k] from rfl,EH] at HM;have Sl:=Hi EH;have KU:=CK hlt;cases mv with
   |true=>
    have HN:=Hi (show(l.take (k+1)).all Am.may=true by rw[Cr hlt,List.all_append,Ga.out,Bool.true_and];simp[Sl.out]);clear hb hp KU EH o1 o2;generalize l[k]=c at*;go_wp2_with fail;refine HM.mono ?_;rintro e w2⟨rfl,Ac⟩;have Aj:=bH HB Ac;clear Ac;go_wp2;go_roundw
    case rel=>exact⟨k+1,by omega,by go_num,HN,Aj⟩
    case measure=>simp[intOf];omega
   |false=>
    have Ro:l.all Am.may=false:=by
     rw[Bool.eq_false_iff];intro e;rw[Nl] at e;rw[e _ KU] at EH;cases EH
    have HC:=Hi (show FB n A l=2 by unfold FB;rw[Ae Ro]);have HX:=Hi (show Ep n A l=A by unfold Ep;rw[A9 (by rw[Ro];simp)]);clear hb hp KU EH o1 o2 Ro;generalize l[k]=c at*;go_wp2_with fail;refine HM.mono ?_;rintro e w2⟨rfl,Ac⟩;have Aj:=bH HB Ac;clear Ac;go_wp2;go_ret;exact⟨by rw[HC.out];rfl,v,by rw[HX.out];exact HR.below Aj,A7.of_below Aj⟩
  ·obtain rfl:k=l.length:=(by omega);have hall:=Ga.out;rw[D5] at hall;have hw:=Vt hall;have HW:=Hi (aoT (cap:=cap) (HR.below hb) hu (HL.below hb) (by omega) (by omega));have Tx:=Hi hall;clear hb hall Ga;go_wp2_with fail;refine HW.mono ?_;rintro e w2⟨v2,rfl,DC,Ac⟩;obtain⟨q2,cap2,rfl⟩:=Bp DC;have Aj:=bH HB Ac;have BV:=Hi DC;have ET:=Hi (fun(W:World) (hW:Bw w2 W)=>aeo (BD DC (ub hW) (fun _ _ f=>f)) (by omega));have FZ:=HR.below Aj.out;have c1:w2.cell? ⟨r,1,none⟩=some ↑(Cy n:Int):=cr FZ.1;have HRF:=Hi FZ;obtain⟨F,hF⟩:=ex (made A l);rw[hF] at ET BV ⊢;have Zp:=Hi hF;obtain⟨U,hU⟩:=ex (used F);rw[hU] at ET;rw[hF,hU] at FL;have jY:=Hi hU;clear DC Ac FZ hU hF;have lT:FB n A l=if Cy n < U then 4 else 0:=by
    unfold FB;rw[A9 (by rw[Tx.out];simp),Zp.out,jY.out]
   have mI:Ep n A l=if Cy n < U then A else F:=by
    unfold Ep;rw[Zp.out,jY.out];by_cases e:Cy n < U
    ·rw[Ae e,A9 (by omega)]
    ·rw[A9 e,Ae ⟨Tx,by omega⟩]
   have Tz:=Hi (CB lT mI);clear lT mI Ij hw EA hA Jo hlt hk;by_cases GI:Cy n < U
   ·have Rk:(Cy n:Int) < (U:Int):=(by omega);have HG:=Hi GI;clear GI;go_wp2
    go_region_held3 (fun V=>V.cell? ⟨r,1,none⟩=some ↑(Cy n:Int)) (go_keep)
     (first|(go_at_call 120;refine(ET _ ((Ai _ _).drew)).mono ?_;rintro e wA ⟨rfl,E8⟩;have Ar:=Hi (Aj.trans ((show Bw w2 wA from((Ai _ w2).drew).trans E8).mono Aj.size));clear E8;have cA:wA.cell? ⟨r,1,none⟩=some ↑(Cy n:Int):=(by rw[BJ _ _ _ _ _ _ (HR.below Ar).1];rfl)))
    all_goals
     go_wp2;go_ret;exact⟨by rw[Tz.1,Ae HG.out];rfl,v,by rw[Tz.2,Ae HG.out];exact HR.below Ar.out,A7.of_below Ar.out⟩
   ·have Rk:¬ (Cy n:Int) < (U:Int):=(by omega);have HG:=Hi GI;clear GI;go_wp2
    go_region_held3 (fun V=>V.cell? ⟨r,1,none⟩=some ↑(Cy n:Int)) (go_keep)
     (first|(go_at_call 120;refine(ET _ ((Ai _ _).drew)).mono ?_;rintro e wA ⟨rfl,E8⟩;have Ar:=Hi ((show Bw w2 wA from((Ai _ w2).drew).trans E8));clear E8;have cA:wA.cell? ⟨r,1,none⟩=some ↑(Cy n:Int):=(by rw[BJ _ _ _ _ _ _ (HR.below (bT Aj Ar)).1];rfl)))
    all_goals
     have D6:=bH Aj Ar;have FZ:=HR.below D6.out;have d0:wA.cell? r=some v:=cr FZ.1;have df:=CG _ _ 0 _ _ FZ.1;have GV:=Hi (CB FZ.1 (BD BV (ub Ar) (fun _ _ f=>f)));clear FZ c1;go_wp2;go_ret;refine⟨by rw[Tz.1,A9 HG.out];rfl,.slice q2 F.length cap2,?_,(A7.of_below (F:=fun k=>k=r) D6).setCell (p:=⟨r,0,none⟩) (.inl rfl) _⟩;rw[Tz.2,A9 HG.out];refine⟨Cs _ _ 0 _ _ _ GV.1,BD GV.2 ((A7.refl (fun k=>k=r) wA).setCell (p:=⟨r,0,none⟩) (.inl rfl) _) (fun g hg e=>?_)⟩;rw[e] at hg;exact Bf.ne (Cx GV.2 hg) ⟨_,_,GV.1⟩ (by decide) rfl
end
end
namespace Bu
open Go.Maps Go.Shelf
open Ah Aq Aw BH
attribute [local go_sem] OJ
theorem dropWhile_drop{α:Type}(p:α→Bool):∀ (l:List α) (k:Nat),k≤l.length→(∀ j,(h:j < l.length)→j < k→p l[j]=true)→(∀ h:k < l.length,p l[k]=false)→l.dropWhile p=l.drop k
 |[],k,_,_,_=>by simp
 |x :: l,0,_,_,h2=>by
  have:=h2 (by simp);rw[List.drop_zero,List.dropWhile_cons_of_neg (by simpa using this)]
 |x :: l,k+1,hk,h1,h2=>by
  have h0:=h1 0 (by simp) (by omega);rw[List.dropWhile_cons_of_pos (by simpa using h0),List.drop_succ_cons];exact dropWhile_drop p l k (by simpa using hk) (fun j hj Yy=>h1 (j+1) (by simpa using hj) (by omega)) (fun h=>h2 (by simpa using h))
theorem ax1{R:M}{k:Nat}(h1:1≤k)(hk:k≤R.length)(ha:∀ j,(h:j < R.length)→j < k→R[j].1=(R[0]'(by omega)).1)(hb:∀ h:k < R.length,R[k].1≠(R[0]'(by omega)).1):heads R=(R[0]'(by omega)).1 :: heads (R.drop k):=by
 cases R with
 |nil=>simp at hk;omega
 |cons x R=>
  rw[akb];obtain⟨k,rfl⟩:∃ j,k=j+1:=⟨k -1,by omega⟩;rw[dropWhile_drop _ R k (by simpa using hk) (fun j hj Yy=>by have:=ha (j+1) (by simpa using hj) (by omega);simpa using this) (fun h=>by have:=hb (by simpa using h);simpa using this)];rfl
def iQ:M→M
 |[]=>[]
 |x :: l=>l.dropWhile fun y=>decide (y.1=x.1)
def iL(Z:M):Nat→M
 |0=>Z
 |k+1=>iQ (iL Z k)
theorem aCZ{R:M}{k:Nat}(h1:1≤k)(hk:k≤R.length)(ha:∀ j,(h:j < R.length)→j < k→R[j].1=(R[0]'(by omega)).1)(hb:∀ h:k < R.length,R[k].1≠(R[0]'(by omega)).1):iQ R=R.drop k:=by
 cases R with
 |nil=>simp at hk;omega
 |cons x R=>
  obtain⟨k,rfl⟩:∃ j,k=j+1:=⟨k -1,by omega⟩;exact dropWhile_drop _ R k (by simpa using hk) (fun j hj Yy=>by have:=ha (j+1) (by simpa using hj) (by omega);simpa using this) (fun h=>by have:=hb (by simpa using h);simpa using this)
theorem aD0{R:M}(h:R≠[]):(iQ R).length < R.length:=by
 cases R with
 |nil=>exact absurd rfl h
 |cons x R=>
  have:=(List.dropWhile_sublist (l:=R) fun y=>decide (y.1=x.1)).length_le
  show(R.dropWhile _).length < _
  simp only[BM];omega
theorem Bg.of_block{W W':World}{q:Option Addr}{R:M}(h:Bg W q R)(he:∀ p,q=some p→R≠[]→W'.heap[p.block]?=W.heap[p.block]?):Bg W' q R:=fun i hi=>by
 obtain⟨p,e,hp⟩:=h i hi;have hb:=he p e (List.ne_nil_of_length_pos (by omega));rw[←add_block p (i*2)] at hb;exact⟨p,e,(World.cell?_of_block hb).trans hp.key,(World.cell?_of_block (a:=⟨(p.add (i*2)).block,(p.add (i*2)).off+1,none⟩) hb).trans hp.val⟩
structure Ld(W1:World)(Bx g:Nat)(R:M)(q:Option Addr)(c:Nat)(W:World):Prop where
 box:W.heap[Bx]?=some (.cells #[.slice q R.length c] 30)
 at_:Bg W1 q R
 blk:∀ p,q=some p→R≠[]→p.block=g
 src:R≠[]→∃ cs fr,W1.heap[g]?=some (.cells cs 51 fr)∧W.heap[g]?=some (.cells cs 51 fr)
 cap:R.length≤c
 small:R.length≤1000000
section
variable {W1:World}{Bx g:Nat}{R:M}{q:Option Addr}{c:Nat}{W W':World}
theorem Ld.Xj(h:Ld W1 Bx g R q c W):Bg W q R:=h.at_.of_block fun p e hR=>by
 obtain⟨cs,fr,h1,h2⟩:=h.src hR;rw[h.blk p e hR,h1,h2]
theorem Ld.upd{F:Nat→Prop}(h:Ld W1 Bx g R q c W)(hu:A7 F W W')(h1:¬ F Bx)(h2:∀ cs fr,W.heap[g]?=some (.cells cs 51 fr)→¬ F g):Ld W1 Bx g R q c W':=
 ⟨(hu.block Bx (Ao h.box) h1).trans h.box,h.at_,h.blk,fun hR=>by
  obtain⟨cs,fr,k1,k2⟩:=h.src hR;exact⟨cs,fr,k1,(hu.block g (Ao k2) (h2 cs fr k2)).trans k2⟩,h.cap,h.small⟩
theorem Ld.below(h:Ld W1 Bx g R q c W)(hb:Bw W W'):Ld W1 Bx g R q c W':=h.upd (ub hb) (fun f=>f) (fun _ _ _ f=>f)
theorem Ld.put(h:Ld W1 Bx g R q c W){k:Nat}{o o':Obj}(ho:W.heap[k]?=some o)(hc:o.isCells=false):Ld W1 Bx g R q c (W.putObj k o'):=by
 refine⟨Tf h.box ho hc,h.at_,h.blk,fun hR=>?_,h.cap,h.small⟩;obtain⟨cs,fr,k1,k2⟩:=h.src hR;refine⟨cs,fr,k1,?_⟩;rw[World.putObj_heap_other (fun e=>?_)]
 ·exact k2
 ·subst e;rw[k2] at ho;injection ho with ho
  subst ho;exact absurd hc (by simp[Obj.isCells])
theorem Ld.next(h:Ld W1 Bx g R q c W){k:Nat}(hk:k≤R.length):Ld W1 Bx g (R.drop k) (Jj q c k) (c -k) (W.setCell Bx (.slice (Jj q c k) (R.length -k) (c -k))):=by
 have hl:(R.drop k).length=R.length -k:=CF;refine⟨by rw[hl];exact Cs W Bx 0 _ _ _ h.box,h.at_.back hk h.cap,fun p e hR=>?_,fun hR=>?_,by rw[hl];have:=h.cap;omega,by rw[hl];have:=h.small;omega⟩
 ·have tN:R≠[]:=fun e=>hR (by rw[e];simp)
  unfold Jj at e;split at e
  ·exact h.blk p e tN
  ·cases q with
   |none=>cases e
   |some p0=>
    simp only[EZ,Cu] at e;rw[←e,add_block];exact h.blk p0 rfl tN
 ·have tN:R≠[]:=fun e=>hR (by rw[e];simp)
  obtain⟨cs,fr,k1,k2⟩:=h.src tN;refine⟨cs,fr,k1,(((A7.refl (fun k=>k=Bx) W).setCell (p:=⟨Bx,0,none⟩) (.inl rfl) _).block g (Ao k2) (fun e=>?_)).trans k2⟩;rw[e,h.box] at k2;injection k2 with k2
  injection k2 with _ k2
  exact absurd k2 (by decide)
end
def au6(x:Value×T):Array Value:=#[x.1]
def jd(W1:World)(Bx g:Nat)(Z:M)(J:List T→World→Prop)(xs:List (Value×T))(W:World):Prop:=
 ∃ R q c,Ld W1 Bx g R q c W∧R=iL Z xs.length∧heads Z=xs.map (·.2)++heads R∧J (xs.map (·.2)) W
def yf(W1:World)(Bx g:Nat)(Z:M)(J:List T→World→Prop)(xs:List (Value×T))(x:Value×T)(W:World):Prop:=
 ∃ R q c,Ld W1 Bx g R q c W∧R=iL Z (xs.length+1)∧heads Z=xs.map (·.2)++x.2 :: heads R∧J (xs.map (·.2)) W∧∃ p n c',x.1=.slice (some p) (n+1) c'∧W.cell? p=some ↑x.2∧n < 1000000
def aai(Bx:Nat)(W:World):Nat:=match W.cell? Bx with
 |some (.slice _ n _)=>n
 |_=>0
theorem aaj{W1:World}{Bx g:Nat}{R:M}{q:Option Addr}{c:Nat}{W:World}(h:Ld W1 Bx g R q c W):aai Bx W=R.length:=by
 unfold aai;rw[BJ _ _ _ _ _ _ h.box];rfl
theorem avM(q:Option Addr)(m c:Nat)(w:World):
  Calls prog 200 #[.slice q m c] w fun e w'=>e=.returned (.func (.func 252) #[] #[.pointer w.heap.size])∧w'=w.alloc (.cells #[.slice q m c] 30):=by
 go_in
 go_wp2;go_ret;exact⟨rfl,rfl⟩
theorem aAB(W:World)(q:Option Addr)(n cap k:Nat)(hk:k≤n)(hc:n≤cap):
  (Instr.slice 30 (.slice q n cap) none (some ↑(k:Int)) (some ↑(k:Int))).run prog W=.ok (.slice q k k) W:=by
 obtain⟨i,hi,_,hs,_⟩:=Dy RO;cases q<;>simp[Instr.slice,He underlying30,Instr.sliceBounds,sizeOf,typeInfo,hi,go_sem]<;>omega
theorem avL(n:Nat)(hn:1≤n)(W1:World)(Bx g:Nat)(Z:M){J:List T→World→Prop}(hJ:∀ ks W W' cs,J ks W→W.heap[Bx]?=some (.cells cs 30)→A7 (fun k=>k=Bx) W W'→J ks W')(w:World):
  XV n prog 252 #[.pointer Bx] au6 (jd W1 Bx g Z J) (yf W1 Bx g Z J) (fun xs=>xs.map (·.2)=heads Z) w:=by
 intro l Bk W Vb hY hW h0 KQ;have H0:=Hi h0;have XG:=Hi KQ;clear h0 KQ;refine callsIn_of_wp func252 rfl trivial ?_ rfl;simp only[ntmps252,Kz,BM,IV,Nat.reduceAdd,Nat.reduceSub,Nj,Nk,Nq,Nn,EE,I5]
 gi_wp2
 gi_loopw [3] (fun _ wr=>∃ xs,jd W1 Bx g Z J xs wr∧Bk wr) (fun _ wr=>aai Bx wr)
 case atStart=>exact⟨[],H0,XG⟩
 case round=>
  obtain⟨xs,⟨R,q,c,hG,ah,hZ,SE⟩,hk⟩:=hrel;have Rn:prog.follows .mixedOrders=true:=by kernel_rfl
  have JG:wr.cell? Bx=some (.slice q R.length c):=cr hG.box;have HG:=Hi hG;have UN:=Hi ah;have HZ:=Hi hZ;have HJ:=Hi SE;have HK:=Hi hk;clear hG ah hZ SE hk H0 XG;by_cases hR:R=[]
  ·have HE:=Hi (show xs.map (·.2)=heads Z from by rw[HZ.out,hR,akc,Eg]);have hz:¬ (0:Int) < (R.length:Int):=(by rw[hR];simp);clear hR
   gi_wp2
   go_end0
   exact⟨⟨_,rfl⟩,xs,HE,⟨R,q,c,HG,UN,HZ,HJ⟩,HK⟩
  ·have mQ:=List.length_pos_iff.2 hR;have hz:(0:Int) < (R.length:Int):=by omega
   gi_wp2
   obtain⟨a0,ha0⟩:=ex ((R[0]'mQ).1);have Zj:=Hi (show ∀ h:0 < R.length,(R[0]'h).1=a0 from fun _=>ha0);have qB:=Hi mQ;have aH:∀ W,∃ p:Addr,q=some p∧(Instr.indexAt 30 (.slice q R.length c) (.int .i64 0)).run prog W=.ok (.pointer (some p)) W:=fun W=>by
    obtain⟨p,rfl,hp⟩:=HG.Xj 0 mQ;have:=Hy prog _ 51 underlying30 2 (by kernel_rfl) p R.length c 0 mQ W;rw[Nat.zero_mul,add_zero'] at this;exact⟨p,rfl,this⟩
   obtain⟨p0,rfl,-⟩:=aH wr;have Ox:∀ W,(Instr.indexAt 30 (.slice (some p0) R.length c) (.int .i64 0)).run prog W=.ok (.pointer (some p0)) W:=fun W=>by
    obtain⟨p,e,h⟩:=aH W;cases e;exact h
   have P8:=Hi Ox;have FO:=Hi (aaj HG);have P5:=Hi (aD0 hR);clear hR ha0 mQ aH Ox JG hz
   gi_loopw [3] (fun i wr2=>∃ k:Nat,1≤k∧k≤R.length∧i= ↑(k:Int)∧(∀ j,(h:j < R.length)→j < k→R[j].1=a0)∧Ld W1 Bx g R (some p0) c wr2∧J (xs.map (·.2)) wr2∧Bk wr2) (fun i _=>R.length -(intOf i).toNat)
   case atStart=>exact⟨1,Ag _,qB,rfl,(fun j h hj=>by
    obtain rfl:j=0:=(by omega);exact Zj h),HG,HJ,HK⟩
   case round=>
    clear HG HJ HK;obtain⟨k,F8,E9,rfl,hall,KJ,kZ,Y9⟩:=hrel;have au:wr.cell? Bx=some (.slice (some p0) R.length c):=cr KJ.box;have axg:=CG _ _ 0 _ _ KJ.box;have WQ:wr.cell? p0=some ↑a0:=by
     obtain⟨p,e,hp⟩:=KJ.Xj 0 qB.out;cases e;have:=hp.key;rwa[Nat.zero_mul,add_zero',Zj qB.out] at this
    have Ox:=P8.out;have FU:=KJ.small;have Ga:=Hi hall;have D7:=Hi KJ;have Zw:=Hi kZ;have Aj:=Hi Y9;have fM:(0:Int) < (k:Int):=(by omega);have awR:=fun W=>aAB W (some p0) R.length c k E9 KJ.cap
    have uf:=fun W=>iE W (some p0) R.length c k E9
    have UU:=Hi (show(∀ h:k < R.length,R[k].1≠a0)→∀ (nq:Nat),YieldAt Fence.wide (n -1) prog l #[.slice (some p0) k k] ((wr.drewN nq).setCell Bx (.slice (Jj (some p0) c k) (R.length -k) (c -k))) fun e W'=>e=.returned true∧jd W1 Bx g Z J (xs++[(.slice (some p0) k k,a0)]) W'∧Bk W' from fun hb nq=>by
     have hd:Bw wr (wr.drewN nq):=FP wr nq;have hGd:=KJ.below hd;have Ow:=aCZ F8 E9 (fun j h hj=>by rw[hall j h hj,Zj.out]) (fun h=>by rw[Zj.out];exact hb h);have hhd:=ax1 F8 E9 (fun j h hj=>by rw[hall j h hj,Zj.out]) (fun h=>by rw[Zj.out];exact hb h);rw[Zj.out] at hhd;have hne:R≠[]:=List.length_pos_iff.1 qB;have hu:A7 (fun k=>k=Bx) wr ((wr.drewN nq).setCell Bx (.slice (Jj (some p0) c k) (R.length -k) (c -k))):=(A7.of_below (F:=fun k=>k=Bx) hd).setCell (p:=⟨Bx,0,none⟩) (.inl rfl) _;refine hY xs (.slice (some p0) k k,a0) _ ⟨R.drop k,Jj (some p0) c k,c -k,hGd.next E9,by show _=iQ (iL Z xs.length);rw[←UN.out,Ow],by rw[HZ.out,hhd],hJ _ _ _ _ kZ KJ.box hu,p0,k -1,k,by show Value.slice _ _ _=_;rw[Nat.sub_add_cancel F8],?_,by have:=KJ.small;omega⟩ (Vb _ _ Y9 ((Vy (ub hd) (fun _ _ f=>f.elim)).trans (KeepsOthers.setCell _ _ _)));refine(hu.cell (Cv WQ) (fun e=>?_)).trans WQ;obtain⟨cs,fr,_,k2⟩:=KJ.src hne;have e2:p0.block=g:=KJ.blk p0 rfl hne;rw[←e2,e,KJ.box] at k2;injection k2 with k2
     injection k2 with _ k2
     exact absurd k2 (by decide))
    by_cases hlt:k < R.length
    ·obtain⟨pk,hik,hpk,-⟩:=KJ.Xj.index c k hlt;have Rh:=hpk.key;by_cases lW:R[k].1=a0
     ·have aqD:=Hi (show ∀ j,(h:j < R.length)→j < k+1→R[j].1=a0 from fun j h hj=>by
       by_cases e:j=k
       ·subst e;exact lW
       ·exact hall j h (by omega))
      rw[lW] at Rh;clear hall KJ kZ Y9 hpk UU awR uf
      gi_wp2
      refine wpIn_region_quiet_lit rfl Rn (by kernel_rfl) ?_
      repeat (gi_big_quiet_step (fail))
      refine wpQuietIn_nil ?_;rintro _⟨nq,rfl⟩
      gi_wp2
      go_roundw
      case rel=>exact⟨k+1,by omega,by omega,by go_num,aqD,D7.below (FP wr nq),hJ _ _ _ _ Zw D7.box (A7.of_below (FP wr nq)),Vb _ _ Aj (Vy (ub (FP wr nq)) (fun _ _ f=>f.elim))⟩
      case measure=>simp[intOf];omega
     ·have dP:=Hi (UU.out fun _=>lW);have hne:(R[k].1 == a0)=false:=(by simpa using lW);generalize R[k]=xk at*;clear hall KJ kZ Y9 hpk UU lW
      gi_wp2
      refine wpIn_region_quiet_lit rfl Rn (by kernel_rfl) ?_
      repeat (gi_big_quiet_step (fail))
      refine wpQuietIn_nil ?_;rintro _⟨nq,rfl⟩
      gi_wp2
      obtain⟨fn,tmps,assign,body,hy,hR⟩:=dP nq;have Ey:=Hi hR;clear hR dP
      gi_wp2
      rw[hy]
      gi_wp2
      refine Ey.mono ?_;rintro e W3⟨rfl,h1,h2⟩;have H1:=Hi h1;have H2:=Hi h2;clear h1 h2 hy Ey
      gi_wp2
      go_roundw
      case rel=>exact⟨_,H1,H2⟩
      case measure=>
       obtain⟨R',q',c',g1,g2,_,_⟩:=H1.out;rw[aaj g1,FO.out,g2,AA,La]
       show(iQ (iL Z xs.length)).length < _
       rw[←UN.out];exact P5.out
    ·obtain rfl:k=R.length:=(by omega);have dP:=Hi (UU (fun h=>absurd h (Nat.lt_irrefl _)));simp only[Nat.sub_self] at dP;clear hall KJ kZ Y9 UU
     gi_wp2
     refine wpIn_region_quiet_lit rfl Rn (by kernel_rfl) ?_
     repeat (gi_big_quiet_step (fail))
     refine wpQuietIn_nil ?_;rintro _⟨nq,rfl⟩
     gi_wp2
     obtain⟨fn,tmps,assign,body,hy,hR⟩:=dP nq;have Ey:=Hi hR;clear hR dP
     gi_wp2
     rw[hy]
     gi_wp2
     refine Ey.mono ?_;rintro e W3⟨rfl,h1,h2⟩;have H1:=Hi h1;have H2:=Hi h2;clear h1 h2 hy Ey
     gi_wp2
     go_roundw
     case rel=>exact⟨_,H1,H2⟩
     case measure=>
      obtain⟨R',q',c',g1,g2,_,_⟩:=H1.out;rw[aaj g1,FO.out,g2,AA,La]
      show(iQ (iL Z xs.length)).length < _
      rw[←UN.out];exact P5.out
def UX(ats:Array TypeId)(ty:TypeId)(args:Array Value):Sem Value:=Builtin.append_ ats ty args
theorem ed(ats:Array TypeId)(ty:TypeId)(args:Array Value):Builtin.append_ ats ty args=UX ats ty args:=rfl
structure JE(B:Nat)(w:World)(oc:Nat)(W:World)(l:List T)(v:Value):Prop where
 AR:Below B w W
 low:B≤oc
 size:B≤W.heap.size
 box:W.heap[oc]?=some (.cells #[v] 61)
 row:W.ownsRow B 9 1 v l.length (strCells l)
section
variable {B:Nat}{w:World}{oc:Nat}{W W1 W2:World}{l:List T}{v:Value}
theorem JE.ne(h:JE B w oc W l v){k:Nat}(hk:v.ownBlock=some k):k≠oc∧B≤k:=by
 refine⟨fun e=>?_,DT h.row hk⟩;obtain⟨cs,fz,h1⟩:=Cx h.row hk;rw[e,h.box] at h1;injection h1 with h1
 injection h1 with _ h1
 exact absurd h1 (by decide)
theorem JE.upd{F:Nat→Prop}(h:JE B w oc W l v)(hu:A7 F W W1)(hB:∀ k,F k→B≤k)(h1:¬ F oc)(h2:∀ k,v.ownBlock=some k→¬ F k):JE B w oc W1 l v:=
 ⟨Cz h.AR hu hB h.size,h.low,Ay h.size hu.size,(hu.block oc (Ao h.box) h1).trans h.box,BD h.row hu h2⟩
theorem JE.below(h:JE B w oc W l v)(hb:Bw W W1):JE B w oc W1 l v:=h.upd (ub hb) (fun _ f=>f.elim) (fun f=>f) (fun _ _ f=>f)
theorem JE.put(h:JE B w oc W l v){k:Nat}{o o':Obj}(ho:W.heap[k]?=some o)(hc:o.isCells=false)(hk:B≤k):JE B w oc (W.putObj k o') l v:=by
 refine h.upd (F:=fun i=>i=k) (A7.of_grownBy (F:=fun i=>i=k) (grownBy_putObj' W k o') (fun i e=>by cases e;rfl)) (fun i e=>by rw[e];exact hk) (fun e=>?_) (fun i hi e=>?_)
 ·rw[←e,h.box] at ho;injection ho with ho
  subst ho;exact absurd hc (by simp[Obj.isCells])
 ·obtain⟨cs,fz,h2⟩:=Cx h.row hi;rw[e,ho] at h2;injection h2 with h2
  subst h2;exact absurd hc (by simp[Obj.isCells])
theorem JE.kind(h:JE B w oc W l v){k:Nat}{cs:Array Value}{t:TypeId}{fz:Nat×Nat}(hk:W.heap[k]?=some (.cells cs t fz))(h1:t≠61)(h2:t≠9):oc≠k∧v.ownBlock≠some k:=by
 refine⟨fun e=>?_,fun e=>?_⟩
 ·rw[←e,h.box] at hk;injection hk with hk
  injection hk with _ hk
  exact h1 hk.symm
 ·obtain⟨c2,f2,h3⟩:=Cx h.row e;rw[hk] at h3;injection h3 with h3
  injection h3 with _ h3
  exact h2 h3
theorem JE.add(h:JE B w oc W l v)(hb:Bw W W1)(hg:W1.grownBy W2 v.ownBlock){v':Value}{k:List T}(ho:W2.ownsRow B 9 1 v' (l.length+k.length) (strCells l++strCells k)):
  JE B w oc (W2.setCell oc v') (l++k) v':=by
 have h1:=h.below hb;have uh:W2.heap[oc]?=some (.cells #[v] 61):=(hg.block oc (Ao h1.box) (fun e=>(h1.ne e.symm).1 rfl)).trans h1.box;have hu:=(A7.refl (fun k=>k=oc) W2).setCell (p:=⟨oc,0,none⟩) (.inl rfl) v';refine⟨(h1.AR.grown hg h1.size (fun k e=>(h1.ne e).2)).setCell (p:=⟨oc,0,none⟩) h.low v',h.low,Ay (Ay h1.size hg.size) hu.size,Cs W2 oc 0 _ _ v' uh,?_⟩;rw[AA,show strCells (l++k)=strCells l++strCells k by unfold strCells;rw[CQ]];refine BD ho hu (fun g hg e=>?_);obtain⟨cs,fz,h2⟩:=Cx ho hg;rw[e,uh] at h2;injection h2 with h2
 injection h2 with _ h2
 exact absurd h2 (by decide)
theorem JE.keeps(h:JE B w oc W l v)(hb:Bw W W1)(hg:W1.grownBy W2 v.ownBlock)(v':Value):KeepsOthers W (W2.setCell oc v'):=by
 have h1:=h.below hb;refine((Vy (ub hb) (fun _ _ f=>f.elim)).trans (KeepsOthers.of_grownBy hg fun j o e ho=>?_)).trans (KeepsOthers.setCell _ _ _);obtain⟨cs,fz,h2⟩:=Cx h1.row e;rw[ho] at h2;injection h2 with h2
 subst h2;rfl
theorem JE.other(h:JE B w oc W l v)(hb:Bw W W1)(hg:W1.grownBy W2 v.ownBlock)(v':Value){k:Nat}{cs:Array Value}{t:TypeId}{fz:Nat×Nat}(hk:W.heap[k]?=some (.cells cs t fz))(h1:t≠61)(h2:t≠9):
  (W2.setCell oc v').heap[k]?=some (.cells cs t fz):=by
 have F8:=(hb.block k (Ao hk)).trans hk;obtain⟨n1,n2⟩:=(h.below hb).kind F8 h1 h2;have J8:=(hg.block k (Ao F8) (fun e=>n2 e.symm)).trans F8;exact(((A7.refl (fun k=>k=oc) W2).setCell (p:=⟨oc,0,none⟩) (.inl rfl) v').block k (Ao J8) (fun e=>n1 e.symm)).trans J8
theorem aD4(x:T)(h:W.ownsRow B 9 1 v l.length (strCells l))(hn:l.length≤1000000000)(hb:B≤W.heap.size):
  ∃ g cap w2,(UX #[61,61] 61 #[v,.slice W.heap.size 1 1]).run prog (W.alloc (.cells #[x] 9))=.ok (.slice (some ⟨g,0,none⟩) (l.length+1) cap) w2∧
   w2.ownsRow B 9 1 (.slice (some ⟨g,0,none⟩) (l.length+1) cap) (l.length+[x].length) (strCells l++strCells [x])∧
   (W.alloc (.cells #[x] 9)).grownBy w2 v.ownBlock:=by
 obtain⟨i0,Bh,AY,AZ,Bb⟩:=Dy Tk;obtain⟨v',w2,h1,h2,h3,_,_⟩:=run_append_own_at (P:=prog) (W.alloc (.cells #[x] 9)) B 61 61 9 i0 _ 1 16 underlying61 Bh AY AZ Bb rfl (by decide) v l.length _ (h.alloc _) ⟨W.heap.size,0,none⟩ 1 1 [.string (bs x)] rfl
  (by intro j u hj;rw[add_plain,E5];exact(Dx▸hj)) (by simp[Value.oneCell']) (by unfold maxLen;omega) (by omega) (by rw[Az];omega)
 obtain⟨g,cap,rfl⟩:=ownsRow_succ h2;exact⟨g,cap,w2,h1,by unfold strCells at h2 ⊢;exact h2,h3⟩
end
end Bu
namespace Bu
open Go.Maps Go.Shelf
open Ah Aq Aw BH
attribute [local go_sem] OJ
attribute [local go_sem ↓] ed
def dQ(w:World)(ks:List T)(W:World):Prop:=∃ v,JE w.heap.size w w.heap.size W ks v
theorem ayJ{w W W':World}{Bx:Nat}{ks:List T}{cs:Array Value}(h:dQ w ks W)(hb:W.heap[Bx]?=some (.cells cs 30))(hB:w.heap.size≤Bx)(hu:A7 (fun k=>k=Bx) W W'):dQ w ks W':=by
 obtain⟨v,h⟩:=h;obtain⟨n1,n2⟩:=h.kind hb (by decide) (by decide);exact⟨v,h.upd hu (fun k e=>by rw[e];exact hB) n1 (fun k hk e=>n2 (by rw[hk,e]))⟩
theorem amo{w:World}{B:Nat}(hB:w.heap.size≤B)(ks:List T):NC B (dQ w ks):=
 ⟨fun A l o o' hl ⟨v,h⟩ ho hc=>⟨v,h.put ho hc (Ay hB hl)⟩,fun A o ⟨v,h⟩=>⟨v,h.below (AQ A o)⟩⟩
theorem avA{W1:World}{Bx g B:Nat}{Z:M}{J:List T→World→Prop}(hJ:∀ ks,NC B (J ks))(xs:List (Value×T)):NC B (jd W1 Bx g Z J xs):=
 ⟨fun A l o o' hl ⟨R,q,c,h1,h2,h3,h4⟩ ho hc=>⟨R,q,c,h1.put ho hc,h2,h3,(hJ _).1 A l o o' hl h4 ho hc⟩,fun A o ⟨R,q,c,h1,h2,h3,h4⟩=>⟨R,q,c,h1.below (AQ A o),h2,h3,(hJ _).2 A o h4⟩⟩
theorem aax{A:World}{p:Addr}{v:Value}{l:Nat}{o o':Obj}(h:A.cell? p=some v)(ho:A.heap[l]?=some o)(hc:o.isCells=false):(A.putObj l o').cell? p=some v:=by
 refine(World.cell?_of_block (World.putObj_heap_other (fun e=>?_))).trans h;unfold World.cell? at h;rw[e,ho] at h;cases o<;>simp[Obj.isCells] at hc h
theorem avC{W1:World}{Bx g B:Nat}{Z:M}{J:List T→World→Prop}(hJ:∀ ks,NC B (J ks))(xs:List (Value×T))(x:Value×T):NC B (yf W1 Bx g Z J xs x):=
 ⟨fun A l o o' hl ⟨R,q,c,h1,h2,h3,h4,p,n,c',h5,h6,h7⟩ ho hc=>⟨R,q,c,h1.put ho hc,h2,h3,(hJ _).1 A l o o' hl h4 ho hc,p,n,c',h5,aax h6 ho hc,h7⟩,
  fun A o ⟨R,q,c,h1,h2,h3,h4,p,n,c',h5,h6,h7⟩=>⟨R,q,c,h1.below (AQ A o),h2,h3,(hJ _).2 A o h4,p,n,c',h5,((AQ A o).cell (Cv h6)).trans h6,h7⟩⟩
theorem iD{w:World}{q:Option Addr}{cap:Nat}{l:M}(h:Bg w q l)(hq:q=none→cap=0)(hl:l.length≤1000000):
  Calls prog 122 #[.slice q l.length cap] w fun e w'=>∃ v,e=.returned v∧Aq.Bt w' w.heap.size v (Ef l)∧Bw w w':=by
 refine(DK (n:=3)).1 ?_;have Rn:prog.follows .mixedOrders=true:=by kernel_rfl
 have HS:=Hi (fun(W:World) (hW:Bw w W)=>apc _ W q cap l (Ag _) (h.below hW) hq hl);have Nz:=Hi (iO l);have HK:=Hi (ax2 l);clear h hq;refine callsIn_of_wp_marks func122 rfl trivial ?_ rfl;simp only[ntmps122,Kz,BM,IV,Nat.reduceAdd,Nat.reduceSub,Nj,Nk,Nq,Nn,EE,I5]
 gi_wp2
 have Be:=AQ w (.cells #[()] 61);have ht0:JE w.heap.size w w.heap.size (w.alloc (.cells #[()] 61)) [] ↑():=⟨Be,Ag _,Be.size,AU w _,by unfold strCells;exact DZ _ _ _ _⟩;have XP:=Hi ht0;refine⟨trivial,(DK.2 (HS _ Be)).mono ?_⟩;rintro e w1⟨v1,rfl,h1,Ak⟩;obtain⟨q1,c1,rfl,EC,GG⟩:=FQ h1;have JD:=Hi (XP.below Ak);have Fy:=Hi h1;have di:=Hi GG;clear Be ht0 h1 Ak EC GG XP HS
 gi_wp2
 refine⟨trivial,(DK.2 (avM q1 _ c1 _)).mono ?_⟩;rintro e w2⟨rfl,Mq⟩;subst Mq
 gi_wp2
 have ER:=Hi (AU w1 (.cells #[.slice q1 (Fq l).length c1] 30));have ZK:=Hi (JD.below (AQ w1 (.cells #[.slice q1 (Fq l).length c1] 30)));have dK:=Hi (Cc Fy (AQ w1 (.cells #[.slice q1 (Fq l).length c1] 30)));have M0:=Hi JD.size;obtain⟨Bx,IE⟩:=ex (w1.heap.size);rw[IE] at ER M0 ⊢;obtain⟨U,hU⟩:=ex (w1.alloc (.cells #[.slice q1 (Fq l).length c1] 30));rw[hU] at ER ZK dK ⊢;obtain⟨g,hg⟩:∃ g,∀ p,q1=some p→p.block=g:=by
  cases q1 with
  |none=>exact⟨0,fun p e=>by cases e⟩
  |some p=>exact⟨p.block,fun p' e=>by cases e;rfl⟩
 have QR:=Hi (show Ld U Bx g (Fq l) q1 c1 U from⟨ER,Bg.CR dK,fun p e _=>hg p e,fun hne=>by
  rcases dK.2 with⟨e1,e2⟩|⟨g',cap',cur,e1,_,Ps,_⟩
  ·exact absurd (Ku.1 e2) hne
  ·injection e1 with e2
   have:=hg _ e2;subst this;exact⟨_,_,Ps,Ps⟩,di.out,by rw[Nz.out];exact hl⟩)
 clear IE hU hg JD Fy di dK;refine aqk (s:=3) (by omega) (gf:=252) (lb:=#[.pointer Bx]) rfl (enters_of func252 (by kernel_rfl) rfl) (e:=fun x:Value×T=>x.1)
  (Ia:=jd U Bx g (Fq l) (dQ w)) (Iy:=yf U Bx g (Fq l) (dQ w)) (fun xs=>avA (fun ks=>amo ZK.size ks) xs) (fun xs x=>avC (fun ks=>amo ZK.size ks) xs x)
  (avL 2 (by omega) U Bx g (Fq l) (J:=dQ w) (fun ks W W' cs h hb hu=>ayJ h hb M0 hu) U) ⟨Fq l,q1,c1,QR,rfl,rfl,_,ZK⟩
  ?assign ?body ?done
 case assign=>
  intro l x W K hK;simp only[np] at hK ⊢
  gi_wp2
  exact hK
 case body=>
  intro l2 pre x W hy;obtain⟨R,q2,c2,hG,ah,hZ,⟨v,hT⟩,p,n,c',hx,Gh,hn⟩:=hy;obtain⟨xv,xk⟩:=x;obtain⟨qv,cv,rfl⟩:=Bp hT.row;simp only at hx Gh hZ;subst hx;have hlen:(pre.map (·.2)).length≤1000000:=by
   have h1:=congrArg List.length hZ;rw[HK.out,AA] at h1;have h2:=VC (l.map (·.1));rw[Ca] at h2;unfold Ef at h1;omega
  obtain⟨g7,rD,w7,Ru,Mi,IG⟩:=aD4 (W:=W.drew) xk hT.row.drew (by omega) hT.size;have Me:Bw W (W.drew.alloc (.cells #[xk] 9)):=((Ai _ W).drew).alloc (Ag _) _;have yh:=Hi (hT.add Me IG (k:=[xk]) Mi);have VQ:=Hi (hT.keeps Me IG (.slice g7 ((pre.map (·.2)).length+1) rD))
  have jF:=Hi (show Ld U Bx g R q2 c2 (w7.setCell w.heap.size (.slice g7 ((pre.map (·.2)).length+1) rD)) from⟨hT.other Me IG _ hG.box (by decide) (by decide),hG.at_,hG.blk,fun hne=>by
   obtain⟨cs,fr,k1,k2⟩:=hG.src hne;exact⟨cs,fr,k1,hT.other Me IG _ k2 (by decide) (by decide)⟩,hG.cap,hG.small⟩)
  have Oj:=(IG.block w.heap.size (by rw[Az];exact Nat.lt_succ_of_lt (Ao hT.box)) (fun e=>(hT.ne e.symm).1 rfl)).trans ((Me.block _ (Ao hT.box)).trans hT.box);have Ym:w7.cell? w.heap.size=some (.slice qv (pre.map (·.2)).length cv):=cr Oj;have aB:=CG w7 w.heap.size 0 _ _ Oj;have cb:W.cell? w.heap.size=some (.slice qv (pre.map (·.2)).length cv):=cr hT.box;have Cn:∀ V,(Instr.indexAt 30 (.slice (some p) (n+1) c') (.int .i64 0)).run prog V=.ok (.pointer (some p)) V:=fun V=>by
   have:=Hy prog _ 51 underlying30 2 (by kernel_rfl) p (n+1) c' 0 (by omega) V;rw[Nat.zero_mul,add_zero'] at this;exact this
  have HZ:=Hi hZ;have UN:=Hi ah;have ajW:=Ao hT.box;have mP:=Cv Gh;have aGc:(UX #[61,61] 61 #[.slice qv (pre.map (·.2)).length cv,.slice W.heap.size 1 1]).run prog (W.alloc (.cells #[xk] 9)).drew=.ok (.slice g7 ((pre.map (·.2)).length+1) rD) w7:=Ru;generalize (pre.map (·.2)).length=m at*;clear hG ah hZ hT Ru Mi IG Me Oj hlen;simp only[np]
  gi_wp2
  gi_region_with_o (fail)
  all_goals
   refine⟨VQ,R,q2,c2,jF,by rw[AA];exact UN.out,by rw[HZ.out,CQ];simp,.slice g7 (m+1) rD,?_⟩;rw[CQ];exact yh.out
 case done=>
  intro D xs W hD hS hI Dm;obtain⟨R,q2,c2,hG,ah,hZ,⟨v,hT⟩⟩:=hI;rw[hS,HK.out] at hT;obtain⟨qv,cv,rfl⟩:=Bp hT.row;have HT:=Hi hT;have TF:=Hi Dm;have HD:=Hi (show w.heap.size≤D from Ay ZK.size hD);have cb:W.cell? w.heap.size=some (.slice qv (Ef l).length cv):=cr hT.box;have Pq:=CG W w.heap.size 0 _ _ hT.box;have hu:=(A7.refl (fun k=>k=w.heap.size) W).setCell (p:=⟨w.heap.size,0,none⟩) (.inl rfl) (.slice qv (Ef l).length cv);have au:=Cs W w.heap.size 0 _ _ (.slice qv (Ef l).length cv) hT.box
  have Jh:=Hi (show(W.setCell w.heap.size (.slice qv (Ef l).length cv)).heap[D]?=some (.deferred (some [])) from(hu.block D (Dn.1 Dm).1 (fun e=>by
   rw[e,hT.box] at Dm;cases Dm)).trans Dm)
  have WI:JE w.heap.size w w.heap.size (W.setCell w.heap.size (.slice qv (Ef l).length cv)) (Ef l) (.slice qv (Ef l).length cv):=
   ⟨hT.AR.setCell (p:=⟨w.heap.size,0,none⟩) (Ag _) _,hT.low,Ay hT.size hu.size,au,BD hT.row hu (fun k hk=>(hT.ne hk).1)⟩
  have zI:=Hi (WI.put (o':=.deferred none) Jh rfl HD);have VL:=Hi (show((W.setCell w.heap.size (.slice qv (Ef l).length cv)).putObj D (.deferred none)).cell? w.heap.size=some (.slice qv (Ef l).length cv) from cr zI.box);clear hG ah hZ hT hS Dm hD hu au WI
  gi_wp2
  refine⟨by simp,.inl ⟨_,_,rfl,run_takeDeferred Jh,?_⟩⟩;exact⟨_,(by simp[results,results122,go_sem,VL.out]),_,rfl,zI.row,zI.AR⟩
end Bu
namespace Mem
open Go.Maps
open Ah Aq Bu Kp Bz Hex BH
theorem bI(k:T)(w:World)(hk:k.length≤1000000):Calls prog 15 #[k] w (Rt w ↑(Ad.nm k)):=by
 have hm:({ data:=#[109] }:ByteArray)=bs [109]:=rfl;have hcut:∀ W,(Instr.slice 9 ↑(EY k) none (some (.int .i64 8)) none).run prog W=.ok ↑((EY k).take 8) W:=fun W=>OD prog W 9 underlying9 (EY k) 8 (by rw[Uu];decide)
 have HE:=Hi (show Ad.nm k=[109]++Eu ((EY k).take 8) from rfl);have hl:(Eu ((EY k).take 8)).length=16:=by rw[U2,Bc,Uu];rfl
 have HS:=Hi (aoY k hk w);have HH:=Hi (fun(W:World)=>ac5 ((EY k).take 8) W (by rw[Bc,Uu];decide));rw[HE.out];generalize EY k=s at*;generalize Eu (s.take 8)=h at*
 go_in
 go_wp2_with fail;refine HS.mono ?_;rintro e w1⟨rfl,Ak⟩;have HB1:=Hi Ak;clear Ak;go_wp2_with fail;refine(HH _).mono ?_;rintro e w2⟨rfl,Ac⟩;have Aj:=bH HB1 Ac;clear Ac;go_wp2;go_ret;exact⟨rfl,Aj⟩
theorem wK{c:UInt8}{name:T}(h:¬ (name.length=17∧name.head?=some c)):NV c name=false:=by
 unfold NV;by_cases h1:name.length=17
 ·by_cases h2:name.head?=some c
  ·exact absurd ⟨h1,h2⟩ h
  ·have:(name.head? == some c)=false:=(by simpa using h2);rw[this];simp
 ·have:(name.length == 17)=false:=by simpa using h1
  rw[this];simp
theorem anw{c:UInt8}{name:T}(h1:name.length=17)(h2:name.head?=some c):NV c name=(Fb (name.drop 1)).isSome:=by
 unfold NV;rw[h1,h2];simp
theorem apP(s:T):decide ((I4 s).2=0)=(Fb s).isSome:=by
 unfold I4;cases Fb s<;>rfl
theorem azK(name:T)(w:World)(hn:name.length≤1000000):Calls prog 199 #[name] w (Rt w (.bool (Ad.ours name))):=by
 show Calls _ _ _ _ fun e w'=>e=.returned (.bool (NV 109 name))∧_
 by_cases h1:name.length=17
 ·have h1i:(name.length:Int)=17:=by omega
  have hlt:0 < name.length:=by omega
  have gu:(0:Int) < (name.length:Int):=by omega
  have hd:name.head?=some name[0]:=by
   cases name with
   |nil=>simp at h1
   |cons a l=>rfl
  by_cases h2:name[0]=109
  ·have hR:=Hi (anw (c:=109) h1 (by rw[hd,h2]));have hcut:∀ W,(Instr.slice 9 ↑name (some (.int .i64 1)) none none).run prog W=.ok ↑(name.drop 1) W:=fun W=>Nh prog W 9 underlying9 name 1 (by omega)
   have kX:(name[0].toNat:Int)=109:=(by rw[h2];rfl);have HU:=Hi (aeS (name.drop 1) w (by rw[CF];omega));have HV:=Hi (apP (name.drop 1));rw[hR.out,←HV.out];generalize I4 (name.drop 1)=V at*;clear hd h2 HV hR;generalize name.drop 1=dn at*
   go_in
   go_wp2_with fail;refine HU.mono ?_;rintro e w1⟨rfl,hb⟩;have HB:=Hi hb;clear hb;go_wp2;go_ret;exact⟨by simp;rfl,HB⟩
  ·have hR:Hid (NV 109 name=false):=Hi (wK (fun h=>h2 (by have:=h.2;rw[hd] at this;injection this)));have kX:¬ (name[0].toNat:Int)=109:=fun e=>h2 (by apply UInt8.toNat_inj.1;have h9:(109:UInt8).toNat=109:=rfl;rw[h9];omega)
   rw[hR.out];clear hd h2
   go_in
   go_wp2;go_ret;exact⟨rfl,Ai _ _⟩
 ·have h1i:¬ (name.length:Int)=17:=by omega
  have hR:Hid (NV 109 name=false):=Hi (wK (fun h=>h1 h.1));rw[hR.out]
  go_in
  go_wp2;go_ret;exact⟨rfl,Ai _ _⟩
end Mem
namespace Mem
open Go.Maps
open Aw Ah Aq Bu Kp Bz Hex BH
theorem iR:∀ {L:List T} {a:T},BL L=some a→∀ t∈L,t.length≤65535
 |[],_,_,t,h=>by simp at h
 |x :: L,a,h,t,ht=>by
  simp only[BL] at h;cases h1:Er x with
  |none=>rw[h1] at h;cases h
  |some u=>
   cases h2:BL L with
   |none=>rw[h1,h2] at h;cases h
   |some c=>
    rcases Ch.1 ht with rfl|ht
    ·unfold Er at h1;split at h1
     ·assumption
     ·cases h1
    ·exact iR h2 t ht
theorem abd{s:T}{l:M}(h:Ic s=some l):l.length≤65535∧∀ p∈l,p.1.length≤65535∧p.2.length≤65535:=by
 have h2:=(aiU h).2;unfold FW at h2;split at h2
 ·rename_i hn
  cases h1:BL (flat l) with
  |none=>rw[h1] at h2;cases h2
  |some a=>
   refine⟨hn,fun p hp=>⟨iR h1 _ (NZ.2 ⟨p,hp,by simp⟩),iR h1 _ (NZ.2 ⟨p,hp,by simp⟩)⟩⟩
 ·cases h2
theorem iJ{K:Kind}{name data:T}{l:M}(h:K.Cm name data=some l):l.length≤65535∧∀ p∈l,p.1.length≤65535∧p.2.length≤65535:=by
 obtain⟨_,h2,_,s,h4,_⟩:=Ng h;exact abd (sU h4 (D8.RN h2))
def MR(w:World)(r:Option M)(e:Ending)(w':World):Prop:=match r with
 |none=>e=.returned (.tuple #[(),false])∧Bw w w'
 |some l=>∃ q cap,e=.returned (.tuple #[.slice q l.length cap,true])∧BK w' w.heap.size (.slice q l.length cap) l∧(q=none→cap=0)∧Bw w w'
theorem Mx{w w':World}{r:Option M}{e:Ending}(h:r=none)(he:e=.returned (.tuple #[(),false]))(hb:Bw w w'):MR w r e w':=by
 subst h;exact⟨he,hb⟩
theorem og{w w':World}{r:Option M}{e:Ending}{l:M}{q:Option Addr}{cap:Nat}(h:r=some l)(he:e=.returned (.tuple #[.slice q l.length cap,true]))(hr:BK w' w.heap.size (.slice q l.length cap) l)(hq:q=none→cap=0)(hb:Bw w w'):MR w r e w':=by
 subst h;exact⟨q,cap,he,hr,hq,hb⟩
theorem azv(name data:T):Ad.Cm name data=if(Ab.EK data).2=0 then(Ic (Ab.EK data).1).bind fun l=>if l≠[]∧(Ef l).length=l.length∧∀ p∈l,Ad.nm p.1=name then some l else none else none:=by
 unfold Kind.Cm bQ;have:∀ p:T×T,(Ad.ok p=true)=True:=fun p=>by simp[Ad]
 simp only[this,and_true]
theorem apw{P:T×T→Prop}{l:M}{k:Nat}(hk:k < l.length)(h:∀ p∈l.take k,P p)(hp:P l[k]):∀ p∈l.take (k+1),P p:=fun p h'=>by
 rw[Cr hk] at h';rcases Es.1 h' with h'|h'
 ·exact h p h'
 ·rw[Fu.1 h'];exact hp
def agN(w:World)(q:Option Addr)(cap:Nat)(l:M)(name:T)(i:Value)(wr:World):Prop:=∃ k:Nat,k≤l.length∧i=.int .i64 k∧Bw w wr∧BK wr w.heap.size (.slice q l.length cap) l∧∀ p∈l.take k,Ad.nm p.1=name
theorem azN(name data:T)(w:World)(hd:data.length≤1000000):Calls prog 157 #[name,data] w fun e w'=>MR w (Ad.Cm name data) e w':=by
 have QS:=Hi (azv name data);have HO:=Hi (ant data w (by omega));have CS:(Ab.EK data).1.length≤1000000:=by
  by_cases h:(Ab.EK data).2=0
  ·have:=congrArg List.length (Ab.adS h);rw[Ab.RP] at this;omega
  ·unfold Ab.EK at h ⊢;split
   ·simp
   ·split
    ·rename_i h1 h2
     rw[A9 h1,Ae h2] at h;exact absurd rfl h
    ·simp
 generalize (Ab.EK data).1=s at*;generalize (Ab.EK data).2=c at*;have HG:=Hi (fun(W:World)=>anK s W (by omega));by_cases hc:c=0
 ·subst hc;cases hg:Ic s with
  |none=>
   have hR:Hid (Ad.Cm name data=none):=Hi (by rw[QS.out,Ae rfl,hg];rfl);have D7:=Hi (show ∀ W,Calls prog 229 #[s] W (Rt W (.tuple #[(),.int .i64 7])) from fun W=>by have:=HG W;unfold Ws at this;rw[hg] at this;exact this);clear HG QS hg
   go_in
   go_wp2_with fail;refine HO.mono ?_;rintro e w1⟨rfl,Ak⟩;have HB1:=Hi Ak;clear Ak;go_wp2_with fail;refine(D7 _).mono ?_;rintro e w2⟨rfl,Ac⟩;have Aj:=bH HB1 Ac;clear Ac;go_wp2;go_ret2;exact Mx hR.out rfl Aj.out
  |some l=>
   have D7:=Hi (show ∀ W,Calls prog 229 #[s] W fun e w'=>∃ v,e=.returned (.tuple #[v,.int .i64 0])∧BK w' W.heap.size v l∧Bw W w' from fun W=>by have:=HG W;unfold Ws at this;rw[hg] at this;exact this);have Zv:=Hi (show Ad.Cm name data=if l≠[]∧(Ef l).length=l.length∧∀ p∈l,Ad.nm p.1=name then some l else none from by rw[QS.out,Ae rfl,hg];rfl);obtain⟨hl,hsh⟩:=abd hg;have Sr:=Hi hsh;clear HG QS hg hsh;by_cases hz:l=[]
   ·have hR:Hid (Ad.Cm name data=none):=Hi (by rw[Zv.out,A9 (fun h=>h.1 hz)]);have AY:(l.length:Int)=0:=(by rw[hz];rfl);clear hz
    go_in
    go_wp2_with fail;refine HO.mono ?_;rintro e w1⟨rfl,Ak⟩;have HB1:=Hi Ak;clear Ak;go_wp2_with fail;refine(D7 _).mono ?_;rintro e w2⟨v,rfl,Af,Ac⟩;obtain⟨q,cap,rfl,Hr,BQ⟩:=FQ Af;have Aj:=bH HB1 Ac;clear Ac Af;go_wp2;go_ret2;exact Mx hR.out rfl Aj.out
   ·have AY:¬ (l.length:Int)=0:=fun e=>hz (Ku.1 (by omega))
    have hzb:((l.length:Int) == 0)=false:=Ev.2 AY;by_cases hk:(Ef l).length=l.length
    ·have jH:=Hi (show Ad.Cm name data=if ∀ p∈l,Ad.nm p.1=name then some l else none from by
      rw[Zv.out];by_cases h:∀ p∈l,Ad.nm p.1=name
      ·rw[Ae ⟨hz,hk,h⟩,Ae h]
      ·rw[A9 (fun x=>h x.2.2),A9 h])
     have fM:((Ef l).length:Int)=(l.length:Int):=by omega
     go_in
     go_wp2_with fail;refine HO.mono ?_;rintro e w1⟨rfl,Ak⟩;have HB1:=Hi Ak;clear Ak;go_wp2_with fail;refine(D7 _).mono ?_;rintro e w2⟨v,rfl,Af,Ac⟩;obtain⟨q,cap,rfl,Hr,BQ⟩:=FQ Af;have Aj:=bH HB1 Ac;have BF:=Hi (EM Af HB1.size);have KH:=Hi (iD (w:=w2) (Bg.CR Af) Hr (by omega));clear Ac Af;go_wp2_with fail;refine KH.mono ?_;rintro e w3⟨kv,rfl,CX,Av⟩;obtain⟨kq,kc,rfl⟩:=Bp CX;have Q4:=Hi (Cc BF Av);have Au:=bH Aj Av;clear Av CX;go_wp2
     go_loopw [10,40] (fun _ i wr=>agN w q cap l name i wr) (fun _ i _=>l.length -(intOf i).toNat)
     case atStart=>exact⟨0,AV _,rfl,Au,Q4,fun p h=>by simp at h⟩
     case round=>
      obtain⟨k,E9,rfl,hb,hr,hall⟩:=hrel;have HB:=Hi hb;have HR:=Hi hr;have HA:=Hi hall;clear hall Au Q4 hb;by_cases hlt:k < l.length
      ·obtain⟨a,Cn,ha,-⟩:=(Bg.CR hr).index cap k hlt;have c0:=ha.key;have c1:=ha.val;have hsk:=(Sr _ (CK hlt)).1;have HT:=Hi (apw (P:=fun p=>Ad.nm p.1=name) hlt HA)
       have HF:=Hi (show Ad.nm l[k].1≠name→Ad.Cm name data=none from fun hne=>by
        rw[jH.out,A9 (fun h=>hne (h _ (CK hlt)))])
       generalize l[k]=x at*;have HN:=Hi (fun(W:World)=>bI x.1 W (by omega));clear ha hr;go_wp2_with fail;refine(HN _).mono ?_;rintro e w4⟨rfl,AB⟩;have M6:=Hi (Cc (HR.alloc _) AB);have AX:=Hi ((HB.alloc HB.size _).trans (AB.mono (by have:=HB.size;rw[Az];omega)));clear AB;have Hl:=Hi (show Ad.nm x.1=name→∀ p∈l.take (k+1),Ad.nm p.1=name from HT.out);clear HT;generalize Ad.nm x.1=nx at*;by_cases heq:nx=name
       ·go_wp2;go_roundw
        case rel=>
         have Iz:=Hi (show agN w q cap l name (.int .i64 ((k:Int)+1)) w4 from⟨k+1,by omega,by go_num,AX,M6,Hl heq⟩);exact Iz.out
        case measure=>
         show l.length -((k:Int)+1).toNat < l.length -((k:Int)).toNat
         omega
       ·have hR:=Hi (HF heq);have aU:(nx == name)=false:=Ev.2 heq;clear HF Hl;go_wp2;go_ret2;exact Mx hR.out rfl AX.out
      ·obtain rfl:k=l.length:=by omega
       have hR:Hid (Ad.Cm name data=some l):=Hi (by
        rw[jH.out,Ae];have:=HA.out;rwa[D5] at this)
       clear hr;go_wp2;go_ret2;exact og hR.out rfl HR Hr HB.out
    ·have hR:Hid (Ad.Cm name data=none):=Hi (by rw[Zv.out,A9 (fun h=>hk h.2.1)]);have fM:¬ ((Ef l).length:Int)=(l.length:Int):=(by omega);have SL:(((Ef l).length:Int) != (l.length:Int))=true:=bne_iff_ne.2 fM
     go_in
     go_wp2_with fail;refine HO.mono ?_;rintro e w1⟨rfl,Ak⟩;have HB1:=Hi Ak;clear Ak;go_wp2_with fail;refine(D7 _).mono ?_;rintro e w2⟨v,rfl,Af,Ac⟩;obtain⟨q,cap,rfl,Hr,BQ⟩:=FQ Af;have Aj:=bH HB1 Ac;have KH:=Hi (iD (w:=w2) (Bg.CR Af) Hr (by omega));clear Ac Af;go_wp2_with fail;refine KH.mono ?_;rintro e w3⟨kv,rfl,CX,Av⟩;obtain⟨kq,kc,rfl⟩:=Bp CX;have Au:=bH Aj Av;clear Av CX;go_wp2;go_ret2;exact Mx hR.out rfl Au.out
 ·have hR:Hid (Ad.Cm name data=none):=Hi (by rw[QS.out,A9 hc]);clear HG QS
  go_in
  go_wp2_with fail;refine HO.mono ?_;rintro e w1⟨rfl,Ak⟩;have HB1:=Hi Ak;clear Ak;go_wp2;go_ret2;exact Mx hR.out rfl HB1.out
def Gq(w:World)(p y:Nat):Prop:=w.heap[p]?=some (.cells #[y] 160)
theorem Gq.cell{w:World}{p y:Nat}(h:Gq w p y):w.cell? p=some (.pointer y):=by
 rw[BJ _ _ _ _ _ _ h];rfl
theorem Gq.lt{w:World}{p y:Nat}(h:Gq w p y):p < w.heap.size:=Ao h
theorem Gq.below{w w':World}{p y:Nat}(h:Gq w p y)(hb:Bw w w'):Gq w' p y:=(hb.block p (Ao h)).trans h
theorem azH(y:Nat)(w:World):Calls prog 26 #[y] w fun e w'=>∃ p,e=.returned (.tuple #[.pointer (some ⟨p,0,none⟩),.int .i64 0])∧Gq w' p y∧w.heap.size≤p∧Bw w w':=by
 go_in
 go_wp2;go_ret2;exact⟨_,rfl,AU w _,Ag _,AQ w _⟩
def QY(K:Kind)(w:World)(A:M)(name:T)(e:Ending)(w':World):Prop:=∃ q cap,e=.returned (.tuple #[.slice q ((fileOf K A name).getD []).length cap,.bool (Ah.get A name).isSome,.bool (fileOf K A name).isSome])∧BK w' w.heap.size (.slice q ((fileOf K A name).getD []).length cap) ((fileOf K A name).getD [])∧(q=none→cap=0)∧Bw w w'
theorem Xi(w:World)(base:Nat):BK w base ↑() []:=by unfold BK;rw[R9];exact DZ _ _ _ _
theorem adN{w:World}{p y:Nat}{A:M}(hm:Gq w p y)(hg:Aq.PO w y A)(name:T)(hn:name.length≤1000):Calls prog 74 #[p,name] w fun e w'=>QY Ad w A name e w':=by
 have c:=hm.cell;have HG:=Hi (hg.gets w (Ai _ _) name hn);have hs:=hg.small name;have HF:=Hi (show fileOf Ad A name=(Ah.get A name).bind (Ad.Cm name) from rfl);clear hg hm;cases hx:Ah.get A name with
 |none=>
  rw[hx] at HG HF;have hF:fileOf Ad A name=none:=HF.out;have HP:=Hi (show ∀ W',Bw w W'→QY Ad w A name (.returned (.tuple #[(),false,false])) W' from fun W' hb=>⟨none,0,by rw[hF,hx];rfl,by rw[hF];exact Xi _ _,fun _=>rfl,hb⟩);clear hx HF hF hs
  go_in
  go_wp2_with fail;refine HG.mono ?_;rintro e w1⟨rfl,Ak⟩;have HB1:=Hi Ak;clear Ak;go_wp2_with fail;exact EO (v:=.tuple #[(),false,false]) (by simp[results,results74,go_sem]) rfl (HP _ HB1)
 |some d=>
  rw[hx] at HG HF;have hF:fileOf Ad A name=Ad.Cm name d:=HF.out;have NK:d.length≤1000000:=by rw[hx] at hs;exact hs
  have HR:=Hi (fun(W:World)=>azN name d W NK);have QR:=Hi (show(Ah.get A name).isSome=true from by rw[hx];rfl);clear HF hs hx;cases hr:Ad.Cm name d with
  |none=>
   rw[hr] at HR hF;have HP:=Hi (show ∀ W',Bw w W'→QY Ad w A name (.returned (.tuple #[(),true,false])) W' from fun W' hb=>⟨none,0,by rw[hF,QR.out];rfl,by rw[hF];exact Xi _ _,fun _=>rfl,hb⟩);clear hF hr QR
   go_in
   go_wp2_with fail;refine HG.mono ?_;rintro e w1⟨rfl,Ak⟩;have HB1:=Hi Ak;clear Ak;go_wp2_with fail;refine(HR _).mono ?_;rintro e w2⟨rfl,Ac⟩;have Aj:=bH HB1 Ac;clear Ac;go_wp2_with fail;exact EO (v:=.tuple #[(),true,false]) (by simp[results,results74,go_sem]) rfl (HP _ Aj)
  |some l=>
   rw[hr] at HR hF;have HP:=Hi (show ∀ (W':World) (q:Option Addr) (cap:Nat),BK W' w.heap.size (.slice q l.length cap) l→(q=none→cap=0)→Bw w W'→QY Ad w A name (.returned (.tuple #[.slice q l.length cap,true,true])) W' from fun W' q cap h1 h2 hb=>⟨q,cap,by rw[hF,QR.out];rfl,by rw[hF];exact h1,h2,hb⟩);clear hF hr QR
   go_in
   go_wp2_with fail;refine HG.mono ?_;rintro e w1⟨rfl,Ak⟩;have HB1:=Hi Ak;clear Ak;go_wp2_with fail;refine(HR _).mono ?_;rintro e w2⟨q,cap,rfl,Af,Hr,Ac⟩;have Aj:=bH HB1 Ac;have HW:=Hi (EM Af HB1.size);clear Ac Af;go_wp2_with fail;exact EO (v:=.tuple #[.slice q l.length cap,true,true]) (by simp[results,results74,go_sem]) rfl (HP _ _ _ HW Hr Aj)
