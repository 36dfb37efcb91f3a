/- RDep RUse RSet SwMk SwMkW SwAl SwKe SwLaw SwK FckC SwAv FckE LinF FckK SwNil SwAvW -/
import Derived.Test.YtkmninbcgipliaaGreatDoorV13
import Derived.IntWalk
import Derived.Test.YtkmninbcgipliaaGreatDoorCards
import Derived.Test.YtkmninbcgipliaaGreatDoorTie
import Derived.ShutString
import Derived.Carry
import Derived.SevenTiedAt
set_option maxHeartbeats 16000000
set_option maxRecDepth 100000
set_option linter.all false
namespace Go.Proofs.YtkmninbcgipliaaGreatDoor
open Go.Proofs.Tryz hiding t1 t2
section
open Go.RowKit Go.Maps Av
theorem aA9(l:List (List UInt8))(a:Option Addr)(cap:Nat)(w:World)(hl:Du w a l)(hlen:l.length≤maxLen)(Es:l.length≤10000):
  Calls prog 194 #[.slice a l.length cap] w fun e w'=>e=.returned (.tuple #[.string (bs (D8 l).1),.int .i64 (D8 l).2])∧Bw w w':=by
 unfold maxLen at hlen;by_cases aaR:65535 < l.length
 ·have hR:Hid (D8 l=([],5)):=Hi (by unfold D8 GN;rw[Ab (by omega)]);rw[hR.out];clear hl
  go_in
  go_wp2_with fail;all_goals
   go_ret2;exact⟨rfl,Ai _ _⟩
 ·have HL:=Hi hl;clear hl
  go_in
  go_wp2_with fail;refine(uJ l.length 2 _ (by omega) (by decide)).mono ?_;rintro e w1⟨rfl,hb⟩;have HB1:=Hi hb;clear hb;go_wp2
  go_loopw [4,5] (fun v i wr=>∃ (k:Nat),k≤l.length∧i=.int .i64 k∧pE l k v∧Bw w wr) (fun _ i _=>l.length -(intOf i).toNat)
  case atStart=>exact⟨0,by omega,rfl,⟨[],by rw[Ea],rfl⟩,HB1⟩
  case round=>
   clear HB1;obtain⟨k,hk,rfl,⟨S,rfl,hS⟩,hb⟩:=hrel;have HS:=Hi hS;have HB:=Hi hb;clear hS hb;by_cases hlt:k < l.length
   ·obtain⟨q,Iu,hq⟩:=(HL.below HB).index cap k hlt;have GK:=adC HS.out;rw[AZ] at GK;have KI:=Hi (adD hlt HS);by_cases OA:65535 < l[k].length
    ·have hR:Hid (D8 l=([],5)):=Hi (by unfold D8 GN;rw[Ad (by omega),vR hlt OA];rfl);clear GK;generalize l[k]=x at*;go_wp2_with fail;refine(mM x _ OA).mono ?_;rintro e w3⟨rfl,rfl⟩;go_wp2;go_ret2;rw[hR.out];exact⟨rfl,HB⟩
    ·have Gq:l[k].length≤65535:=(by omega);have hle:S.length+l[k].length≤1000000000:=(by have:=P9 65537 (show min k l.length≤10000 by omega);omega);clear GK OA;generalize l[k]=x at*;go_wp2_with fail;refine(mO x _ Gq).mono ?_;rintro e w3⟨rfl,Ap⟩;have Au:=bH HB Ap;clear Ap hq;go_wp2;go_roundw
     case rel=>exact⟨k+1,by omega,by go_num,pE.next KI Gq rfl,Au⟩
     case measure=>simp[intOf];omega
   ·obtain rfl:k=l.length:=by omega
    have hR:Hid (D8 l=(A9.le 2 l.length++S,0)):=Hi (by
     have h:=HS.out;rw[Da] at h;unfold D8 GN;rw[Ad (by omega),h];rfl)
    go_wp2;go_ret2;rw[hR.out];exact⟨rfl,HB⟩
end
namespace Ch
open Go.RowKit Go.Maps
open Av Ag Bt Kp BI Hex BH Mem
open Ar hiding T
theorem ad9(k:T)(w:World)(hk:k.length≤1000000):Calls prog 113 #[.string (bs k)] w fun e w'=>e=.returned (.string (bs (Aa.nm k)))∧Bw w w':=by
 have hm:({ data:=#[117] }:ByteArray)=bs [117]:=rfl;have hcut:∀ W,(Instr.slice 9 (.string (bs (EJ k))) none (some (.int .i64 8)) none).run prog W=.ok (.string (bs ((EJ k).take 8))) W:=fun W=>O7 prog W 9 underlying9 (EJ k) 8 (by rw[TU];omega)
 have LH:((EJ k).take 8).length=8:=by rw[AZ,TU];rfl
 have HH:=Hi (fun(W:World)=>amY ((EJ k).take 8) W (by rw[LH];omega) (by rw[LH];omega));have hhl:(Ew ((EJ k).take 8)).length≤16:=by rw[UN,LH];omega
 have HE:=Hi (show[117]++Ew ((EJ k).take 8)=Aa.nm k from rfl);generalize Ew ((EJ k).take 8)=hx at*;generalize (EJ k).take 8=sk at*;clear LH
 go_in
 go_wp2_with fail;refine(ang k (by omega) _).mono ?_;rintro e w1⟨rfl,Aj⟩;have HB1:=Hi Aj;clear Aj;go_wp2_with fail;refine(HH _).mono ?_;rintro e w2⟨rfl,Ac⟩;have Ak:=bH HB1 Ac;clear Ac;go_wp2;go_ret;exact⟨by rw[←HE.out];rfl,Ak⟩
theorem azx{w:World}{a:Option Addr}{cap:Nat}{l:M}(h:Bf w a l)(hs:CU l)(hl:l.length≤60000)(D7:rowLen (flat l)≤1000000000):
  Calls prog 115 #[.slice a l.length cap] w fun e w'=>e=.returned (.tuple #[.string (bs ((BV l).getD [])),.int .i64 (if(BV l).isSome=true then 0 else 5)])∧Bw w w':=by
 have Gh:=Hi (ane (cap:=cap) h hs hl D7);by_cases Cf:(BV l).isSome=true
 ·rw[Ad Cf];obtain⟨he,hlen⟩:=Xr.1 Cf;have U8:=Hi (pW Cf);rw[U8.out];rw[he] at Gh;generalize (Ed l).1=s at*;have Tw:decide (65535 < (s.length:Int)+4)=false:=decide_eq_false (by omega);have IP:IntKind.i64.wrap ((s.length:Int)+4)=(s.length:Int)+4:=ET _ (by omega);have Z6:=Hi (fun W=>vG s W (by omega));clear he Cf hlen h hs D7 U8
  go_in
  go_wp2_with fail;refine Gh.mono ?_;rintro e w3⟨rfl,Ap⟩;have Au:=Hi Ap;clear Ap;go_wp2_with fail;refine(Z6 _).mono ?_;rintro e w4⟨rfl,AB⟩;have AX:=bH Au AB;clear AB;go_wp2;go_ret2;exact⟨rfl,AX⟩
 ·rw[Ab Cf];have hn:(BV l).getD []=[]:=by
   cases hc:BV l with
   |none=>rfl
   |some d=>rw[hc] at Cf;simp at Cf
  rw[hn];by_cases he:(Ed l).2=0
  ·have hlen:¬ (Ed l).1.length+4≤65535:=fun h=>Cf (Xr.2 ⟨he,h⟩)
   rw[he] at Gh;have RV:=uW l he D7;generalize (Ed l).1=s at*;have Tw:65535 < (s.length:Int)+4:=(by omega);have IP:IntKind.i64.wrap ((s.length:Int)+4)=(s.length:Int)+4:=ET _ (by omega);clear he Cf h hs D7 hn
   go_in
   go_wp2_with fail;refine Gh.mono ?_;rintro e w3⟨rfl,Ap⟩;have Au:=Hi Ap;clear Ap;go_wp2;go_ret2;exact⟨rfl,Au⟩
  ·have Bg:((Ed l).2 == 0)=false:=FQ.2 he;generalize Ed l=V at*;clear Cf h hs D7 hn
   go_in
   go_wp2_with fail;refine Gh.mono ?_;rintro e w3⟨rfl,Ap⟩;have Au:=Hi Ap;clear Ap;go_wp2;go_ret2;exact⟨rfl,Au⟩
def afA(w:World)(l:M)(run:T)(o i:Value)(wr:World):Prop:=∃ (k:Nat) (O:M) (q:Option Addr) (c:Nat),k≤l.length∧i=.int .i64 (k:Int)∧o=.slice q O.length c∧O=(l.take k).filter (fun p=>!(p.1 == run))∧BJ wr w.heap.size (.slice q O.length c) O∧Bw w wr
theorem aAp{w:World}{q:Option Addr}{cap:Nat}{l:M}(run:T)(h:Bf w q l)(hl:l.length≤1000000):
  Calls prog 117 #[.slice q l.length cap,.string (bs run)] w fun e w'=>∃ q c,e=.returned (.slice q (l.filter fun p=>!(p.1 == run)).length c)∧BJ w' w.heap.size (.slice q (l.filter fun p=>!(p.1 == run)).length c) (l.filter fun p=>!(p.1 == run))∧Bw w w':=by
 obtain⟨i0,Bl,AY,Ba,Be⟩:=DC Rb;have HH:=Hi h;clear h
 go_in
 go_wp2
 go_loopw [5,6] (fun o i wr=>afA w l run o i wr) (fun _ i _=>l.length -(intOf i).toNat)
 case atStart=>exact⟨0,[],none,0,AV _,rfl,rfl,rfl,WL _ _,Ai _ _⟩
 case round=>
  obtain⟨k,O,qo,co,hk,rfl,rfl,hO,Af,hb⟩:=hrel;have HO:=Hi hO;have Ck:=Hi Af;have HB:=Hi hb;have QQ:O.length≤1000000:=by
   rw[hO];have:=M8 (fun p:T×T=>!(p.1 == run)) (l.take k);rw[AZ] at this;omega
  clear hO Af;by_cases hlt:k < l.length
  ·obtain⟨a,Cs,hp,-⟩:=(HH.below hb).index cap k hlt;have c0:=hp.key;have c1:=hp.val;have Cv:=Hi (Cx hlt);generalize l[k]=x at*;have hbs:=hb.size;clear hp hb;by_cases hx:x.1=run
   ·have rG:(x.1 == run)=true:=(by simpa using hx);have HN:=Hi (show O=(l.take (k+1)).filter (fun p=>!(p.1 == run)) from by rw[Cv.out,M7,←HO.out];simp[hx]);clear hx;go_wp2;go_roundw
    case rel=>exact⟨k+1,O,qo,co,by omega,by go_num,rfl,HN,Ck,HB⟩
    case measure=>
     show l.length -((k:Int)+1).toNat < l.length -((k:Int)).toNat
     omega
   ·have rG:(x.1 == run)=false:=(by simpa using hx);have HN:=Hi (show O++[x]=(l.take (k+1)).filter (fun p=>!(p.1 == run)) from by rw[Cv.out,M7,←HO.out];simp[hx]);clear hx;go_wp2_with (at_builtin;refine wpList_append_own_at _ rfl _ _ 30 rfl w.heap.size 51 i0 _ 2 32 underlying30 Bl AY Ba Be rfl (by decide) _ O.length _ rfl (Ck.alloc _) ⟨wr.heap.size,0,none⟩ 1 1 [.string (bs x.1),.string (bs x.2)] rfl rfl (by intro j u hj;rw[add_plain,E5];exact(Dy▸hj)) (by simp[Value.oneCell']) (by unfold maxLen;omega) (by omega) (by simp;omega) ?_;intro v' w4 Cb AJ _ hat;obtain⟨gg,cap2,rfl⟩:=ownsRow_succ Cb;have iV:=Hi Cb;have HG:=Hi AJ;clear Cb AJ hat)
    have CF:=Hi (show afA w l run (.slice (some ⟨gg,0,none⟩) (O.length+1) cap2) (.int .i64 ((k:Int)+1)) w4 from⟨k+1,O++[x],some ⟨gg,0,none⟩,cap2,by omega,by go_num,by rw[AA];rfl,HN,by unfold BJ;rw[AA,Td];exact iV.out,
     (HB.alloc HB.size _).grown HG (by rw[Ay];omega) (fun j e=>E9 Ck e)⟩)
    go_roundw
    case rel=>exact CF.out
    case measure=>
     show l.length -((k:Int)+1).toNat < l.length -((k:Int)).toNat
     omega
  ·obtain rfl:k=l.length:=(by omega);have hO:=HO.out;rw[Da] at hO;subst hO;clear hb;go_wp2;go_ret;exact⟨_,_,rfl,Ck,HB⟩
theorem ayP{fn:Func}{q u:Tmp}(h:fn.results=#[.cell q 51,.tmp u])(tmps:Array Value)(w:World)(g:Nat)(a b:Value)(hq:tmps.getD q undef=.pointer (some ⟨g,0,none⟩))(c0:w.cell? ⟨g,0,none⟩=some a)(c1:w.cell? ⟨g,1,none⟩=some b):
  (results fn tmps).run prog w=.ok (.tuple #[.agg #[a,b],tmps.getD u undef]) w:=by
 rw[results_cell_tmp h,hq];go_simp
theorem aA4{w:World}{run:T}{keys:List T}{kq:Option Addr}{kc:Nat}(h:Du w kq keys)(hl:keys.length≤10000):
  Calls prog 112 #[.agg #[.string (bs run),.slice kq keys.length kc]] w fun e w'=>e=.returned (.tuple #[.agg #[.string (bs run),.string (bs (D8 (Bi keys)).1)],.int .i64 (D8 (Bi keys)).2])∧Bw w w':=by
 obtain⟨V,hV⟩:∃ V,(w.alloc (.cells #[.string (bs run),.slice kq keys.length kc] 63)).alloc (.cells #[.string { data:=#[] },.string { data:=#[] }] 51)=V:=⟨_,rfl⟩;obtain⟨u0,u1,dL⟩:V.heap[w.heap.size]?=some (.cells #[.string (bs run),.slice kq keys.length kc] 63)∧V.heap[w.heap.size+1]?=some (.cells #[.string { data:=#[] },.string { data:=#[] }] 51)∧Bw w V:=by
  have eG:=AQ w (.cells #[.string (bs run),.slice kq keys.length kc] 63);have Bg:=AU w (.cells #[.string (bs run),.slice kq keys.length kc] 63);have TF:=Ay w (.cells #[.string (bs run),.slice kq keys.length kc] 63);generalize w.alloc (.cells #[.string (bs run),.slice kq keys.length kc] 63)=V0 at*;have FU:=AQ V0 (.cells #[.string { data:=#[] },.string { data:=#[] }] 51);have Aj:=AU V0 (.cells #[.string { data:=#[] },.string { data:=#[] }] 51);rw[hV] at FU Aj;rw[TF] at FU;exact⟨(Aj.block _ (Ao eG)).trans eG,FU,Bg.trans (Aj.mono Bg.size)⟩
 have HU0:=Hi u0;have MU:=Hi u1;have Pg:=Hi dL;have cu1:V.cell? ⟨w.heap.size,1,none⟩=some (.slice kq keys.length kc):=cr u0;have iY:=Hi (ad5 (cap:=kc) (h.below dL) (by omega));rw[ad7] at iY;have LU:=Vh keys;have Il:=Hi (show(Bi keys).length≤10000 from by omega);clear u0 u1 dL h LU
 go_in
 go_wp2_with fail;clear hV;refine iY.mono ?_;rintro e w1⟨v1,rfl,Q0,Aj⟩;obtain⟨rq,rc,rfl⟩:=Bo Q0;have VE:=Hi (aA9 (Bi keys) rq rc w1 (Hr Q0) (by have:=Il.out;unfold maxLen;omega) Il);have HB1:=bH Pg Aj;have afj:=Hi ((Aj.block _ (Ao HU0)).trans HU0);have j4:=Hi ((Aj.block _ (Ao MU)).trans MU);clear Q0 Aj cu1;obtain⟨R,hR⟩:=ex (D8 (Bi keys));rw[hR] at VE;have Po:=Hi hR;clear hR;go_wp2_with fail;refine VE.mono ?_;rintro e w2⟨rfl,Ac⟩;have Ak:=bH HB1 Ac;have Yd:=(Ac.block _ (Ao afj)).trans afj.out;have FY:=(Ac.block _ (Ao j4)).trans j4.out;have cu0:w2.cell? ⟨w.heap.size,0,none⟩=some (.string (bs run)):=cr Yd;have p0:w2.cell? ⟨w.heap.size+1,0,none⟩=some (.string { data:=#[] }):=cr FY;have p1:w2.cell? ⟨w.heap.size+1,1,none⟩=some (.string { data:=#[] }):=cr FY;have pf0:=Dt w2 _ 0 _ _ FY;have pf1:=Dt w2 _ 1 _ _ FY;have h3:=Cu w2 (w.heap.size+1) 0 _ _ (.string (bs run)) FY;have h4:=Cu _ (w.heap.size+1) 1 _ _ (.string (bs R.1)) h3;have q0:((w2.setCell ⟨w.heap.size+1,0,none⟩ (.string (bs run))).setCell ⟨w.heap.size+1,1,none⟩ (.string (bs R.1))).cell? ⟨w.heap.size+1,0,none⟩=some (.string (bs run)):=cr h4;have q1:((w2.setCell ⟨w.heap.size+1,0,none⟩ (.string (bs run))).setCell ⟨w.heap.size+1,1,none⟩ (.string (bs R.1))).cell? ⟨w.heap.size+1,1,none⟩=some (.string (bs R.1)):=cr h4;have HBF:=Hi ((Ak.setCell (p:=⟨w.heap.size+1,0,none⟩) (Nat.le_succ _) (.string (bs run))).setCell (p:=⟨w.heap.size+1,1,none⟩) (Nat.le_succ _) (.string (bs R.1)));clear Ac Yd FY h3 h4;go_wp2_with fail
 exact EU (v:=.tuple #[.agg #[.string (bs run),.string (bs R.1)],.int .i64 R.2]) (ayP results112 _ _ (w.heap.size+1) _ _ (by rfl) q0 q1) rfl ⟨by rw[Po.out],HBF⟩
def afz(w:World)(l:M)(o i:Value)(wr:World):Prop:=∃ (k:Nat) (q:Option Addr) (c:Nat),k≤l.length∧i=.int .i64 (k:Int)∧o=.slice q (M4 (l.take k)).length c∧BJ wr w.heap.size (.slice q (M4 (l.take k)).length c) (M4 (l.take k))∧Bw w wr
def aqw(O:M)(key:T)(wr0:World)(i:Value)(wr:World):Prop:=∃ n:Nat,n≤O.length∧i=.int .i64 (n:Int)∧JZ O key O.length=JZ O key n∧Bw wr0 wr
theorem aAc{w:World}{q:Option Addr}{cap:Nat}{l:M}(h:Bf w q l)(hl:l.length≤100000):
  Calls prog 116 #[.slice q l.length cap] w fun e w'=>∃ q c,e=.returned (.slice q (M4 l).length c)∧BJ w' w.heap.size (.slice q (M4 l).length c) (M4 l)∧Bw w w':=by
 obtain⟨i0,Bl,AY,Ba,Be⟩:=DC Rb;have HH:=Hi h;clear h
 go_in
 go_wp2
 go_loopw [3,4] (fun o i wr=>afz w l o i wr) (fun _ i _=>l.length -(intOf i).toNat)
 case atStart=>exact⟨0,none,0,AV _,rfl,rfl,WL _ _,Ai _ _⟩
 case round=>
  obtain⟨k,qo,co,hk,rfl,rfl,Af,hb⟩:=hrel;have Ck:=Hi Af;have HB:=Hi hb;have QQ:(M4 (l.take k)).length=k:=by rw[aAO,AZ];omega
  have yc:=Hi QQ;have HC:=Hi (FH Af);by_cases hlt:k < l.length
  ·have Cv:=Hi (show M4 (l.take (k+1))=Sb (M4 (l.take k)) l[k] from by rw[Cx hlt,aAQ]);obtain⟨a,Cs,hp,-⟩:=(HH.below hb).index cap k hlt;have c0:=hp.key;have c1:=hp.val;generalize l[k]=x at*;generalize M4 (l.take k)=O at*;have RO:k≤100000:=(by omega);have aEt:O.length≤100000:=(by omega);clear Af hb hp QQ;go_wp2_with fail;have HA:=Hi (Cw c0 c1);obtain⟨R,hR⟩:∃ R,R=wr:=⟨_,rfl⟩
   go_loopw [5] (fun i wq=>aqw O x.1 wr i wq) (fun i _=>(intOf i).toNat)
   case atStart=>exact⟨O.length,Ae _,rfl,rfl,Ai _ _⟩
   case round=>
    obtain⟨n,hn,rfl,hcut,hbq⟩:=hrel;have nU:=Hi hcut;have YL:=Hi hbq;clear hcut hbq c0 c1;have yl:=Hi (Cg Ck YL);have HHQ:=Hi (HH.below (bT HB YL));have Dc:=bH HB YL;have WW:=Hi (Cw ((YL.cell (Cr HA.1)).trans HA.1) ((YL.cell (Cr HA.2)).trans HA.2));obtain⟨qe,ce,he,ZV,Zy⟩:=HC.out;obtain⟨rfl,rfl⟩:qo=qe∧co=ce:=by injection he with h1 h2 h3;exact⟨h1,h3⟩
    have oJ:=Hi ZV;have Ql:=Hi Zy;clear he ZV Zy;by_cases UQ:∃ j,∃ h:j < O.length,n=j+1∧x.1 < O[j].1
    ·obtain⟨j,hj,rfl,OJ⟩:=UQ;obtain⟨b,sw,d0,-⟩:=Yv yl hj;have CP:Op.bytesLess O[j].1 x.1=false:=(by rw[Go.Proofs.bytesLess_eq];simpa using R9 OJ);have rG:(O[j].1 == x.1)=false:=FQ.2 (fun e=>KZ OJ e.symm)
     have Di:=Hi (show JZ O x.1 (j+1)=JZ O x.1 j from by
      show(if x.1 < (O.getD j ([],[])).1 then JZ O x.1 j else j+1)=_
      rw[Ad (by rw[Ig,CJ hj];exact OJ)])
     have ai:IntKind.i64.wrap (((j+1:Nat):Int) -1)=(j:Int):=(by rw[ET _ (by omega)];omega);have GJ:(0:Int) < ((j+1:Nat):Int):=(by omega);have Tw:0 < j+1:=(by omega);have c0:=WW.1;have c1:=WW.2;generalize O[j]=y at*;obtain⟨n,hnj⟩:=ex (j+1);rw[hnj] at ai GJ Tw ⊢;have HNJ:=Hi hnj;clear OJ hnj;go_wp2
     go_quiet (fail)
     go_wp2;go_roundw
     case rel=>exact⟨j,by omega,rfl,by rw[nU.out,Di.out],YL.trans ((FB _ _).mono YL.size)⟩
     case measure=>have:=HNJ.out;show(j:Int).toNat < (n:Int).toNat;omega
    ·have IV:=Hi (show JZ O x.1 O.length=n from by
      rw[nU.out];cases n with
      |zero=>rfl
      |succ j=>
       show(if x.1 < (O.getD j ([],[])).1 then JZ O x.1 j else j+1)=_
       rw[Ab];rw[Ig,CJ (show j < O.length by omega)];exact fun e=>UQ ⟨j,by omega,rfl,e⟩)
     have kH:=fun W=>acQ W qo O.length co n hn Ql.out
     have OB:=fun W=>fU W qo O.length co n hn
     have LK:n≤100000:=(by omega);by_cases hz:0 < n
     case' pos=>
      obtain⟨j,hj⟩:∃ j,n=j+1:=⟨n -1,by omega⟩;have Kb:j < O.length:=(by omega);obtain⟨b,sw,d0,-⟩:=Yv yl Kb;have EI:¬ x.1 < O[j].1:=fun e=>UQ ⟨j,Kb,hj,e⟩
      have hgf:(!Op.bytesLess O[j].1 x.1 && !O[j].1 == x.1)=false:=by
       by_cases e:O[j].1=x.1
       ·simp[e]
       ·have:Op.bytesLess O[j].1 x.1=true:=by
         rw[Go.Proofs.bytesLess_eq];rcases az (fO.1 EI) with f|f
         ·simpa using f
         ·exact absurd f e
        simp[this]
      have ai:IntKind.i64.wrap ((n:Int) -1)=(j:Int):=(by rw[ET _ (by omega)];omega);have GJ:(0:Int) < (n:Int):=(by omega);have c0:=WW.1;have c1:=WW.2;generalize O[j]=y at*;clear hj EI UQ;go_wp2
      go_quiet (fail)
      obtain⟨V,hV⟩:∃ V,V=wr.drewN nq:=⟨_,rfl⟩;have Pg:=Hi (show Bw wr V from by rw[hV];exact FB _ _);rw[←hV];clear hV c0 c1 d0 sw hgf ai
     case' neg=>
      have GJ:¬ (0:Int) < (n:Int):=(by omega);clear UQ;go_wp2
      go_quiet (fail)
      obtain⟨V,hV⟩:∃ V,V=wr.drewN nq:=⟨_,rfl⟩;have Pg:=Hi (show Bw wr V from by rw[hV];exact FB _ _);rw[←hV];clear hV
     all_goals
      have af6:=Hi (Cg yl Pg);have xe:=bH Dc Pg;have api:=Hi ((Bf.CX af6).front n);have ap1:=Hi ((Bf.CX af6).back hn Ql);have Ou:=Hi (show(O.take n).length=n from by rw[AZ];omega);have Vt:=Hi (show(O.drop n).length=O.length -n from Ct);clear GJ
      have HAQ:=Hi (show IX qo co n=none→co -n=0 from fun e=>by
       unfold IX at e;split at e
       ·omega
       ·have:=oJ (by cases qo with
         |none=>rfl
         |some p=>simp at e)
        omega)
      have aeE:=Hi (show Sb O x=O.take n++[x]++O.drop n from by unfold Sb;rw[IV.out])
      go_wp2_with (first
       |(at_builtin;refine aV rfl _ _ rfl V.heap.size (.slice (some ⟨g2,0,none⟩) (n+1) k2) (n+1) (O.take n++[x]) (O.drop n) rfl Pn (IX qo co n) (co -n) (O.length -n) rfl Vt (ap1.below Ak) HAQ (by omega) Ak.size ?_;intro v3 V3 RS ajo jW;have Oj:=Hi RS;have Au:=Hi (show Bw V V3 from Ak.grown ajo Ak.size (fun k e=>E9 Pn e));obtain⟨q3,k3,rfl⟩:=Bo RS;clear RS ajo jW)
       |(at_builtin;refine wpList_append_own_at _ rfl _ _ 30 rfl V.heap.size 51 i0 _ 2 32 underlying30 Bl AY Ba Be rfl (by decide) _ n _ rfl (D5.alloc _) ⟨V1.heap.size,0,none⟩ 1 1 [.string (bs x.1),.string (bs x.2)] rfl rfl (by intro j u hj;rw[add_plain,E5];exact(Dy▸hj)) (by simp[Value.oneCell']) (by unfold maxLen;omega) (by omega) (by have:=HB1.size;simp;omega) ?_;intro v2 V2 OP ajn _ Wh;obtain⟨g2,k2,rfl⟩:=ownsRow_succ OP;have Pn:=Hi (show V2.ownsRow V.heap.size 51 2 (.slice (some ⟨g2,0,none⟩) (n+1) k2) (n+1) (Dm (O.take n++[x])) from by rw[Td];exact OP);have Ak:=Hi (show Bw V V2 from(HB1.alloc HB1.size _).grown ajn (by rw[Ay];have:=HB1.size;omega) (fun k e=>E9 D5 e));clear OP ajn Wh)
       |(at_builtin;refine aV rfl _ _ rfl V.heap.size (.slice none 0 0) 0 [] (O.take n) rfl (WL _ _) qo co n rfl Ou api oJ (by omega) (Ae _) ?_;intro v1 V1 KY ajm Wd;rw[Ha,Ei] at KY;have D5:=Hi KY;have HB1:=Hi (show Bw V V1 from(Ai _ V).grown ajm (Ae _) (fun k e=>by simp[Value.ownBlock] at e));have c01:V1.cell? a=some (.string (bs x.1)):=((bT Pg HB1).cell (Cr WW.1)).trans WW.1;have c11:V1.cell? ⟨a.block,a.off+1,none⟩=some (.string (bs x.2)):=((bT Pg HB1).cell (p:=⟨a.block,a.off+1,none⟩) (Cr WW.2)).trans WW.2;obtain⟨q1,k1,rfl⟩:=Bo KY;clear KY ajm Wd))
      have CF:=Hi (show afz w l (.slice q3 (n+1+(O.length -n)) k3) (.int .i64 ((k:Int)+1)) V3 from by
       have GL:(M4 (l.take (k+1))).length=n+1+(O.length -n):=by
        rw[Cv.out,aeE.out,AA,AA,Ou.out,Vt.out];rfl
       refine⟨k+1,q3,k3,by omega,by go_num,by rw[GL],?_,xe.trans (Au.mono xe.size)⟩;unfold BJ;rw[GL,Cv.out,aeE.out];exact EA Oj xe.size)
      go_roundw
      case rel=>exact CF.out
      case measure=>
       show l.length -((k:Int)+1).toNat < l.length -((k:Int)).toNat
       omega
  ·obtain rfl:k=l.length:=(by omega);have Ni:=Af;rw[Da] at Ni;have BX:=Hi Ni;rw[Da];clear hb Af QQ HC yc Ck Ni;go_wp2;go_ret;exact⟨_,_,rfl,BX,HB⟩
end Ch
namespace Ch
open Go.RowKit Go.Maps
open Av Ag Bt Kp BI Hex BH Mem
open Ar hiding T
theorem aBD(l:List T):2+2*l.length≤rowLen l:=by
 unfold rowLen
 induction l with
 |nil=>exact Ae _
 |cons x l ih=>rw[Ca,DR,BG];omega
theorem azD{s:T}{l:List T}(h:Dp s=some l):2*l.length+2≤s.length:=by
 have h2:=mG h;unfold GN at h2;split at h2
 ·cases ht:BK l with
  |none=>rw[ht] at h2;cases h2
  |some a=>
   rw[ht] at h2;simp only[EK,Ci] at h2;have h3:=WO ht;have h4:=aBD l;rw[←h2,AA,A9.C9];omega
 ·cases h2
def yR(w:World)(q:Option Addr)(cap:Nat)(l:M)(i:Value)(wr:World):Prop:=∃ k:Nat,k≤l.length∧i=.int .i64 k∧Bw w wr∧BJ wr w.heap.size (.slice q l.length cap) l
theorem aAn(name data:T)(l:M)(h:Aa.CB name data=some l)(w:World)(hd:data.length≤1000000):Calls prog 196 #[.string (bs name),.string (bs data)] w fun e w'=>∃ q cap,e=.returned (.tuple #[.slice q l.length cap,.bool true])∧BJ w' w.heap.size (.slice q l.length cap) l∧(q=none→cap=0)∧Bw w w':=by
 have hsh:=(gp h).2;obtain⟨hne,DY,Jm,s,GZ,Ki⟩:=Nr h;have kX:A9.Ey data=(s,0):=by rw[Ki];exact A9.acL s
 have CG:s.length≤1000000:=by
  have:data.length=s.length+4:=by rw[Ki];unfold A9.Fx;rw[AA,A9.C9]
  omega
 have HO:=Hi (an3 data w (by omega));rw[kX] at HO;have HG:=Hi (fun(W:World)=>amW s l (qK GZ (CU.Ra DY)) W (by omega));have Ju:=Hi (fun p hp=>(Jm p hp).1)
 have Gv:=Hi (fun(p:T×T) (hp:p∈l)=>show ∃ ks,Dp p.2=some ks∧Bi ks=ks from by
  have h1:rowOk p=true:=(Jm p hp).2;unfold rowOk at h1;cases hr:Dp p.2 with
  |none=>rw[hr] at h1;cases h1
  |some ks=>rw[hr] at h1;exact⟨ks,rfl,by simpa using h1⟩)
 have EM:=Hi DY;have Rz:=Hi hsh;have hlz:((l.length:Int) == 0)=false:=FQ.2 (fun e=>hne (Ld.1 (by omega)));have El:l.length≤65535:=(gp h).1;clear h kX GZ Ki DY Jm hne hsh
 go_in
 go_wp2_with fail;refine HO.mono ?_;rintro e w1⟨rfl,Aj⟩;have HB1:=Hi Aj;clear Aj;go_wp2_with fail;refine(HG _).mono ?_;rintro e w2⟨v,rfl,DK,Ac⟩;obtain⟨q,cap,rfl,hq,hc⟩:=FH DK;have BX:=Hi (EA DK HB1.size);have Ak:=bH HB1 Ac;have HQ:=Hi hq;clear DK Ac hq hc;go_wp2
 go_loopw [9] (fun i wr=>yR w q cap l i wr) (fun i _=>l.length -(intOf i).toNat)
 case atStart=>exact⟨0,AV _,rfl,Ak,BX⟩
 case round=>
  obtain⟨k,Dw,rfl,hb,hr⟩:=hrel;have HB:=Hi hb;have HR:=Hi hr;clear hb hr Ak BX;by_cases hlt:k < l.length
  ·obtain⟨a,Cs,c0,cv⟩:=Yv HR hlt;have F4:=(Rz _ (CQ hlt)).1;have KX:=Ju _ (CQ hlt);obtain⟨keys,ZH,akj⟩:=Gv _ (CQ hlt);have yu:=Hi (Rz _ (CQ hlt)).2;have iY:=Hi akj
   have KD:=Hi (show keys.length≤50000 from by
    have h1:=azD ZH;have h3:=(Rz _ (CQ hlt)).2;omega)
   have Ep:=Hi (fun(W:World) (hl:l[k].2.length≤65535)=>aA7 l[k].2 W (by omega));unfold Go.Proofs.YtkmninbcgipliaaGreatDoor.Mj at Ep;simp only[ZH] at Ep;clear akj;by_cases Kc:k=0
   ·subst Kc;generalize l[0]=x at*;have HN:=Hi (fun(W:World)=>ad9 x.1 W (by omega));rw[KX] at HN;have ZG:∀ W,(Instr.indexAt 30 (.slice q l.length cap) (.int .i64 0)).run prog W=.ok (.pointer (some a)) W:=Cs;have HC:=Hi (fun(V:World) (hb:Bw wr V)=>(hb.cell (Cr c0)).trans c0);clear Cs c0 KX ZH;go_wp2_with fail;refine(Ep _ yu).mono ?_;rintro e w5⟨v5,rfl,Kg,BF,-⟩;obtain⟨kq,kc,rfl⟩:=Bo Kg;have Ls:=Hi (show Ar.Bq w5 0 (.slice kq keys.length kc) keys from Kg);have CZ:=Hi BF;clear Kg BF;go_wp2_with fail;have HS:=Hi (fun(V:World) (hb:Bw w5 V)=>(show(fun V:World=>V.cell? a=some (.string (bs x.1))) V from HC V (bT CZ hb)));refine wp_region_held (S:=(fun V:World=>V.cell? a=some (.string (bs x.1)))) (by kernel_rfl) ?_;have BR:=Hi ((Ai w5.heap.size w5).drew);refine Az 0 (HS _ BR) ?_;refine Az 1 (HS _ BR) ?_;refine Az 2 (HS _ BR) ?_;refine Az 3 (HS _ BR) ?_;refine Az 4 (HS _ BR) ?_;refine OZ 5 (fun K1 Jh=>?_);go_simp;refine(ad5 (cap:=kc) (Hr (Cg Ls BR)) KD).mono ?_;rintro e w6⟨v6,rfl,IM,CS⟩;rw[ad7,iY.out] at IM;obtain⟨q6,c6,rfl⟩:=Bo IM;have EC:=Hi (BR.trans (CS.mono (Ae _)));have Hy:=Hi IM;clear IM CS;refine Jh _ _ (HS _ EC) ?_;try simp only[Act.put,np]
    refine OZ 6 (fun K2 Dv=>?_);go_simp;refine(anf keys keys kq q6 kc c6 _ (Hr (Cg Ls EC)) (Hr Hy) (by have:=KD.out;unfold maxLen;omega) (by have:=KD.out;unfold maxLen;omega)).mono ?_;rintro e w7⟨rfl,FK⟩;have Eo:=bH EC FK;clear FK;refine Dv _ _ (HS _ Eo) ?_;try simp only[Act.put,np]
    simp only[decide_true];refine Az 7 (HS _ Eo) ?_;refine Az 8 (HS _ Eo) ?_;refine Az 9 (HS _ Eo) ?_;refine Az 10 (HS _ Eo) ?_;refine Az 11 (HS _ Eo) ?_;refine Az 12 (HS _ Eo) ?_;refine Az 13 (HS _ Eo) ?_;refine Az 14 (HS _ Eo) ?_;refine Az 16 (HS _ Eo) ?_;refine OZ 15 (fun K3 PK=>?_);go_simp;refine(HN _).mono ?_;rintro e wA⟨rfl,DT⟩;have Aq:=bH Eo DT;clear DT;refine PK _ _ (HS _ Aq) ?_;try simp only[Act.put,np]
    refine Az 17 (HS _ Aq) ?_;refine Az 18 (HS _ Aq) ?_;refine Az 19 (HS _ Aq) ?_;refine Az 20 (HS _ Aq) ?_;refine Az 21 (HS _ Aq) ?_;refine Az 22 (HS _ Aq) ?_;refine Jc 23 (HS _ Aq) ?_;refine Jc 24 (HS _ Aq) ?_;refine Jc 25 (HS _ Aq) ?_;refine Jc 26 (HS _ Aq) ?_;refine Jc 27 (HS _ Aq) ?_;refine Jc 28 (HS _ Aq) ?_;refine Jc 29 (HS _ Aq) ?_;refine Jc 30 (HS _ Aq) ?_;refine Jc 31 (HS _ Aq) ?_;refine Jc 32 (HS _ Aq) ?_;refine Jc 33 (HS _ Aq) ?_;refine Jc 34 (HS _ Aq) ?_;refine Az 35 (HS _ Aq) ?_;refine Az 36 (HS _ Aq) ?_;refine wpAnyH_done (by kernel_rfl) ?_ _;clear Jh K1 Dv K2 PK K3;have CF:=Hi (show yR w q cap l (.int .i64 1) wA from⟨1,by omega,rfl,HB.trans ((bT CZ Aq).mono HB.size),Cg (Cg HR CZ) Aq⟩);go_wp2;go_roundw
    case rel=>exact CF.out
    case measure=>show l.length -(1:Int).toNat < l.length -(0:Int).toNat;omega
   ·obtain⟨a',abb,c1,-⟩:=Yv HR (show k -1 < l.length by omega);have QV:IntKind.i64.wrap ((k:Int) -1)=((k -1:Nat):Int):=(by rw[ET _ (by omega)];omega);have GJ:(0:Int) < (k:Int):=(by omega);have Tw:0 < k:=(by omega);have hne:((l[k -1]'(by omega)).1 == l[k].1)=false:=by
     have h1:=List.pairwise_iff_getElem.1 EM (k -1) k (by omega) hlt (by omega);exact FQ.2 (fun e=>by rw[e] at h1;exact Sc _ h1)
    obtain⟨y,hy⟩:=ex (l[k -1]'(by omega));obtain⟨x,hx⟩:=ex (l[k]);rw[hy] at c1 hne;rw[hx] at c0 F4 KX hne cv yu Ep ZH;have HN:=Hi (fun(W:World)=>ad9 x.1 W (by omega));rw[KX] at HN;have HC:=Hi (fun(V:World) (hb:Bw wr V)=>Cw ((hb.cell (Cr c0)).trans c0) ((hb.cell (Cr c1)).trans c1));clear c0 c1 KX hx hy ZH;go_wp2_with fail;refine(Ep _ yu).mono ?_;rintro e w5⟨v5,rfl,Kg,BF,-⟩;obtain⟨kq,kc,rfl⟩:=Bo Kg;have Ls:=Hi (show Ar.Bq w5 0 (.slice kq keys.length kc) keys from Kg);have CZ:=Hi BF;clear Kg BF;go_wp2_with fail;have HS:=Hi (fun(V:World) (hb:Bw w5 V)=>(show(fun V:World=>V.cell? a=some (.string (bs x.1))∧V.cell? a'=some (.string (bs y.1))) V from HC V (bT CZ hb)));refine wp_region_held (S:=(fun V:World=>V.cell? a=some (.string (bs x.1))∧V.cell? a'=some (.string (bs y.1)))) (by kernel_rfl) ?_;have BR:=Hi ((Ai w5.heap.size w5).drew);refine Az 0 (HS _ BR) ?_;refine Az 1 (HS _ BR) ?_;refine Az 2 (HS _ BR) ?_;refine Az 3 (HS _ BR) ?_;refine Az 4 (HS _ BR) ?_;refine OZ 5 (fun K1 Jh=>?_);go_simp;refine(ad5 (cap:=kc) (Hr (Cg Ls BR)) KD).mono ?_;rintro e w6⟨v6,rfl,IM,CS⟩;rw[ad7,iY.out] at IM;obtain⟨q6,c6,rfl⟩:=Bo IM;have EC:=Hi (BR.trans (CS.mono (Ae _)));have Hy:=Hi IM;clear IM CS;refine Jh _ _ (HS _ EC) ?_;try simp only[Act.put,np]
    refine OZ 6 (fun K2 Dv=>?_);go_simp;refine(anf keys keys kq q6 kc c6 _ (Hr (Cg Ls EC)) (Hr Hy) (by have:=KD.out;unfold maxLen;omega) (by have:=KD.out;unfold maxLen;omega)).mono ?_;rintro e w7⟨rfl,FK⟩;have Eo:=bH EC FK;clear FK;refine Dv _ _ (HS _ Eo) ?_;try simp only[Act.put,np]
    simp only[decide_true];refine Az 7 (HS _ Eo) ?_;refine Az 8 (HS _ Eo) ?_;refine Az 9 (HS _ Eo) ?_;refine Az 10 (HS _ Eo) ?_;refine Az 11 (HS _ Eo) ?_;refine Az 12 (HS _ Eo) ?_;refine Az 13 (HS _ Eo) ?_;refine Az 14 (HS _ Eo) ?_;refine Az 16 (HS _ Eo) ?_;refine OZ 15 (fun K3 PK=>?_);go_simp;refine(HN _).mono ?_;rintro e wA⟨rfl,DT⟩;have Aq:=bH Eo DT;clear DT;refine PK _ _ (HS _ Aq) ?_;try simp only[Act.put,np]
    refine Az 17 (HS _ Aq) ?_;refine Az 18 (HS _ Aq) ?_;refine Az 19 (HS _ Aq) ?_;refine Az 20 (HS _ Aq) ?_;refine Az 21 (HS _ Aq) ?_;refine Az 22 (HS _ Aq) ?_;refine Az 23 (HS _ Aq) ?_;refine Az 24 (HS _ Aq) ?_;refine Az 25 (HS _ Aq) ?_;refine Az 26 (HS _ Aq) ?_;refine Az 27 (HS _ Aq) ?_;refine Az 28 (HS _ Aq) ?_;refine Az 29 (HS _ Aq) ?_;refine Az 30 (HS _ Aq) ?_;refine Az 31 (HS _ Aq) ?_;refine Az 32 (HS _ Aq) ?_;refine Az 33 (HS _ Aq) ?_;refine Az 34 (HS _ Aq) ?_;refine Az 35 (HS _ Aq) ?_;refine Az 36 (HS _ Aq) ?_;refine wpAnyH_done (by kernel_rfl) ?_ _;clear Jh K1 Dv K2 PK K3;have CF:=Hi (show yR w q cap l (.int .i64 ((k:Int)+1)) wA from⟨k+1,by omega,by go_num,HB.trans ((bT CZ Aq).mono HB.size),Cg (Cg HR CZ) Aq⟩);go_wp2;go_roundw
    case rel=>exact CF.out
    case measure=>
     show l.length -((k:Int)+1).toNat < l.length -((k:Int)).toNat
     omega
  ·obtain rfl:k=l.length:=(by omega);go_wp2;go_ret2;exact⟨q,cap,rfl,HR,HQ,HB⟩
theorem azW{w:World}{r:Nat}{v:Value}{A:M}{most:Int}(h:Hz w r v A most)(hA:A.length≤1000000)(name:T)(KV:∀ d,Ag.get A name=some d→d.length≤1000000)(hf:∀ d,Ag.get A name=some d→(fileOf Aa A name).isSome=true):
  Calls prog 114 #[.pointer (some ⟨r,0,none⟩),.string (bs name)] w fun e w'=>∃ q cap,e=.returned (.tuple #[.slice q ((fileOf Aa A name).getD []).length cap,.bool (Ag.get A name).isSome,.bool false])∧BJ w' w.heap.size (.slice q ((fileOf Aa A name).getD []).length cap) ((fileOf Aa A name).getD [])∧(q=none→cap=0)∧Bw w w':=by
 have HG:=Hi (amX h hA name);have XU:∀ d,Ag.get A name=some d→fileOf Aa A name=Aa.CB name d:=fun d hd=>by unfold fileOf;rw[hd];rfl
 have hfn:Ag.get A name=none→fileOf Aa A name=none:=fun hd=>by unfold fileOf;rw[hd];rfl
 clear h;cases hx:Ag.get A name with
 |none=>
  rw[hx] at HG;rw[hfn hx];clear hx hf XU hfn KV
  go_in
  go_wp2_with fail;refine HG.mono ?_;rintro e w1⟨rfl,hb⟩;have HB:=Hi hb;clear hb;go_wp2_with fail;exact EU (v:=.tuple #[.slice none 0 0,.bool false,.bool false]) (by simp[results,results114,go_sem]) rfl ⟨none,0,rfl,WL _ _,fun _=>rfl,HB⟩
 |some d=>
  rw[hx] at HG;have h1:=hf d hx;rw[XU d hx] at h1 ⊢;obtain⟨l,hl⟩:=Lh.1 h1;rw[hl];have HE:=Hi (fun(W:World)=>aAn name d l hl W (KV d hx));clear hx hf XU hfn KV h1 hl
  go_in
  go_wp2_with fail;refine HG.mono ?_;rintro e w1⟨rfl,hb⟩;have HB:=Hi hb;clear hb;go_wp2_with fail;refine(HE _).mono ?_;rintro e w2⟨q,cap,rfl,hr,hq,Ac⟩;have HR:=Hi (EA hr HB.size);have Ak:=bH HB Ac;clear Ac hr;go_wp2_with fail;exact EU (v:=.tuple #[.slice q l.length cap,.bool true,.bool false]) (by simp[results,results114,go_sem]) rfl ⟨q,cap,rfl,HR,hq,Ak⟩
theorem aC8{l:Us}{k:Nat}(hk:k < l.length):(BA l)[k]'(by rw[P5];exact hk)=Qf l[k]:=by unfold BA;rw[List.getElem_map]
theorem aAC{n:Nat}{A:M}{l:Us}(h1:MW l)(h2:Fits Aa (BA l)):Ie n A l=if Co n < used (made A (ES Aa (BA l))) then(4,A) else(0,made A (ES Aa (BA l))):=by
 unfold Ie;rw[Ad h1];exact acW GD h2
def yQ(w:World)(xb:Nat)(A:M)(l:Us)(i:Value)(wr:World):Prop:=
 ∃ (k:Nat) (vx:Value),k≤l.length∧i=.int .i64 (k:Int)∧Hz wr xb vx (made A (FP Aa (BA (l.take k)))) (1099511627776:Nat)∧Fits Aa (BA (l.take k))∧Bw w wr∧MW (l.take k)
theorem aAa{w:World}{r n cap:Nat}{a:Option Addr}{v:Value}{A:M}{l:Us}(h:Hz w r v A (Co n))(hu:Up A)(D9:∀ k,Ag.get A (Aa.nm k)=none)(hn:n≤16384)(hA:used A≤Co n)(hk:MX w a l)(hl:l.length≤20)(Dw:∀ x∈l,x.1.length≤1000000∧x.2.length≤10000)(FL:∀ j name,Small (BM Aa (BA (l.take j)) name)):
  Calls prog 43 #[.pointer (some ⟨r,0,none⟩),.slice a l.length cap] w fun e w'=>e=.returned (.int .i64 (Ie n A l).1)∧∃ v',Hz w' r v' (Ie n A l).2 (Co n)∧A7 (fun k=>k=r) w w':=by
 obtain⟨i0,Bl,AY,Ba,Be⟩:=DC Rb;obtain⟨vq,vc,rfl⟩:=Bo h.2;have J2:=aO hn;have HR:=Hi h;have HU:=Hi hu;have DW:=Hi D9;have HK:=Hi hk;have KD:=Hi Dw;have Oq:=Hi FL
 have Fz:=Hi (show ∀ k,used (made A (FP Aa (BA (l.take k))))≤2000000 from fun k=>by
  have h1:=Vj hu (FP Aa (BA (l.take k)));have h2:=aoA GD (BA (l.take k));have h3:(BA (l.take k)).length≤20:=by rw[P5,AZ];omega
  have h4:=P9 65560 h3;omega)
 have zC:w.cell? ⟨r,0,none⟩=some (.slice vq A.length vc):=cr h.1;have awf:=Ao h.1
 have Zd:=Hi (show Hz (w.alloc (.cells #[.slice vq A.length vc,.int .i64 1099511627776] 174)) w.heap.size (.slice vq A.length vc) (made A (FP Aa (BA (l.take 0)))) (1099511627776:Nat) from by
  rw[Gg];exact⟨AQ w _,(h.below (AU w _)).2⟩)
 have AR:=Hi (AU w (.cells #[.slice vq A.length vc,.int .i64 1099511627776] 174));clear h hu D9 hk Dw FL
 go_in
 go_wp2_with fail;have Pp:=Hi (show yQ w w.heap.size A l (.int .i64 0) (w.alloc (.cells #[.slice vq A.length vc,.int .i64 1099511627776] 174)) from⟨0,.slice vq A.length vc,AV _,rfl,Zd,by rw[Gg];exact zZ,AR,by rw[Gg];exact fun u hu=>by simp at hu⟩);generalize w.alloc (.cells #[.slice vq A.length vc,.int .i64 1099511627776] 174)=V0 at*;clear Zd AR zC
 go_loopw [6] (fun i wr=>yQ w w.heap.size A l i wr) (fun i _=>l.length -(intOf i).toNat)
 case atStart=>exact Pp.out
 case round=>
  obtain⟨k,vx,hk,rfl,hx,Cf,hb,NZ⟩:=hrel;have HX:=Hi hx;have Lm:=Hi Cf;have HB:=Hi hb;have Z5:=Hi NZ;clear Cf hb Pp NZ;by_cases hlt:k < l.length
  ·obtain⟨q,Cs,ha⟩:=(HK.below HB).index cap k hlt;have c0:=ha.run;obtain⟨kq,kc,c1,Gl,ek⟩:=ha.keys;have Lr:=Hi (CQ hlt);obtain⟨LU,Y1⟩:=KD _ Lr.out;have Cv:=Hi (Cx hlt);obtain⟨u,hu⟩:=ex (l[k]);rw[hu] at Lr Cv c0 c1 Gl LU Y1;obtain⟨run,keys⟩:=u;have SS:=Hi (fun(W:World) (hW:Bw wr W)=>aA4 (run:=run) (kc:=kc) (Gl.below hW) Y1);simp only at c0 c1 LU Y1;clear ha hu Gl hx;by_cases hz:(D8 (Bi keys)).2=0
   case neg=>
    have TK:D8 (Bi keys)=([],5):=by
     unfold D8 at hz ⊢;cases eZ:GN (Bi keys) with
     |none=>rfl
     |some s=>rw[eZ] at hz;exact absurd rfl hz
    have VB:=Hi (show Ie n A l=(5,A) from by
     unfold Ie;rw[Ab (fun h=>hz (h _ Lr))])
    rw[TK] at SS;clear TK hz;go_wp2_with fail;refine(SS _ (Ai _ _)).mono ?_;rintro e w1⟨rfl,Aj⟩;have HB1:=Hi (HB.trans ((Aj.alloc Aj.size (.cells #[.string (bs run),.string (bs [])] 51)).mono HB.size));clear Aj;go_wp2;go_ret;rw[VB.out];exact⟨rfl,_,HR.below HB1,A7.of_below HB1⟩
   case pos=>
    obtain⟨s,hs⟩:=ex ((D8 (Bi keys)).1);have Yf:D8 (Bi keys)=(s,0):=Prod.ext hs hz;rw[Yf] at SS;have yj:=Hi (show MW (l.take (k+1)) from by rw[Cv.out];exact anb.2 ⟨Z5,hz⟩);have EM:=Hi (show BA (l.take (k+1))=BA (l.take k)++[(run,s)] from by rw[Cv.out,aos];unfold Qf;rw[hs]);have HN:=Hi (fun(W:World)=>ad9 run W (by omega));have Ps:=Hi (show(BA (l.take k)).length≤20 from by rw[P5,AZ];omega);have NT:=qM HU (K:=Aa) (BA (l.take k)) (Aa.nm run);rw[DW.out] at NT;have PU:=jq HU DW (wh Z5) Lm run
    have FT:=Hi (fun(W:World) (hW:Bw wr W)=>azW (HX.below hW) (by have:=Rf (made A (FP Aa (BA (l.take k))));have:=Fz k;omega) (Aa.nm run) (fun d hd=>by
     rw[NT] at hd;split at hd
     ·injection hd with hd
      rw[←hd];cases hc:BV (BM Aa (BA (l.take k)) (Aa.nm run)) with
      |none=>exact AV _
      |some d=>exact Aw (dh hc) (by decide)
     ·cases hd) (fun d hd=>by
     rw[NT] at hd;rw[PU];split at hd
     ·rename_i D6
      rw[Ad D6];rfl
     ·cases hd))
    rw[ah1 HU DW (wh Z5) Lm run] at FT
    have Qp:=Hi (show Fits Aa (BA l)→(BV (BM Aa (BA (l.take (k+1))) (Aa.nm run))).isSome=true from fun h=>by
     have h1:=h k (by rw[P5];exact hlt);rw[←wu,aC8 hlt] at h1;have h2:(Qf l[k]).1=run:=by
      have h3:=Cv.out;have h4:=Cx hlt;rw[h4] at h3;have h5:=List.append_cancel_left h3;have h6:l[k]=(run,keys):=(by injection h5);rw[h6];rfl
     rw[h2] at h1;exact h1)
    clear NT PU hs hz Yf;generalize TA:Aa.nm run=name at*;have Mg:=Hi TA;clear TA;have X3:=Hi (Tg (K:=Aa) (BA (l.take k)) name);have MO:=Hi (show BM Aa (BA (l.take (k+1))) name=put run s (BM Aa (BA (l.take k)) name) from by rw[EM.out,NK,Ad Mg.out]);have KI:=Hi (Oq (k+1) name);have OI:(BM Aa (BA (l.take k)) name).length≤20:=by
     have h1:=qP Aa (BA (l.take k)) name;have:=Ps.out;omega
    rw[MO.out] at KI Qp
    have Om:=Hi (show FP Aa (BA (l.take (k+1)))=FP Aa (BA (l.take k))++[⟨name,(BV (put run s (BM Aa (BA (l.take k)) name))).getD [],false⟩] from by
     rw[←MO.out,EM.out,vM,←EM.out]
     congr 1
     unfold MC;rw[show Aa.nm ((run,s):T×T).1=name from Mg.out])
    have Ub:=Hi (show Fits Aa (BA (l.take (k+1)))↔Fits Aa (BA (l.take k))∧(BV (put run s (BM Aa (BA (l.take k)) name))).isSome=true from by
     rw[←MO.out,EM.out,Fits.mf,←EM.out,show Aa.nm ((run,s):T×T).1=name from Mg.out])
    generalize BM Aa (BA (l.take k)) name=G at*;generalize (Ag.get (made A (FP Aa (BA (l.take k)))) name).isSome=isb at*;go_wp2_with fail;refine(SS _ (Ai _ _)).mono ?_;rintro e w1⟨rfl,Aj⟩;have aiC:=AU w1 (.cells #[.string (bs run),.string (bs s)] 51);have iW:=Hi (AQ w1 (.cells #[.string (bs run),.string (bs s)] 51));have HB1:=bH Aj aiC;have c01:(w1.alloc (.cells #[.string (bs run),.string (bs s)] 51)).cell? q=some (.string (bs run)):=(HB1.cell (Cr c0)).trans c0;have Md:=Hi c0;clear Aj aiC c0 c1;go_wp2_with fail;obtain⟨W1,jR⟩:=ex (w1.alloc (.cells #[.string (bs run),.string (bs s)] 51));obtain⟨pb,QR⟩:=ex (w1.heap.size);rw[jR] at iW HB1 ⊢;rw[QR] at iW ⊢;clear jR QR c01;refine(HN _).mono ?_;rintro e w2⟨rfl,Ac⟩;have Ak:=bH HB1 Ac;have yf:=Hi ((Ac.block _ (Ao iW)).trans iW);clear Ac iW;go_wp2_with fail;refine(FT _ Ak).mono ?_;rintro e w3⟨q3,c3,rfl,QS,TD,Ap⟩;have Au:=bH Ak Ap;have ou:=Hi ((Ap.block _ (Ao yf)).trans yf);have MS:=Hi QS;clear QS Ap yf;have c0:w3.cell? q=some (.string (bs run)):=(Au.cell (Cr Md)).trans Md.out;have cp0:w3.cell? ⟨pb,0,none⟩=some (.string (bs run)):=cr ou.out;have cp1:w3.cell? ⟨pb,1,none⟩=some (.string (bs s)):=cr ou.out;have K7:M4 (G.filter (fun p=>!(p.1 == run))++[(run,s)])=put run s G:=aAP X3 run s;have Wu:=KI.out;obtain⟨lf,ZL⟩:∃ lf,G.filter (fun p=>!(p.1 == run))=lf:=⟨_,rfl⟩;have avT:lf.length≤20:=(by rw[←ZL];exact Aw (M8 _ _) OI);have Xh:=Hi (fun(W:World) (hW:Bw w3 W)=>aAp (w:=W) (cap:=c3) run ((Bf.CX MS).below hW) (by omega));have aex:=Hi (X3.put run s)
    rw[ZL] at Xh K7;obtain⟨G2,aaz⟩:=ex (put run s G);rw[aaz] at K7 Wu aex Qp Om Ub;have apl:=Hi (show BM Aa (BA (l.take (k+1))) name=G2 from by rw[MO.out,aaz])
    have Ot:=Hi (fun(W:World) (q:Option Addr) (c:Nat) (h:Bf W q (lf++[(run,s)]))=>show Calls prog 116 #[.slice q (lf.length+1) c] W fun e w'=>∃ q c,e=.returned (.slice q G2.length c)∧BJ w' W.heap.size (.slice q G2.length c) G2∧Bw W w' from by
     have h1:=aAc (cap:=c) h (by rw[AA,Le];omega);rw[K7,AA,Le] at h1;exact h1)
    obtain⟨dd,Wm⟩:=ex ((BV G2).getD []);obtain⟨cc,Ka⟩:∃ cc:Int,(if(BV G2).isSome=true then 0 else 5)=cc:=⟨_,rfl⟩
    have Ky:=Hi (fun(W:World) (q:Option Addr) (c:Nat) (h:Bf W q G2)=>show Calls prog 115 #[.slice q G2.length c] W fun e w'=>e=.returned (.tuple #[.string (bs dd),.int .i64 cc])∧Bw W w' from by
     have h1:=azx (cap:=c) h (CU.Ra aex) (by have:=Wu.1;omega) Wu.2;rw[Wm,Ka] at h1;exact h1)
    have Kz:=Hi Wm;have Bj:=Hi Ka;have o8:=Hi avT;have XL:=AU w3 (.cells #[.string (bs run),.string (bs s)] 51);have bI:=Hi (AQ w3 (.cells #[.string (bs run),.string (bs s)] 51));have Vq:=Hi XL;have c0P:(w3.alloc (.cells #[.string (bs run),.string (bs s)] 51)).drew.cell? q=some (.string (bs run)):=(XL.cell (Cr c0)).trans c0
    have bq:=Hi (fun(V:World) (hV:Bw w3 V)=>show V.cell? ⟨pb,0,none⟩=some (.string (bs run))∧V.cell? ⟨pb,1,none⟩=some (.string (bs s)) from by
     have h1:=(hV.block _ (Ao ou)).trans ou;exact⟨cr h1,cr h1⟩)
    clear K7 ZL aaz Wu Wm Ka XL OI;go_wp2_with fail;refine aW ?_
    go_region_law
     (first
      |(go_simp;go_at_call 117;refine(Xh _ ((Ai _ w3).drew)).mono ?_;rintro e w4 ⟨q4,c4,rfl,I8,AB⟩;have AB:Bw w3 w4:=((Ai _ w3).drew).trans (AB.mono (Ae _));have Lt:=Hi (EA I8 (show w3.heap.size≤_ from Ae _));have AX:=Hi AB;obtain⟨cq0,cq1⟩:=bq w4 AB;go_wp2_with fail)
      |(go_simp;go_at_call 117;refine(Xh _ Vq.drew).mono ?_;rintro e w4 ⟨q4,c4,rfl,I8,AB⟩;have hp4:w4.heap[w3.heap.size]?=some (.cells #[.string (bs run),.string (bs s)] 51):=(AB.block _ (Ao bI)).trans bI.out;have AB:Bw w3 w4:=Vq.trans (((Ai _ _).drew.trans (AB.mono (Ae _))).mono Vq.size);have Lt:=Hi (EA I8 (show w3.heap.size≤_ from Vq.size));have AX:=Hi AB;obtain⟨cq0,cq1⟩:=bq w4 AB;go_wp2_with fail)
      |(go_simp;go_at_call 116;refine(Ot w5 _ _ (Bf.CX KH)).mono ?_;rintro e w6 ⟨q6,c6,rfl,IM,CS⟩;have Hy:=Hi IM;have EC:=bH CZ CS;go_wp2_with fail)
      |(go_simp;go_at_call 115;refine(Ky w6 q6 c6 (Bf.CX Hy)).mono ?_;rintro e w7 ⟨rfl,FK⟩;have Eo:=bH EC FK;go_wp2_with fail)
      |(refine step_append_lies _ (by rfl) _ _ _ (by rfl) w3.heap.size 51 i0 _ 2 32 underlying30 Bl AY Ba Be (by rfl) (by omega) (.slice q4 lf.length c4) lf.length (Dm lf) (by rfl) Lt ⟨w3.heap.size,0,none⟩ 1 1 [.string (bs run),.string (bs s)] (by rfl) (by rfl) (World.news_of_block (cs:=#[.string (bs run),.string (bs s)]) (t:=51) (fr:=(0,0)) hp4) (fun u hu=>by simp at hu;rcases hu with rfl|rfl<;>rfl) (by omega) (by have:=o8.out;unfold maxLen;omega) (by have:=o8.out;omega) (by have:=AX.size;omega) w4.heap.size (by simp) ?_;intro gg cap2 w5 Ya rY aix ajK;have KH:=Hi (show BJ w5 w3.heap.size (.slice (some ⟨gg,0,none⟩) (lf++[(run,s)]).length cap2) (lf++[(run,s)]) from by unfold BJ;rw[AA,Td];exact Ya);have CZ:=Hi (show Bw w3 w5 from AX.grown rY AX.size (fun j e=>E9 Lt e)))
      |(refine step_append_lies _ (by rfl) _ _ _ (by rfl) w3.heap.size 51 i0 _ 2 32 underlying30 Bl AY Ba Be (by rfl) (by omega) (.slice q4 lf.length c4) lf.length (Dm lf) (by rfl) (Lt.alloc _) ⟨w4.heap.size,0,none⟩ 1 1 [.string (bs run),.string (bs s)] (by rfl) (by rfl) (World.news_of_block (cs:=#[.string (bs run),.string (bs s)]) (t:=51) (fr:=(0,0)) (AQ w4 _)) (fun u hu=>by simp at hu;rcases hu with rfl|rfl<;>rfl) (by omega) (by have:=o8.out;unfold maxLen;omega) (by have:=o8.out;omega) (by have:=AX.size;rw[Ay];omega) (w4.heap.size+1) (by simp) ?_;intro gg cap2 w5 Ya rY aix ajK;have KH:=Hi (show BJ w5 w3.heap.size (.slice (some ⟨gg,0,none⟩) (lf++[(run,s)]).length cap2) (lf++[(run,s)]) from by unfold BJ;rw[AA,Td];exact Ya);have CZ:=Hi (show Bw w3 w5 from(AX.alloc AX.size _).grown rY (by rw[Ay];have:=AX.size;omega) (fun j e=>E9 Lt e))))
    all_goals
     dsimp only[Yt];have wY:=Hi (show Bw wr w7 from Au.trans (Eo.mono Au.size));clear I8 IM AB CS FK rY Ya aix ajK cq0 cq1 c0 c0P cp0 cp1;by_cases DF:(BV G2).isSome=true
     ·have Ka:cc=0:=(by rw[←Bj.out,Ad DF]);obtain⟨d,hd⟩:=Lh.1 DF;have Wm:dd=d:=(by rw[←Kz.out,hd];rfl);rw[hd] at Om;simp only[Option.getD_some] at Om;subst Ka Wm;have KV:=dh hd;have YO:=Hi (Ub.2 ⟨Lm,DF⟩);have EI:name.length=17:=by rw[←Mg.out];exact GD.len _
      have Pk:=Hi (show Am.may ⟨name,dd,false⟩=true from by
       have h1:=acR GD YO (p:=(run,s)) (by rw[EM.out];simp);have h2:MC Aa (BA (l.take (k+1))) (Aa.nm ((run,s):T×T).1)=⟨name,dd,false⟩:=by
        unfold MC;rw[show Aa.nm ((run,s):T×T).1=name from Mg.out,apl.out,hd];rfl
       rw[h2] at h1;exact h1)
      clear DF hd Bj Kz Qp;have Ce:=AU w7 (.cells #[.string (bs name),.string (bs dd),.bool false] 57);have QP:=AQ w7 (.cells #[.string (bs name),.string (bs dd),.bool false] 57);have Aq:=bH wY Ce;have Ph:=Hi (amI (most:=1099511627776) (cap:=1) (HX.below Aq) (HU.made _) (zx (c:=⟨name,dd,false⟩) QP) (by omega) (by have:=Fz k;omega) (by simp) (by show 8+name.length+dd.length+0≤_;omega));have kU:WJ 1099511627776 (made A (FP Aa (BA (l.take k)))) [⟨name,dd,false⟩]=made A (FP Aa (BA (l.take (k+1)))):=by
       unfold WJ;have h1:=Fz (k+1);rw[Om.out,uf] at h1;rw[Ad ⟨by simp[Pk.out],by omega⟩,Om.out,uf]
      rw[kU] at Ph;have Dc:=bH HB Aq;clear Ce QP kU;generalize Zi 1099511627776 (made A (FP Aa (BA (l.take k)))) [⟨name,dd,false⟩]=cd at*;go_wp2_with fail;refine Ph.mono ?_;rintro e w8⟨rfl,v8,hx8,Q7⟩;have CF:=Hi (show yQ w w.heap.size A l (.int .i64 ((k:Int)+1)) w8 from⟨k+1,v8,by omega,by go_num,hx8,YO,Cy Dc Q7 (fun i e=>Nat.le_of_eq e.symm) Dc.size,yj⟩);clear hx8 Q7;go_wp2;go_roundw
      case rel=>exact CF.out
      case measure=>
       show l.length -((k:Int)+1).toNat < l.length -((k:Int)).toNat
       omega
     ·have Ka:cc=5:=(by rw[←Bj.out,Ab DF]);subst Ka
      have VB:=Hi (show Ie n A l=(5,A) from by
       unfold Ie;split
       ·unfold H9;rw[Ab (fun hF=>DF (Qp hF))]
       ·rfl)
      have Rp:=bH HB wY;clear DF Qp Ub Bj Kz;go_wp2;go_ret;rw[VB.out];exact⟨rfl,_,HR.below Rp,A7.of_below Rp⟩
  ·obtain rfl:k=l.length:=(by omega);have Cf:=Lm.out;have NZ:=Z5.out;rw[Da] at Cf hx NZ;have FM:=Fz l.length;rw[Da] at FM;have Jv:=Hi (aAC (n:=n) (A:=A) NZ Cf);rw[←aoq HU.out,←mq HU.out] at Jv;have Za:=Hi (fun(W:World) (hW:Bw wr W)=>anp (hx.below hW) (by omega));have RG:=Hi hx;obtain⟨xq,xc,rfl⟩:=Bo hx.2;have FW:=HR.below HB.out;have c1:wr.cell? ⟨r,1,none⟩=some (.int .i64 (Co n:Int)):=cr FW.1;clear Cf hx FW HX NZ;generalize hF:made A (FP Aa (BA l))=F at*;obtain⟨U,jP⟩:=ex (used F);rw[jP] at Za Jv FM;clear hF jP;by_cases GJ:Co n < U
   ·have QM:(Co n:Int) < (U:Int):=(by omega);rw[Ad GJ] at Jv;clear GJ;go_wp2
    go_region_held3 (fun V=>V.cell? ⟨r,1,none⟩=some (.int .i64 (Co n:Int))) (go_keep)
     (first|(go_at_call 103;refine(Za _ ((Ai _ _).drew)).mono ?_;rintro e wA ⟨rfl,DT⟩;have Aq:=Hi (HB.trans ((show Bw wr wA from((Ai _ wr).drew).trans DT).mono HB.size));clear DT;have cA:wA.cell? ⟨r,1,none⟩=some (.int .i64 (Co n:Int)):=(by rw[BL _ _ _ _ _ _ (HR.below Aq).1];rfl)))
    all_goals
     go_wp2;go_ret;rw[Jv.out];exact⟨rfl,_,HR.below Aq,A7.of_below Aq⟩
   ·have QM:¬ (Co n:Int) < (U:Int):=(by omega);rw[Ab GJ] at Jv;clear GJ;go_wp2
    go_region_held3 (fun V=>V.cell? ⟨r,1,none⟩=some (.int .i64 (Co n:Int))) (go_keep)
     (first|(go_at_call 103;refine(Za _ ((Ai _ _).drew)).mono ?_;rintro e wA ⟨rfl,DT⟩;have Aq:=Hi (show Bw wr wA from((Ai _ wr).drew).trans DT);clear DT;have cA:wA.cell? ⟨r,1,none⟩=some (.int .i64 (Co n:Int)):=(by rw[BL _ _ _ _ _ _ (HR.below (bT HB Aq)).1];rfl)))
    all_goals
     have Dc:=bH HB Aq;have FW:=HR.below Dc.out;have OU:=RG.below Aq.out;have d0:wA.cell? ⟨r,0,none⟩=some (.slice vq A.length vc):=cr FW.1;have df:=Dt _ _ 0 _ _ FW.1;have x0:wA.cell? ⟨w.heap.size,0,none⟩=some (.slice xq F.length xc):=cr OU.1;have Ij:=Hi (Cw FW.1 OU.2);clear FW c1 OU;go_wp2;go_ret;rw[Jv.out];refine⟨rfl,.slice xq F.length xc,?_,(A7.of_below (F:=fun k=>k=r) Dc).setCell (p:=⟨r,0,none⟩) (.inl rfl) _⟩;refine⟨Cu _ _ 0 _ _ _ Ij.1,Bv Ij.2 ((A7.refl (fun k=>k=r) wA).setCell (p:=⟨r,0,none⟩) (.inl rfl) _) (fun g hg e=>?_)⟩;rw[e] at hg;exact Bb.ne (Cn Ij.2 hg) ⟨_,_,Ij.1⟩ (by decide) rfl
end Ch
namespace Hv
open Go.RowKit Go.Maps
open Av Ag Bt Kp BI Hex BH Al Mem Ch GV
open Ar hiding T
theorem aR{α:Type}(f:α→Nat):∀ (S l:List α),S.Nodup→(∀ x∈S,x∈l)→(S.map f).sum≤(l.map f).sum
 |[],l,_,_=>AV _
 |x :: S,l,hn,hs=>by
  obtain⟨a,b,e⟩:=List.append_of_mem (hs x Gf);have hx:=(Js.1 hn).1
  have ih:=aR f S (a++b) (Js.1 hn).2 (fun y hy=>by
   have h1:=hs y (F9 _ hy);rw[e] at h1;rcases Eh.1 h1 with h|h
   ·exact U2 _ h
   ·rcases Cc.1 h with h|h
    ·subst h;exact absurd hy hx
    ·exact List.mem_append_right _ h)
  rw[e];simp only[Ca,DR,CK,Lg] at ih ⊢;omega
theorem an1(f:T→Nat)(l:List T):((Bi l).map f).sum≤(l.map f).sum:=aR f _ _ (WM l) (fun x hx=>(Ee l x).1 hx)
theorem an0(l:List T):(Bi l).length≤l.length:=by
 have h:=an1 (fun _=>1) l;have e:∀ l:List T,(l.map fun _=>1).sum=l.length:=fun l=>by
  induction l with
  |nil=>rfl
  |cons x l ih=>rw[Ca,DR,ih,BG];omega
 rw[e,e] at h;exact h
theorem asv(k v:T):∀ l:M,CW (put k v l)≤CW l+(4+k.length+v.length):=by
 intro l;have h1:CW (l.filter fun p=>decide (p.1 < k))+CW (l.filter fun p=>decide (k < p.1))≤CW l:=by
  induction l with
  |nil=>exact AV _
  |cons x l ih=>
   have e:∀ (y:T×T) (m:M),CW (y :: m)=(4+y.1.length+y.2.length)+CW m:=fun _ _=>rfl
   rw[List.filter_cons,List.filter_cons];by_cases h1:x.1 < k
   ·rw[Ad (by simpa using h1),Ab (by simpa using R9 h1),e,e];omega
   ·rw[Ab (by simpa using h1),e];split
    ·rw[e];omega
    ·omega
 have h2:CW (put k v l)=CW (l.filter fun p=>decide (p.1 < k))+((4+k.length+v.length)+CW (l.filter fun p=>decide (k < p.1))):=by
  unfold put CW;rw[CK,Lg,Ca,DR]
 omega
theorem ahX(K:Kind)(S:List T)(hn:S.Nodup)(l:M):(S.map fun x=>CW (BM K l x)).sum≤CW l:=by
 induction l using Vi with
 |h0=>
  have:∀ S:List T,(S.map fun x=>CW (BM K [] x)).sum=0:=fun S=>by
   induction S with
   |nil=>rfl
   |cons x S ih=>rw[Ca,DR,ih];rfl
  rw[this];exact AV _
 |h1 l p ih=>
  have e1:CW (l++[p])=CW l+(4+p.1.length+p.2.length):=by unfold CW;rw[CK,Lg];simp
  rw[e1];have key:∀ S:List T,S.Nodup→(S.map fun x=>CW (BM K (l++[p]) x)).sum≤(S.map fun x=>CW (BM K l x)).sum+(if K.nm p.1∈S then 4+p.1.length+p.2.length else 0):=by
   intro S
   induction S with
   |nil=>intro _;exact AV _
   |cons x S ih2=>
    intro hn;have h2:=ih2 (Js.1 hn).2;have hx:=(Js.1 hn).1;simp only[Ca,DR];rw[NK];by_cases e:K.nm p.1=x
    ·rw[Ad e,Ad (by rw[e];exact Gf)];rw[Ab (by rw[e];exact hx)] at h2;have:=asv p.1 p.2 (BM K l x);omega
    ·rw[Ab e];by_cases e2:K.nm p.1∈S
     ·rw[Ad e2] at h2;rw[Ad (F9 _ e2)];omega
     ·rw[Ab e2] at h2;rw[Ab (by intro f;rcases Cc.1 f with f|f;exact e f;exact e2 f)];omega
  have:=key S hn;have h3:(if K.nm p.1∈S then 4+p.1.length+p.2.length else 0)≤4+p.1.length+p.2.length:=by split<;>omega
  omega
theorem arF{l:M}{d:T}(h:BV l=some d):d.length=6+CW l:=by
 unfold BV at h;cases hp:FO l with
 |none=>rw[hp] at h;cases h
 |some s=>
  rw[hp] at h;simp only[CL] at h;split at h
  ·simp only[Ci] at h;subst h;unfold FO at hp;split at hp
   ·cases ht:BK (flat l) with
    |none=>rw[ht] at hp;cases hp
    |some a=>
     rw[ht] at hp;simp only[EK,Ci] at hp;have h6:=WO ht;rw[qA] at h6;subst hp;unfold A9.Fx;rw[AA,A9.C9,AA,A9.C9];omega
   ·cases hp
  ·cases h
theorem nD{K:Kind}(hK:K.BO)(l:M):F8 (ES K l)≤31*l.length+CW l:=by
 have h1:=ahX K (Bi (l.map fun p=>K.nm p.1)) (WM _) l;have h2:=an0 (l.map fun p=>K.nm p.1);rw[BP] at h2;have h3:∀ S:List T,(∀ x∈S,∃ p∈l,K.nm p.1=x)→F8 (S.map (MC K l))≤31*S.length+(S.map fun x=>CW (BM K l x)).sum:=by
  intro S
  induction S with
  |nil=>intro _;exact AV _
  |cons x S ih=>
   intro hS;have h4:=ih (fun y hy=>hS y (F9 _ hy));obtain⟨p,_,hp⟩:=hS x Gf;have e:F8 ((x :: S).map (MC K l))=(8+x.length+((BV (BM K l x)).getD []).length)+F8 (S.map (MC K l)):=by
    unfold F8;rw[Ca,Ca,DR];rfl
   have Gq:x.length=17:=(by rw[←hp];exact hK.len _);have hd:((BV (BM K l x)).getD []).length≤6+CW (BM K l x):=by
    cases hc:BV (BM K l x) with
    |none=>exact AV _
    |some d=>rw[Option.getD_some,arF hc];exact Ae _
   rw[e,Ca,DR,BG];omega
 have h5:=h3 (Bi (l.map fun p=>K.nm p.1)) (fun x hx=>by
  rw[Ee] at hx;obtain⟨p,hp,e⟩:=Bz.1 hx;exact⟨p,hp,e⟩)
 show F8 ((Bi (l.map fun p=>K.nm p.1)).map (MC K l))≤_
 omega
theorem agL(l:M):CW l=4*l.length+JM l:=by
 unfold CW JM
 induction l with
 |nil=>rfl
 |cons p l ih=>
  rw[Ca,DR,Ca,DR,BG,ih];omega
theorem aBv{l:List T}{s:T}(h:BK l=some s):∀ t∈l,t.length≤65535:=by
 induction l generalizing s with
 |nil=>intro t ht;simp at ht
 |cons x l ih=>
  simp only[BK] at h;cases h1:Eg x with
  |none=>rw[h1] at h;cases h
  |some a=>
   rw[h1,CL] at h;cases h2:BK l with
   |none=>rw[h2] at h;cases h
   |some b=>
    intro t ht;rcases Cc.1 ht with rfl|ht
    ·unfold Eg at h1;split at h1
     ·assumption
     ·cases h1
    ·exact ih h2 t ht
theorem aon{u:T×List T}(h:(D8 (Bi u.2)).2=0):(Qf u).2.length≤2+16*Nl u.2:=by
 obtain⟨s,hs⟩:=Lh.1 (aA1.1 h);have e:(Qf u).2=s:=by
  show(D8 (Bi u.2)).1=s
  unfold D8;rw[hs]
 rw[e];unfold GN at hs;split at hs
 ·cases ht:BK (Bi u.2) with
  |none=>rw[ht] at hs;cases hs
  |some a=>
   rw[ht] at hs;simp only[EK,Ci] at hs;have h6:=WO ht;have h7:=aBv ht;have h8:s.length=2+a.length:=(by rw[←hs,AA,A9.C9]);have h9:((Bi u.2).map fun s=>2+s.length).sum≤16*((Bi u.2).map fun s=>2+min s.length 4096).sum:=by
    clear hs ht h6 e h
    revert h7
    generalize Bi u.2=l;intro h7
    induction l with
    |nil=>exact AV _
    |cons x l ih=>
     have h1:=ih (fun t ht=>h7 t (F9 _ ht));have h2:=h7 x Gf;rw[Ca,DR,Ca,DR];omega
   have IZ:=an1 (fun s=>2+min s.length 4096) u.2;have h11:Nl u.2=(u.2.map fun s=>2+min s.length 4096).sum:=rfl;have h12:=Aw h9 (Nat.mul_le_mul_left 16 IZ);unfold rowLen at h6;rw[h8,h6,h11];omega
 ·cases hs
theorem aCb{l:Us}(h:MW l):CW (BA l)≤6*l.length+16*IE l:=by
 induction l with
 |nil=>exact AV _
 |cons u l ih=>
  have h1:=ih (fun x hx=>h x (F9 _ hx));have h2:=aon (h u Gf);have e1:CW (BA (u :: l))=(4+u.1.length+(Qf u).2.length)+CW (BA l):=rfl;have e2:IE (u :: l)=(u.1.length+Nl u.2)+IE l:=rfl;rw[e1,e2,BG];omega
theorem ati{fz:Bool}{w:World}{b y n N:Nat}{bl:Nat→Prop}{A:M}{a:Option Addr}{cap:Nat}{l:List Am}(h:Fa fz w b y bl n N A)(hN:N < 1000000000)(hL:Eb w a l)(hlen:l.length≤100000)(aw9:∀ c∈l,c.name.length≤maxLen∧c.data.length≤maxLen)(V7:l.all Am.may=true→F8 l≤900000):
  Calls prog 17 #[.pointer (some ⟨y,0,none⟩),.slice a l.length cap] w fun e w'=>∃ c:Int,e=.returned (.int .i64 c)∧∃ C8,aZ fz w' b y C8 n (N+1) A (FC n A l,En n A l) c∧A7 (Gx w bl) w w'∧∀ k,C8 k→bl k∨w.heap.size≤k:=by
 have DY:=h.up;obtain⟨D,fp,m,x,gv,F,h1,h2,h3,h4,h5,h6,h7,h8,h9⟩:=h;have J2:=aO DY.2.2.2.2;have FM:=Vj DY.1 l;have FX:F.room=Co n:=by unfold St.room Co;rw[h4.size,h6]
 have hgw:=ahR l;have I9:=Rf A;have I7:D.loose.length=0:=by rw[h4.disk.loose];rfl
 have key:Calls prog 17 #[.pointer (some ⟨y,0,none⟩),.slice a l.length cap] w fun e w'=>SB w y b m x gv fp (JC D F l) e w':=by
  by_cases hall:l.all Am.may=true
  ·have hw:=V7 hall;have hok:∀ c∈l,c.name.length≤1000000∧c.data.length≤maxLen:=fun c hc=>by
    have h1:=(MH.1 hall) c hc;unfold Am.may Fu at h1;simp only[Bool.and_eq_true,decide_eq_true_eq] at h1;unfold maxLen;omega
   have FL:=zA D F l (by omega) (by rw[h8];omega);exact agQ h1 h2 h3 hL hlen hok h4.good (by rw[h8];omega) (by rw[h8];omega) (by rw[h4.size];have:=h4.disk.fine.n2;unfold sz;omega) (by omega) (by omega) (by have:=ahT h4;omega) h4.fault hall
  ·exact agP h1 h2 h3 hL hlen aw9 h4.fault (by simpa using hall)
 refine key.mono ?_;rintro e w'⟨m',⟨he,fp',Fp,p1,p2,p3,p4,p5,p6⟩,Y5⟩;refine⟨_,he,fun k=>bl k∨w.heap.size≤k,?_,p4.mono (fun k hk=>fM h1 h2 h9 k hk),fun k hk=>hk⟩;have CP:∀ k,fp' k∨Tc y m' x Fp k→bl k∨w.heap.size≤k:=by
  rintro k (hk|hk|hk|hk)
  ·exact(p5 k hk).imp (fun e=>h9 k (.inl e)) id
  ·exact .inl (h9 k (.inr (.inl hk)))
  ·subst hk;exact Y5.imp (fun e=>h9 _ (.inr (.inr (.inl e)))) id
  ·exact(p6 k hk).imp (fun e=>h9 k (.inr (.inr (.inr e)))) id
 by_cases hall:l.all Am.may=true
 ·have hw:=V7 hall;have FL:=zA D F l (by omega) (by rw[h8];omega);by_cases hr:used (made F.m l)≤F.room
  ·have hc:=agb h4 (by omega) hall hr;have Tp:FC n A l=0:=(by unfold FC;rw[Ab (by simp[hall]),Ab (by rw[←h8,←FX];omega)]);have LM:En n A l=made A l:=(by unfold En;rw[Ad ⟨hall,by rw[←h8,←FX];exact hr⟩]);rw[Tp,LM];rcases hc.out with⟨o1,o2,o3,o4,o5⟩|⟨o1,o2,o3,o4,o5,o6⟩
   ·exact .inl ⟨o1,_,fp',m',x,Fp,_,p1,p2,p3,o2,fun e=>o5 (h5 e),hc.n.trans h6,by omega,by rw[←h8];exact o3,CP⟩
   ·refine .inr ⟨?_,o1,rfl,_,fp',m',x,Fp,_,p1,p2,p3,o3,by omega,hc.n.trans h6,⟨DY.2.1,DY.2.2.1,DY.2.2.2.2⟩,o4.trans h8,fun keep=>?_,CP⟩
    ·cases fz with
     |false=>exact absurd (h5 rfl) o2
     |true=>rfl
    ·obtain⟨F',D',q1,q2,q3,q4⟩:=o6 keep;exact⟨F',D',q1,q2,by omega,by rw[←h8];exact q4⟩
  ·have e1:JC D F l=(D,F,4):=by
    unfold JC;rw[Ab (by simp[h4.fault]),Ab (by simp[hall]),Ad (by omega)]
   have Tp:FC n A l=4:=(by unfold FC;rw[Ab (by simp[hall]),Ad (by rw[←h8,←FX];omega)]);have LM:En n A l=A:=(by unfold En;rw[Ab (fun e=>hr (by rw[h8,FX];exact e.2))]);rw[e1] at p1 p2 ⊢;rw[Tp,LM];exact .inl ⟨rfl,D,fp',m',x,Fp,F,p1,p2,p3,h4,h5,h6,by omega,h8,CP⟩
 ·have GK:l.all Am.may=false:=by simpa using hall
  have e1:JC D F l=(D,F,2):=by
   unfold JC;rw[Ab (by simp[h4.fault]),Ad GK]
  have Tp:FC n A l=2:=by unfold FC;rw[Ad GK]
  have LM:En n A l=A:=by unfold En;rw[Ab (fun e=>hall e.1)]
  rw[e1] at p1 p2 ⊢;rw[Tp,LM];exact .inl ⟨rfl,D,fp',m',x,Fp,F,p1,p2,p3,h4,h5,h6,by omega,h8,CP⟩
section
variable {B:Nat}{w0 w w':World}{b y n N r:Nat}{A A' R R':M}{L:List (Nat×Obj)}
structure Duo(B:Nat)(w0 W:World)(b y n N:Nat)(A:M)(r:Nat)(R:M)(L:List (Nat×Obj)):Prop where
 x:VL B w0 W b y n N A (fun k=>k=r∨∃ o,(k,o)∈L)
 at_:∀ k o,(k,o)∈L→W.heap[k]?=some o
 rf:∃ v,Hz W r v R (Co n)
 ne:∀ o,(r,o)∉L
 ge:B≤r
theorem Duo.step(h:Duo B w0 w b y n N A r R L)(hb:Bw w w'):Duo B w0 w' b y n N A r R L:=by
 obtain⟨v,hv⟩:=h.rf;exact⟨h.x.step hb,fun k o ho=>(hb.block k (Dq.1 (h.at_ k o ho)).1).trans (h.at_ k o ho),⟨v,hv.below hb⟩,h.ne,h.ge⟩
theorem Duo.pick(h:Duo B w0 w b y n N A r R L):∃ bl,Qi w b y bl n N A∧(∀ k,bl k→k < w.heap.size)∧∀ {N':Nat} {A':M} {w':World},Goes w b y bl n N' A' w'→Duo B w0 w' b y n N' A' r R L:=by
 obtain⟨⟨h1,h2,hx,bl,h3,h4⟩,ha,⟨v,hv⟩,hn,hg⟩:=h;refine⟨_,h3.shrink,fun k hk=>hk.2,fun {N' A' w'} ⟨C8,g1,g2,g3⟩=>?_⟩;obtain⟨k1,k2⟩:=VL.turn h1 h2 hx (fun k hk=>h4 k hk.1) g1 g2 g3;exact⟨k1,fun k o ho=>(k2 k (.inr ⟨o,ho⟩)).trans (ha k o ho),⟨v,hv.noS g2⟩,hn,hg⟩
theorem Duo.ref(h:Duo B w0 w b y n N A r R L){v':Value}(hr:Hz w' r v' R' (Co n))(hu:A7 (fun k=>k=r) w w'):Duo B w0 w' b y n N A r R' L:=by
 obtain⟨⟨h1,h2,hx,bl,h3,h4⟩,ha,⟨v,hv⟩,hn,hg⟩:=h;refine⟨⟨Cy h1 hu (fun k hk=>by subst hk;exact hg) h2,Aw h2 hu.size,fun k hk=>Hw (hx k hk) hu.size,bl,h3.upd hu (fun k hk e=>?_) (fun k hk e=>(h4 k hk).2 (.inl e)),h4⟩,fun k o ho=>?_,⟨v',hr⟩,hn,hg⟩
 ·subst e;exact Bb.ne hk ⟨_,_,hv.1⟩ (by decide) rfl
 ·exact(hu.block k (Dq.1 (ha k o ho)).1 (fun e=>by subst e;exact hn o ho)).trans (ha k o ho)
theorem Duo.AO(h:Duo B w0 w b y n N A r R L):Below B w0 w:=h.x.1
theorem Duo.cell(h:Duo B w0 w b y n N A r R L){k:Nat}{cs:Array Value}{t:TypeId}(hm:(k,.cells cs t)∈L)(i:Nat):w.cell? ⟨k,i,none⟩=cs[i]? :=BL w k i cs t _ (h.at_ _ _ hm)
theorem Duo.new(h:Duo B w0 w b y n N A r R L)(o:Obj):Duo B w0 (w.alloc o) b y n N A r R ((w.heap.size,o) :: L):=by
 have hs:=h.step (AU w o);obtain⟨⟨h1,h2,hx,bl,h3,h4⟩,ha,⟨v,hv⟩,hn,hg⟩:=h;have hb:=AU w o;have BQ:(w.alloc o).heap.size=w.heap.size+1:=Ay _ _;refine⟨⟨h1.trans (hb.mono h2),Aw h2 hb.size,fun k hk=>?_,fun k=>bl k∧k < w.heap.size,h3.shrink.below hb,fun k hk=>⟨(h4 k hk.1).1,fun I6=>?_⟩⟩,fun k o' ho=>?_,hs.rf,fun o' ho=>?_,hg⟩
 ·rcases hk with e|⟨o',ho⟩
  ·have:=hx k (.inl e);omega
  ·rcases Cc.1 ho with e|e
   ·cases e;omega
   ·have:=hx k (.inr ⟨o',e⟩);omega
 ·rcases I6 with e|⟨o',ho⟩
  ·exact(h4 k hk.1).2 (.inl e)
  ·rcases Cc.1 ho with e|e
   ·cases e;have:=hk.2;omega
   ·exact(h4 k hk.1).2 (.inr ⟨o',e⟩)
 ·rcases Cc.1 ho with e|e
  ·cases e;exact AQ w o
  ·exact hs.at_ k o' e
 ·rcases Cc.1 ho with e|e
  ·have:=hx r (.inl rfl);cases e;omega
  ·exact hn o' e
theorem pF(h:Er B w0 w b y n N A L)(hb:Bw w w'){p:Nat}{o:Obj}(hp:w.heap.size≤p)(ho:w'.heap[p]?=some o):Er B w0 w' b y n N A ((p,o) :: L):=by
 have hs:=h.step hb;obtain⟨⟨h1,h2,hx,bl,h3,h4⟩,ha⟩:=h;refine⟨⟨h1.trans (hb.mono h2),Aw h2 hb.size,fun k ⟨o',RQ⟩=>?_,fun k=>bl k∧k < w.heap.size,h3.shrink.below hb,fun k hk=>⟨(h4 k hk.1).1,fun⟨o',RQ⟩=>?_⟩⟩,fun k o' RQ=>?_⟩
 ·rcases Cc.1 RQ with e|e
  ·cases e;exact(Dq.1 ho).1
  ·have:=hx k ⟨o',e⟩;have:=hb.size;omega
 ·rcases Cc.1 RQ with e|e
  ·cases e;have:=hk.2;omega
  ·exact(h4 k hk.1).2 ⟨o',e⟩
 ·rcases Cc.1 RQ with e|e
  ·cases e;exact ho
  ·exact hs.at_ k o' e
theorem asi(h:Er B w0 w b y n N A L)(hb:Bw w w'){v:Value}(hr:Hz w' r v R (Co n))(hp:w.heap.size≤r):Duo B w0 w' b y n N A r R L:=by
 have hs:=h.step hb;obtain⟨⟨h1,h2,hx,bl,h3,h4⟩,ha⟩:=h;refine⟨⟨h1.trans (hb.mono h2),Aw h2 hb.size,fun k hk=>?_,fun k=>bl k∧k < w.heap.size,h3.shrink.below hb,fun k hk=>⟨(h4 k hk.1).1,fun I6=>?_⟩⟩,hs.at_,⟨v,hr⟩,fun o ho=>?_,Aw h2 hp⟩
 ·rcases hk with e|⟨o',RQ⟩
  ·subst e;exact Ao hr.1
  ·have:=hx k ⟨o',RQ⟩;have:=hb.size;omega
 ·rcases I6 with e|⟨o',RQ⟩
  ·have:=hk.2;omega
  ·exact(h4 k hk.1).2 ⟨o',RQ⟩
 ·have:=hx r ⟨o,ho⟩;omega
theorem Duo.k(h:Duo B w0 w b y n N A r R L):Er B w0 w b y n N A L:=by
 obtain⟨⟨h1,h2,hx,bl,h3,h4⟩,ha,_⟩:=h;exact⟨⟨h1,h2,fun k ⟨o,ho⟩=>hx k (.inr ⟨o,ho⟩),bl,h3,fun k hk=>⟨(h4 k hk).1,fun⟨o,ho⟩=>(h4 k hk).2 (.inr ⟨o,ho⟩)⟩⟩,ha⟩
def F6(y:Nat):Obj:=.cells #[.pointer (some ⟨y,0,none⟩)] 160
def F3(y:Nat):Obj:=.cells #[.pointer (some ⟨y,0,none⟩)] 162
theorem axL(n:Nat)(h8:8≤n)(hn:n≤16384)(w:World):Calls prog 38 #[.int .i64 (n:Int)] w fun e w'=>∃ b y p,e=.returned (.tuple #[.pointer (some ⟨y,0,none⟩),.pointer (some ⟨p,0,none⟩)])∧Er w.heap.size w w' b y n 0 [] [(p,F6 y)]:=by
 go_in
 go_wp2_with fail;refine(ayr n (by omega) (by omega)).mono ?_;rintro e w1⟨b,fp,rfl,OC,aiz,FU⟩;have Qm:=Hi OC;have HB1:=Hi aiz;have YU:=Hi FU;clear OC aiz FU;go_wp2_with fail;refine(ayi HB1 HB1.size (n:=n) h8 hn Qm YU).mono ?_;rintro e w2⟨y,rfl,h2⟩;have H2:=Hi h2;clear h2 Qm YU HB1;go_wp2_with fail;refine(alU y _).mono ?_;rintro e w3⟨p,rfl,hm,hp,Ap⟩;have H3:=Hi (pF (Er.of H2) Ap hp hm);clear Ap H2 hm hp;go_wp2;go_ret2;exact⟨b,y,p,rfl,H3⟩
end
section
variable {B:Nat}{w0 w w':World}{b y n N r p:Nat}{A A' R R':M}{L:List (Nat×Obj)}{a:Option Addr}{cap:Nat}
theorem Duo.more{N':Nat}(h:Duo B w0 w b y n N A r R L)(hN:N≤N'):Duo B w0 w b y n N' A r R L:=by
 obtain⟨bl,h1,_,h3⟩:=h.pick;exact h3 ⟨bl,h1.more hN,A7.refl _ _,fun k hk=>.inl hk⟩
theorem zO{l:List Am}(h:Duo B w0 w b y n N A r R L)(hN:N < 1000000000)(hL:Eb w a l)(hlen:l.length≤100000)(hok:∀ c∈l,c.name.length≤maxLen∧c.data.length≤maxLen)(V7:l.all Am.may=true→F8 l≤900000):
  Calls prog 17 #[.pointer (some ⟨y,0,none⟩),.slice a l.length cap] w fun e w'=>e=.returned (.int .i64 (FC n A l))∧Duo B w0 w' b y n (N+1) (En n A l) r R L:=by
 obtain⟨bl,h1,_,h3⟩:=h.pick;refine(ati h1 hN hL hlen hok V7).mono ?_;rintro e w'⟨c,rfl,C8,g1,g2,g3⟩;obtain⟨rfl,g4⟩:=g1.calm;exact⟨rfl,h3 ⟨C8,g4,g2,g3⟩⟩
theorem asl{l:List Am}(h:Duo B w0 w b y n N A r R L)(hu:Up R)(hn:n≤16384)(hA:used R≤Co n)(hL:Eb w a l)(hlen:l.length≤100000)(hok:∀ c∈l,c.name.length≤maxLen∧c.data.length≤maxLen)(V7:l.all Am.may=true→F8 l≤900000):
  Calls prog 44 #[.pointer (some ⟨r,0,none⟩),.slice a l.length cap] w fun e w'=>e=.returned (.int .i64 (FC n R l))∧Duo B w0 w' b y n N A r (En n R l) L:=by
 obtain⟨v,hv⟩:=h.rf;refine(azs hv hu hL hn hA hlen hok (fun e=>Aw (V7 e) (by omega))).mono ?_;rintro e w'⟨rfl,v',g1,g2⟩;exact⟨rfl,h.ref g1 g2⟩
theorem amu{K:Kind}(hK:K.BO){l:M}(h:Fits K l):∀ c∈ES K l,c.name.length≤maxLen∧c.data.length≤maxLen:=fun c hc=>by
 have h1:=MH.1 (ams hK h) c hc;unfold Am.may Fu at h1;simp only[Bool.and_eq_true,decide_eq_true_eq] at h1;unfold maxLen;omega
theorem amr(K:Kind)(l:M):(ES K l).length≤l.length:=by
 unfold ES;rw[BP];exact Aw (an0 _) (by rw[BP];exact Ae _)
theorem asj{l:M}(h:Duo B w0 w b y n N A r R L)(hN:N < 1000000000)(hp:(p,F6 y)∈L)(D9:∀ k,Ag.get A (Ah.nm k)=none)(hk:Bf w a l)(hl:l.length≤20)(hs:JM l≤262144)(FL:∀ j name,Small (BM Ah (l.take j) name)):
  Calls prog 40 #[.pointer (some ⟨p,0,none⟩),.slice a l.length cap] w fun e w'=>e=.returned (.int .i64 (H9 Ah n A l).1)∧Duo B w0 w' b y n (N+1) (H9 Ah n A l).2 r R L:=by
 obtain⟨bl,h1,_,_⟩:=h.pick;have RZ:F8 (ES Ah l)≤900000:=by
  have h2:=nD JL l;have h3:=agL l;omega
 refine(ayc (Q:=fun c w'=>c=(H9 Ah n A l).1∧Duo B w0 w' b y n (N+1) (H9 Ah n A l).2 r R L) (h.at_ _ _ hp) (qN h1) D9 hk (by omega) (fun x hx=>by have:=amo l x hx;omega) FL (fun W hb=>aa6 (h1.below hb)) (fun hf w' hb=>?_) (fun hf W q c hb hc=>?_)).mono ?_
 ·unfold H9;rw[Ab hf];exact⟨rfl,(h.step hb).more (by omega)⟩
 ·have PN:=amr Ah l;refine(zO (h.step hb) hN hc (by omega) (amu JL hf) (fun _=>RZ)).mono ?_;rintro e w'⟨rfl,g⟩;refine⟨_,rfl,?_⟩;unfold H9;rw[Ad hf];exact⟨rfl,g⟩
 ·rintro e w' ⟨c,rfl,rfl,g⟩;exact⟨rfl,g⟩
theorem asn{l:M}(h:Duo B w0 w b y n N A r R L)(hu:Up R)(hn:n≤16384)(hA:used R≤Co n)(D9:∀ k,Ag.get R (Ah.nm k)=none)(hk:Bf w a l)(hl:l.length≤20)(hs:JM l≤262144)(FL:∀ j name,Small (BM Ah (l.take j) name)):
  Calls prog 41 #[.pointer (some ⟨r,0,none⟩),.slice a l.length cap] w fun e w'=>e=.returned (.int .i64 (H9 Ah n R l).1)∧Duo B w0 w' b y n N A r (H9 Ah n R l).2 L:=by
 obtain⟨v,hv⟩:=h.rf;refine(aA5 hv hu D9 hn hA hk hl (fun x hx=>by have:=amo l x hx;omega) FL).mono ?_;rintro e w'⟨rfl,v',g1,g2⟩;exact⟨rfl,h.ref g1 g2⟩
theorem asq{l:Us}(h:Duo B w0 w b y n N A r R L)(hN:N < 1000000000)(hp:(p,F3 y)∈L)(D9:∀ k,Ag.get A (Aa.nm k)=none)(hk:MX w a l)(hl:l.length≤20)(Gl:∀ u∈l,u.2.length≤30)(hs:IE l≤16384)(FL:∀ j name,Small (BM Aa (BA (l.take j)) name)):
  Calls prog 42 #[.pointer (some ⟨p,0,none⟩),.slice a l.length cap] w fun e w'=>e=.returned (.int .i64 (Ie n A l).1)∧Duo B w0 w' b y n (N+1) (Ie n A l).2 r R L:=by
 obtain⟨bl,h1,_,_⟩:=h.pick;have RZ:MW l→F8 (ES Aa (BA l))≤900000:=fun hr=>by
  have h2:=nD GD (BA l);have h3:=aCb hr;rw[P5] at h2;omega
 refine(ash (Q:=fun c w'=>c=(Ie n A l).1∧Duo B w0 w' b y n (N+1) (Ie n A l).2 r R L) (h.at_ _ _ hp) (qN h1) D9 hk (by omega) (fun x hx=>⟨by have:=aol l x hx;omega,by have:=Gl x hx;omega⟩) FL (fun W hb=>aa6 (h1.below hb)) (fun hf w' hb=>?_) (fun hf W q c hb hc=>?_)).mono ?_
 ·have e:Ie n A l=(5,A):=by
   unfold Ie H9;by_cases hr:MW l
   ·rw[Ad hr,Ab (fun g=>hf ⟨hr,g⟩)]
   ·rw[Ab hr]
  rw[e];exact⟨rfl,(h.step hb).more (by omega)⟩
 ·have PN:=amr Aa (BA l);rw[P5] at PN;refine(zO (h.step hb) hN hc (by omega) (amu GD hf.2) (fun _=>RZ hf.1)).mono ?_;rintro e w'⟨rfl,g⟩;refine⟨_,rfl,?_⟩;unfold Ie H9;rw[Ad hf.1,Ad hf.2];exact⟨rfl,g⟩
 ·rintro e w' ⟨c,rfl,rfl,g⟩;exact⟨rfl,g⟩
theorem aso{l:Us}(h:Duo B w0 w b y n N A r R L)(hu:Up R)(hn:n≤16384)(hA:used R≤Co n)(D9:∀ k,Ag.get R (Aa.nm k)=none)(hk:MX w a l)(hl:l.length≤20)(Gl:∀ u∈l,u.2.length≤30)(hs:IE l≤16384)(FL:∀ j name,Small (BM Aa (BA (l.take j)) name)):
  Calls prog 43 #[.pointer (some ⟨r,0,none⟩),.slice a l.length cap] w fun e w'=>e=.returned (.int .i64 (Ie n R l).1)∧Duo B w0 w' b y n N A r (Ie n R l).2 L:=by
 obtain⟨v,hv⟩:=h.rf;refine(aAa hv hu D9 hn hA hk hl (fun x hx=>⟨by have:=aol l x hx;omega,by have:=Gl x hx;omega⟩) FL).mono ?_;rintro e w'⟨rfl,v',g1,g2⟩;exact⟨rfl,h.ref g1 g2⟩
theorem alF{l:List Am}(h:l.all Am.may=true)(IZ:l.length≤10)(hd:LB l≤4096):F8 l≤900000:=by
 have key:∀ l:List Am,l.all Am.may=true→F8 l≤40*l.length+LB l:=by
  intro l
  induction l with
  |nil=>intro _;exact AV _
  |cons c l ih=>
   intro h;rw[List.all_cons,Bool.and_eq_true] at h;have h1:=ih h.2;have h2:=h.1;unfold Am.may Fu at h2;simp only[Bool.and_eq_true,decide_eq_true_eq] at h2;have e1:F8 (c :: l)=(8+c.name.length+c.data.length)+F8 l:=rfl;have e2:LB (c :: l)=c.data.length+LB l:=rfl;rw[e1,e2,BG];omega
 have:=key l h;omega
theorem ahV{K:Kind}{l:M}{name:T}{C:Nat}(hl:l.length≤1000)(hc:CW l≤C)(hC:C≤900000000):Small (BM K l name):=by
 have hn:(BM K l name).Nodup:=List.nodup_iff_pairwise_ne.2 ((show List.Pairwise (fun a b:T×T=>a.1 < b.1) (BM K l name) from Tg l name).imp fun {a b} (h:a.1 < b.1) (e:a=b)=>KZ h (congrArg Prod.fst e));have hs:∀ x∈BM K l name,x∈l:=fun x hx=>(qQ l name x hx).2
 have h1:=aR (fun _=>1) _ _ hn hs;have h2:=aR (fun q:T×T=>4+q.1.length+q.2.length) _ _ hn hs;have e:∀ l:M,(l.map fun _=>1).sum=l.length:=fun l=>by
  induction l with
  |nil=>rfl
  |cons x l ih=>rw[Ca,DR,ih,BG];omega
 rw[e,e] at h1;have h3:CW (BM K l name)≤CW l:=h2;refine⟨by omega,?_⟩;rw[qA];omega
theorem zQ(l:M)(j:Nat):CW (l.take j)≤CW l:=by
 have h:CW l=CW (l.take j)+CW (l.drop j):=by
  conv=>lhs;rw[←MK j l]
  unfold CW;rw[CK,Lg]
 omega
theorem aot(l:Us):CW (BA l)≤6*l.length+16*IE l:=by
 induction l with
 |nil=>exact AV _
 |cons u l ih=>
  have h2:(Qf u).2.length≤2+16*Nl u.2:=by
   by_cases h:(D8 (Bi u.2)).2=0
   ·exact aon h
   ·have:(Qf u).2=[]:=by
     show(D8 (Bi u.2)).1=[]
     unfold D8 at h ⊢;cases hr:GN (Bi u.2) with
     |none=>rfl
     |some s=>rw[hr] at h;exact absurd rfl h
    rw[this];exact AV _
  have e1:CW (BA (u :: l))=(4+u.1.length+(Qf u).2.length)+CW (BA l):=rfl;have e2:IE (u :: l)=(u.1.length+Nl u.2)+IE l:=rfl;rw[e1,e2,BG];omega
theorem anG{l:M}(hl:l.length≤20)(hs:JM l≤262144)(j:Nat)(name:T):Small (BM Ah (l.take j) name):=by
 have h1:=zQ l j;have h2:=agL l;exact ahV (by rw[AZ];omega) (Aw h1 (Ae _)) (by omega)
theorem anH{l:Us}(hl:l.length≤20)(hs:IE l≤16384)(j:Nat)(name:T):Small (BM Aa (BA (l.take j)) name):=by
 rw[wu];have h1:=zQ (BA l) j;have h2:=aot l;exact ahV (by rw[AZ,P5];omega) (Aw h1 (Ae _)) (by omega)
def fF(n:Nat)(l:M)(us:Us)(fs:List Am):M:=En n (Ie n (H9 Ah n [] l).2 us).2 fs
theorem Er.lower{B2:Nat}{w2:World}(h:Er B w0 w b y n N A L)(hb:Below B2 w2 w0)(hB:B2≤B):Er B2 w2 w b y n N A L:=by
 obtain⟨⟨h1,h2,hx,bl,h3,h4⟩,ha⟩:=h;exact⟨⟨hb.trans (h1.mono hB),Aw hB h2,hx,bl,h3,fun k hk=>⟨Aw hB (h4 k hk).1,(h4 k hk).2⟩⟩,ha⟩
end
def J7(y p d r:Nat):Obj:=.cells #[.pointer (some ⟨y,0,none⟩),.pointer (some ⟨p,0,none⟩),.pointer (some ⟨d,0,none⟩),.pointer (some ⟨r,0,none⟩)] 47
theorem alA{n:Nat}{a ua fa:Option Addr}{cap uc fc:Nat}{l:M}{us:Us}{fs:List Am}{w:World}(PZ:pq n l us fs)(hL:Bf w a l)(hU:MX w ua us)(hF:Eb w fa fs)(UO:∀ c∈fs,c.name.length≤maxLen∧c.data.length≤maxLen):
  Calls prog 12 #[.agg #[.int .i64 (n:Int),.slice a l.length cap,.slice ua us.length uc,.slice fa fs.length fc]] w fun e w'=>∃ b y p d r xb,e=.returned (.tuple #[.pointer (some ⟨xb,0,none⟩),.bool true])∧Er w.heap.size w w' b y n 3 (fF n l us fs) [(xb,J7 y p d r),(d,F3 y),(p,F6 y)]:=by
 have Ii:=Hi PZ;have HL:=Hi hL;have HU:=Hi hU;have HF:=Hi hF;have iH:=Hi UO;have h8:8≤n:=by have:=PZ.n8;omega
 have ahZ:n≤200:=by have:=PZ.n200;omega
 clear PZ hL hU hF UO
 go_in
 go_wp2_with fail;have AR:=Hi (AU w (.cells #[.int .i64 (n:Int),.slice a l.length cap,.slice ua us.length uc,.slice fa fs.length fc] 34));have hx:=AQ w (.cells #[.int .i64 (n:Int),.slice a l.length cap,.slice ua us.length uc,.slice fa fs.length fc] 34);generalize lF:w.alloc (.cells #[.int .i64 (n:Int),.slice a l.length cap,.slice ua us.length uc,.slice fa fs.length fc] 34)=wa at*;have HX:Hid (∀ wr,Bw wa wr→wr.cell? ⟨w.heap.size,0,none⟩=some (.int .i64 (n:Int))∧wr.cell? ⟨w.heap.size,1,none⟩=some (.slice a l.length cap)∧wr.cell? ⟨w.heap.size,2,none⟩=some (.slice ua us.length uc)∧wr.cell? ⟨w.heap.size,3,none⟩=some (.slice fa fs.length fc)):=Hi fun wr hb=>by
  have hk:w.heap.size < wa.heap.size:=(Dq.1 hx).1;refine⟨(hb.cell (p:=⟨w.heap.size,0,none⟩) hk).trans ?_,(hb.cell (p:=⟨w.heap.size,1,none⟩) hk).trans ?_,(hb.cell (p:=⟨w.heap.size,2,none⟩) hk).trans ?_,(hb.cell (p:=⟨w.heap.size,3,none⟩) hk).trans ?_⟩<;>(unfold World.cell?;rw[hx];rfl)
 clear lF hx;refine(axL n h8 (by omega) wa).mono ?_;rintro e w1⟨b,y,p,rfl,h1⟩;have H1:=Hi h1;clear h1;go_wp2_with fail;refine(agC y w1).mono ?_;rintro e w2⟨d,rfl,hd,hdp,Ac⟩;have H2:=Hi (pF H1 Ac hdp (o:=F3 y) hd);clear hd hdp Ac H1;obtain⟨c0,c1,c2,c3⟩:=HX _ H2.AO;go_wp2_with fail;refine(azU n h8 (by omega) w2).mono ?_;rintro e w3⟨r,rfl,hr,hrp,Ap⟩;have H3:=Hi (asi H2 Ap hr hrp);clear hr hrp Ap H2 c0 c1 c2 c3;have H4:=Hi (H3.new (J7 y p d r));have HC:Hid (∀ (W:World) (N:Nat) (A R:M),Duo wa.heap.size wa W b y n N A r R [(w3.heap.size,J7 y p d r),(d,F3 y),(p,F6 y)]→W.cell? ⟨w.heap.size,1,none⟩=some (.slice a l.length cap)∧W.cell? ⟨w.heap.size,2,none⟩=some (.slice ua us.length uc)∧W.cell? ⟨w.heap.size,3,none⟩=some (.slice fa fs.length fc)∧W.cell? ⟨w3.heap.size,3,none⟩=some (.pointer (some ⟨r,0,none⟩))):=Hi fun W N A R h=>by
  obtain⟨_,x1,x2,x3⟩:=HX _ h.AO;exact⟨x1,x2,x3,by have:=h.cell (k:=w3.heap.size) (t:=47) (Gf) 3;exact this⟩
 have YX:Hid (∀ (W:World) (R:M),Duo wa.heap.size wa W b y n 0 [] r R [(w3.heap.size,J7 y p d r),(d,F3 y),(p,F6 y)]→Calls prog 40 #[.pointer (some ⟨p,0,none⟩),.slice a l.length cap] W fun e w'=>e=.returned (.int .i64 (H9 Ah n [] l).1)∧Duo wa.heap.size wa w' b y n 1 (H9 Ah n [] l).2 r R [(w3.heap.size,J7 y p d r),(d,F3 y),(p,F6 y)]):=Hi fun W R h=>
  asj h (by omega) (by simp) (fun k=>rfl) (HL.below (AR.trans (h.AO.mono AR.size))) Ii.tX Ii.u6 (anG Ii.tX Ii.u6)
 have Ff:Hid (∀ (W:World) (N:Nat) (A:M),Duo wa.heap.size wa W b y n N A r [] [(w3.heap.size,J7 y p d r),(d,F3 y),(p,F6 y)]→Calls prog 41 #[.pointer (some ⟨r,0,none⟩),.slice a l.length cap] W fun e w'=>e=.returned (.int .i64 (H9 Ah n [] l).1)∧Duo wa.heap.size wa w' b y n N A r (H9 Ah n [] l).2 [(w3.heap.size,J7 y p d r),(d,F3 y),(p,F6 y)]):=Hi fun W N A h=>
  asn h Up.nil (by omega) (by unfold Co sz lg;show 4≤_;omega) (fun k=>rfl) (HL.below (AR.trans (h.AO.mono AR.size))) Ii.tX Ii.u6 (anG Ii.tX Ii.u6)
 obtain⟨⟨k1,A1⟩,dE⟩:=ex (H9 Ah n [] l);rw[dE] at YX Ff;dsimp only at YX Ff;obtain⟨x1,x2,x3,x4⟩:=HC _ _ _ _ H4.out;have awD:=(Dq.1 (H4.at_ _ _ (Gf))).1;obtain⟨w4,IP⟩:=ex (w3.alloc (J7 y p d r));rw[IP] at H4 x1 x2 x3 x4 awD;go_upto_region 8 with fail
 rw[show w3.alloc (.cells #[.pointer (some ⟨y,0,none⟩),.pointer (some ⟨p,0,none⟩),.pointer (some ⟨d,0,none⟩),.pointer (some ⟨r,0,none⟩)] 47)=w4 from IP];clear IP H3 x1 x2 x3 x4;generalize w3.heap.size=xb at*
 go_cut [9] from 37 to 48 (fun s9 wx=>s9=.bool true∧Duo wa.heap.size wa wx b y n 1 A1 r A1 [(xb,J7 y p d r),(d,F3 y),(p,F6 y)])
 case first=>
  obtain⟨x1,x2,x3,x4⟩:=HC _ _ _ _ H4.out;refine aW ?_
  go_region_law
   (first
    |(go_simp;go_at_call 40;refine(YX _ _ (H4.step ((Ai _ _).drew))).mono ?_;rintro e wA ⟨rfl,hA⟩;have HA:=Hi hA;obtain⟨xA1,nJ,nK,nL⟩:=HC _ _ _ _ hA;clear hA;go_wp2_with fail)
    |(go_simp;go_at_call 41;refine(Ff _ _ _ (H4.step ((Ai _ _).drew))).mono ?_;rintro e wB ⟨rfl,hA⟩;have HB:=Hi hA;obtain⟨xA1,nJ,nK,nL⟩:=HC _ _ _ _ hA;clear hA;go_wp2_with fail)
    |(go_simp;go_at_call 41;refine(Ff _ _ _ HA).mono ?_;rintro e wE ⟨rfl,hA⟩;have HE:=Hi hA;obtain⟨xE1,xE2,xE3,nM⟩:=HC _ _ _ _ hA;clear hA;go_wp2_with fail)
    |(go_simp;go_at_call 40;refine(YX _ _ HB).mono ?_;rintro e wE ⟨rfl,hA⟩;have HE:=Hi hA;obtain⟨xE1,xE2,xE3,nM⟩:=HC _ _ _ _ hA;clear hA;go_wp2_with fail))
  all_goals
   dsimp only[Yt];go_wp2_with fail;go_meet
   case rel=>exact⟨by simp,HE⟩
 case rest=>
  obtain⟨rfl,h5⟩:=hcut;have H5:=Hi h5;clear h5 YX Ff H4;have aas:A1=(H9 Ah n [] l).2:=by rw[dE]
  have YU:=Hi (show ∀ k,Ag.get A1 (Aa.nm k)=none from by rw[aas];exact am2 GD JL (fun x h1 h2=>Jz.apart x h2 h1) Up.nil (fun k=>rfl) l);have MU:=Hi (fK H5.k);have bF:=Hi aas;clear aas;have KE:Hid (∀ (W:World) (R:M),Duo wa.heap.size wa W b y n 1 A1 r R [(xb,J7 y p d r),(d,F3 y),(p,F6 y)]→Calls prog 42 #[.pointer (some ⟨d,0,none⟩),.slice ua us.length uc] W fun e w'=>e=.returned (.int .i64 (Ie n A1 us).1)∧Duo wa.heap.size wa w' b y n 2 (Ie n A1 us).2 r R [(xb,J7 y p d r),(d,F3 y),(p,F6 y)]):=Hi fun W R h=>
   asq h (by omega) (by simp) YU (HU.below (AR.trans (h.AO.mono AR.size))) Ii.u20 Ii.uks Ii.vW (anH Ii.u20 Ii.vW)
  have BX:Hid (∀ (W:World) (N:Nat) (A:M),Duo wa.heap.size wa W b y n N A r A1 [(xb,J7 y p d r),(d,F3 y),(p,F6 y)]→Calls prog 43 #[.pointer (some ⟨r,0,none⟩),.slice ua us.length uc] W fun e w'=>e=.returned (.int .i64 (Ie n A1 us).1)∧Duo wa.heap.size wa w' b y n N A r (Ie n A1 us).2 [(xb,J7 y p d r),(d,F3 y),(p,F6 y)]):=Hi fun W N A h=>
   aso h MU.1 (by omega) MU.2.2 YU (HU.below (AR.trans (h.AO.mono AR.size))) Ii.u20 Ii.uks Ii.vW (anH Ii.u20 Ii.vW)
  obtain⟨⟨k2,A2⟩,hA2⟩:=ex (Ie n A1 us);rw[hA2] at KE BX;dsimp only at KE BX;go_upto_region 9 with fail
  go_cut [9] from 49 to 63 (fun s9 wx=>s9=.bool true∧Duo wa.heap.size wa wx b y n 2 A2 r A2 [(xb,J7 y p d r),(d,F3 y),(p,F6 y)])
  case first=>
   obtain⟨x1,x2,x3,x4⟩:=HC _ _ _ _ H5.out;refine aW ?_
   go_region_law
    (first
     |(go_simp;go_at_call 42;refine(KE _ _ (H5.step ((Ai _ _).drew))).mono ?_;rintro e wA ⟨rfl,hA⟩;have HA:=Hi hA;obtain⟨xA1,nJ,nK,nL⟩:=HC _ _ _ _ hA;clear hA;go_wp2_with fail)
     |(go_simp;go_at_call 43;refine(BX _ _ _ (H5.step ((Ai _ _).drew))).mono ?_;rintro e wB ⟨rfl,hA⟩;have HB:=Hi hA;obtain⟨xA1,nJ,nK,nL⟩:=HC _ _ _ _ hA;clear hA;go_wp2_with fail)
     |(go_simp;go_at_call 43;refine(BX _ _ _ HA).mono ?_;rintro e wE ⟨rfl,hA⟩;have HE:=Hi hA;obtain⟨xE1,xE2,xE3,nM⟩:=HC _ _ _ _ hA;clear hA;go_wp2_with fail)
     |(go_simp;go_at_call 42;refine(KE _ _ HB).mono ?_;rintro e wE ⟨rfl,hA⟩;have HE:=Hi hA;obtain⟨xE1,xE2,xE3,nM⟩:=HC _ _ _ _ hA;clear hA;go_wp2_with fail))
   all_goals
    dsimp only[Yt];go_wp2_with fail;go_meet
    case rel=>exact⟨by simp,HE⟩
  case rest=>
   obtain⟨rfl,h6⟩:=hcut;have H6:=Hi h6;clear h6 KE BX H5;have RA:=Hi (fK H6.k);have bG:=Hi (show A2=(Ie n A1 us).2 by rw[hA2]);have IK:fs.length≤100000:=(by have:=Ii.f10;omega);have SQ:Hid (∀ (W:World) (R:M),Duo wa.heap.size wa W b y n 2 A2 r R [(xb,J7 y p d r),(d,F3 y),(p,F6 y)]→Calls prog 17 #[.pointer (some ⟨y,0,none⟩),.slice fa fs.length fc] W fun e w'=>e=.returned (.int .i64 (FC n A2 fs))∧Duo wa.heap.size wa w' b y n 3 (En n A2 fs) r R [(xb,J7 y p d r),(d,F3 y),(p,F6 y)]):=Hi fun W R h=>
    zO h (by omega) (HF.below (AR.trans (h.AO.mono AR.size))) IK iH (fun e=>alF e Ii.f10 Ii.ahm)
   have MS:Hid (∀ (W:World) (N:Nat) (A:M),Duo wa.heap.size wa W b y n N A r A2 [(xb,J7 y p d r),(d,F3 y),(p,F6 y)]→Calls prog 44 #[.pointer (some ⟨r,0,none⟩),.slice fa fs.length fc] W fun e w'=>e=.returned (.int .i64 (FC n A2 fs))∧Duo wa.heap.size wa w' b y n N A r (En n A2 fs) [(xb,J7 y p d r),(d,F3 y),(p,F6 y)]):=Hi fun W N A h=>
    asl h RA.1 (by omega) RA.2.2 (HF.below (AR.trans (h.AO.mono AR.size))) IK iH (fun e=>alF e Ii.f10 Ii.ahm)
   have X6:=Hi (show En n A2 fs=fF n l us fs by unfold fF;rw[←bF.out,←bG.out]);generalize FC n A2 fs=k3 at*;generalize En n A2 fs=A3 at*;clear dE hA2 IK;go_upto_region 10 with fail
   go_cut [9] from 64 to 78 (fun s9 wx=>s9=.bool true∧Duo wa.heap.size wa wx b y n 3 A3 r A3 [(xb,J7 y p d r),(d,F3 y),(p,F6 y)])
   case first=>
    obtain⟨x1,x2,x3,x4⟩:=HC _ _ _ _ H6.out;refine aW ?_
    go_region_law
     (first
      |(go_simp;go_at_call 17;refine(SQ _ _ (H6.step ((Ai _ _).drew))).mono ?_;rintro e wA ⟨rfl,hA⟩;have HA:=Hi hA;obtain⟨xA1,nJ,nK,nL⟩:=HC _ _ _ _ hA;clear hA;go_wp2_with fail)
      |(go_simp;go_at_call 44;refine(MS _ _ _ (H6.step ((Ai _ _).drew))).mono ?_;rintro e wB ⟨rfl,hA⟩;have HB:=Hi hA;obtain⟨xA1,nJ,nK,nL⟩:=HC _ _ _ _ hA;clear hA;go_wp2_with fail)
      |(go_simp;go_at_call 44;refine(MS _ _ _ HA).mono ?_;rintro e wE ⟨rfl,hA⟩;have HE:=Hi hA;obtain⟨xE1,xE2,xE3,nM⟩:=HC _ _ _ _ hA;clear hA;go_wp2_with fail)
      |(go_simp;go_at_call 17;refine(SQ _ _ HB).mono ?_;rintro e wE ⟨rfl,hA⟩;have HE:=Hi hA;obtain⟨xE1,xE2,xE3,nM⟩:=HC _ _ _ _ hA;clear hA;go_wp2_with fail))
    all_goals
     dsimp only[Yt];go_wp2_with fail;go_meet
     case rel=>exact⟨by simp,HE⟩
   case rest=>
    obtain⟨rfl,h7⟩:=hcut;have H7:=Hi (Er.lower h7.k AR AR.size);clear h7 SQ MS H6;rw[X6.out] at H7;go_wp2;go_ret2;exact⟨b,y,p,d,r,xb,rfl,H7⟩
def P6(A:M):M:=(Bn Ah A).map fun k=>(k,(NJ Ah A k).1)
def YE(A:M):Us:=(Bn Aa A).map fun r=>(r,(LC A r).1)
def Qe(L:List (T×Value)):List Value:=L.flatMap fun x=>[.string (bs x.1),x.2]
theorem aBZ(L:List (T×Value))(x:T×Value):Qe (L++[x])=Qe L++[.string (bs x.1),x.2]:=by
 unfold Qe;rw[MJ];rfl
theorem aBY(L:List (T×Value))(i:Nat)(h:i < L.length):(Qe L)[i*2]?=some (.string (bs L[i].1))∧(Qe L)[i*2+1]?=some L[i].2:=by
 induction L generalizing i with
 |nil=>simp at h
 |cons x L ih=>
  cases i with
  |zero=>exact⟨rfl,rfl⟩
  |succ i=>
   have e:Qe (x :: L)=.string (bs x.1) :: x.2 :: Qe L:=rfl;have h1:=ih i (by simpa using h);rw[e,show(i+1)*2=i*2+1+1 by omega];exact h1
structure Lu(w:World)(base:Nat)(v:Value)(us:Us)(L:List (T×Value)):Prop where
 row:w.ownsRow base 63 2 v L.length (Qe L)
 len:L.length=us.length
 each:∀ i (h:i < L.length) (h2:i < us.length),L[i].1=us[i].1∧Ar.Bq w base L[i].2 us[i].2
section
variable {w w':World}{base:Nat}{v:Value}{us:Us}{L:List (T×Value)}
theorem Lu.upd{F:Nat→Prop}(h:Lu w base v us L)(hu:A7 F w w')(h1:∀ k,Bb w k 63→¬ F k)(h2:∀ k,Bb w k 9→¬ F k):Lu w' base v us L:=
 ⟨Bv h.row hu (fun k hk e=>h1 k (Cn h.row hk) e),h.len,fun i hi JG=>⟨(h.each i hi JG).1,Bv (h.each i hi JG).2 hu (fun k hk e=>h2 k (Cn (h.each i hi JG).2 hk) e)⟩⟩
theorem Lu.below(h:Lu w base v us L)(hb:Bw w w'):Lu w' base v us L:=h.upd (ub hb) (fun _ _ f=>f) (fun _ _ f=>f)
theorem Lu.at_{q:Option Addr}{n c:Nat}(h:Lu w base (.slice q n c) us L):MX w q us:=fun i hi=>by
 have JG:i < L.length:=by rw[h.len];exact hi
 obtain⟨h1,h2⟩:=h.each i JG hi;rcases h.row.2 with⟨e0,h0⟩|⟨g,cap,cur,e0,hb,hg,hn,hm,hs,ht⟩
 ·omega
 ·injection e0 with e1 e2 e3
  subst e1;have hc:∀ j,j < 2→∀ v,(Qe L)[i*2+j]?=some v→w.cell? (((⟨g,0,none⟩:Addr).add (i*2)).add j)=some v:=fun j hj v hv=>by
   have e1:(cur.toList.take (L.length*2))[i*2+j]?=(Qe L)[i*2+j]? :=(by rw[ht]);rw[List.getElem?_take,Ad (by omega),Dy,hv] at e1;rw[add_plain,VP];simp only[World.cell?,hg,Ha];simp only[Option.isSome_none,Bool.false_eq_true,if_false];exact e1
  obtain⟨u1,u2⟩:=aBY L i JG;refine⟨_,rfl,?_,?_⟩
  ·have:=hc 0 (by omega) _ u1;rw[add_zero'] at this;rw[←h1];exact this
  ·have h3:=hc 1 (by omega) _ u2;obtain⟨kq,kc,e⟩:=Bo h2;rw[add_plain,VP] at h3;rw[e] at h3 h2;refine⟨kq,kc,?_,Hr h2,fun e=>?_⟩
   ·rw[add_plain];exact h3
   ·rcases h2.2 with⟨e4,_⟩|⟨g,cap',cur,e4,_⟩
    ·injection e4
    ·injection e4 with e5 e6 e7
     rw[e] at e5;cases e5
theorem Lu.snoc{w2:World}(h:Lu w base v us L){x:T×Value}{u:T×List T}{v2:Value}(hx:x.1=u.1)(hr:Ar.Bq w base x.2 u.2){F:Nat→Prop}(hu:A7 F w w2)(h2:∀ k,Bb w k 9→¬ F k)(Af:w2.ownsRow base 63 2 v2 (L.length+1) (Qe L++[.string (bs x.1),x.2])):Lu w2 base v2 (us++[u]) (L++[x]):=by
 have hk:∀ {s:Value} {l:List T},Ar.Bq w base s l→Ar.Bq w2 base s l:=fun hs=>Bv hs hu (fun k hk e=>h2 k (Cn hs hk) e)
 refine⟨by rw[aBZ,AA];exact Af,by rw[AA,AA,h.len];rfl,fun i hi JG=>?_⟩;by_cases e:i < L.length
 ·rw[Sw e,Sw (by rw[←h.len];exact e)];obtain⟨g1,g2⟩:=h.each i e (by rw[←h.len];exact e);exact⟨g1,hk g2⟩
 ·rw[AA,Le] at hi;obtain rfl:i=L.length:=by omega
  rw[Vo (Ae _)];have e3:(us++[u])[L.length]'JG=u:=by
   rw[Vo (by rw[h.len];exact Ae _)];simp[h.len]
  rw[e3];simp only[Nat.sub_self,List.getElem_cons_zero];exact⟨hx,hk hr⟩
end
theorem wG(A:M):(P6 A).length=(Bn Ah A).length:=by unfold P6;rw[BP]
theorem adS(A:M):(YE A).length=(Bn Aa A).length:=by unfold YE;rw[BP]
theorem aCB(A:M)(k:Nat)(h:k < (Bn Ah A).length):(P6 A).take (k+1)=(P6 A).take k++[((Bn Ah A)[k],(NJ Ah A (Bn Ah A)[k]).1)]:=by
 rw[Cx (by rw[wG];exact h)]
 congr 2
 unfold P6;rw[List.getElem_map]
theorem aC9(A:M)(k:Nat)(h:k < (Bn Aa A).length):(YE A).take (k+1)=(YE A).take k++[((Bn Aa A)[k],(LC A (Bn Aa A)[k]).1)]:=by
 rw[Cx (by rw[adS];exact h)]
 congr 2
 unfold YE;rw[List.getElem_map]
theorem afF{w:World}{pm pd y:Nat}{A:M}(hm:Gi w pm y)(hd:EN w pd y)(hf:He w y A)(Es:Oc A):
  Calls prog 13 #[.pointer (some ⟨pm,0,none⟩),.pointer (some ⟨pd,0,none⟩)] w fun e w'=>∃ v1 v2 L,e=.returned (.tuple #[v1,v2])∧BJ w' w.heap.size v1 (P6 A)∧Lu w' w.heap.size v2 (YE A) L∧Bw w w':=by
 obtain⟨i0,Bl,AY,Ba,Be⟩:=DC Rb;obtain⟨j0,hj0,fC,O1,ak⟩:=DC aoo;have HM:=Hi hm;have HD:=Hi hd;have HF:=Hi hf;have Nz:=Hi Es;have KD:=Hi (show(Bn Ah A).length≤1000000 from by rw[av (K:=Ah) hf.up];exact Es.fJ);have Il:=Hi (show(Bn Aa A).length≤1000000 from by rw[av (K:=Aa) hf.up];exact Es.ji);clear hm hd hf Es
 go_in
 go_wp2_with fail;refine(alT HM HF Nz.fJ).mono ?_;rintro e w1⟨v1,rfl,Q0,Aj⟩;obtain⟨kq,kc,rfl⟩:=Bo Q0;have Ff:=Hi Q0;have HB1:=Hi Aj;clear Q0 Aj;go_wp2
 go_loopw [6,8] (fun s6 s8 wr=>∃ (k:Nat) (q:Option Addr) (c:Nat),k≤(Bn Ah A).length∧s6=.slice q k c∧s8=.int .i64 (k:Int)∧wr.ownsRow w1.heap.size 51 2 (.slice q k c) k (Dm ((P6 A).take k))∧Bw w1 wr) (fun _ s8 _=>(Bn Ah A).length -(intOf s8).toNat)
 case atStart=>exact⟨0,none,0,AV _,rfl,rfl,by rw[Gg,QC];exact DZ _ _ _ _,Ai _ _⟩
 case round=>
  obtain⟨k,q,c,hk,rfl,rfl,Af,hb⟩:=hrel;have Ck:=Hi Af;have HB:=Hi hb;have Ak:=bH HB1 hb;have Dw:=KD.out;clear Af;by_cases hlt:k < (Bn Ah A).length
  ·obtain⟨a,Cs,c0⟩:=(Hr (Cg Ff hb)).index kc k hlt;have Bh:=Hi (aCB A k hlt);have dX:=Nz.alS _ (CQ hlt);have HG:=Hi (alQ (HM.below Ak) (HF.below Ak).gets (Bn Ah A)[k] (by omega));clear hb;generalize (Bn Ah A)[k]=key at*;obtain⟨⟨gv,gis,ge⟩,Nc⟩:=ex (NJ Ah A key);rw[Nc] at Bh HG;dsimp only at Bh HG;clear Nc;go_wp2_with fail;refine HG.mono ?_;rintro e w3⟨rfl,Ap⟩;have c03:=(Ap.cell (Cr c0)).trans c0;have Au:=bH HB Ap;have VH:=bH Ak Ap;have Pq:=Hi (Bv Ck (ub Ap) (fun _ _ f=>f));clear Ap c0;go_wp2_with (at_builtin;refine wpList_append_own_at _ rfl _ _ 30 rfl w1.heap.size 51 i0 _ 2 32 underlying30 Bl AY Ba Be rfl (by decide) _ k _ rfl (Pq.alloc _) ⟨w3.heap.size,0,none⟩ 1 1 [.string (bs key),.string (bs gv)] rfl rfl (by intro j u hj;rw[add_plain,E5];exact(Dy▸hj)) (by simp[Value.oneCell']) (by unfold maxLen;omega) (by omega) (by have:=Au.size;simp;omega) ?_;intro v' w4 Cb AJ _ hat;obtain⟨g',cap',rfl⟩:=ownsRow_succ Cb;have HO:=Hi Cb;have Dg:=Hi AJ;clear Cb AJ hat);go_roundw
   case rel=>
    refine⟨k+1,some ⟨g',0,none⟩,cap',by omega,rfl,by go_num,?_,(Au.alloc Au.size _).grown Dg (by rw[Ay];have:=Au.size;omega) (fun j hj=>E9 Pq hj)⟩;rw[Bh.out,Td];exact HO.out
   case measure=>
    show(Bn Ah A).length -((k:Int)+1).toNat < (Bn Ah A).length -((k:Int)).toNat
    omega
  ·obtain rfl:k=(Bn Ah A).length:=(by omega);have Af:=Ck.out;rw[Gu (by rw[wG];exact Ae _)] at Af
   have SS:=Hi (show BJ wr w.heap.size (.slice q (Bn Ah A).length c) (P6 A) from by
    have h2:=EA Af HB1.size;unfold BJ;rw[wG];exact h2)
   clear Af hb Ck;go_wp2_with fail;refine(agK (HD.below Ak) (HF.below Ak) Nz.ji).mono ?_;rintro e w5⟨v5,rfl,Kg,BF⟩;obtain⟨rq,rc,rfl⟩:=Bo Kg;have KH:=Hi Kg;have CZ:=bH Ak BF;have apY:=Hi (Bv SS (ub BF) (fun _ _ f=>f));clear Kg BF SS Ak HB;have LU:=Il.out;go_wp2
   go_loopw [12,14] (fun s12 s14 wr=>∃ (k:Nat) (q:Option Addr) (c:Nat) (L:List (T×Value)),k≤(Bn Aa A).length∧s12=.slice q k c∧s14=.int .i64 (k:Int)∧Lu wr w5.heap.size (.slice q k c) ((YE A).take k) L∧Bw w5 wr) (fun _ s14 _=>(Bn Aa A).length -(intOf s14).toNat)
   case atStart=>exact⟨0,none,0,[],AV _,rfl,rfl,⟨DZ _ _ _ _,by rw[Gg];rfl,fun i hi=>by simp at hi⟩,Ai _ _⟩
   case round=>
    obtain⟨k,q,c,L,hk,rfl,rfl,Af,hb⟩:=hrel;have Ck:=Hi Af;have HB:=Hi hb;have Ak:=bH CZ hb;have NB:=Hi (show L.length=k from by rw[Af.len,AZ,adS];omega);clear Af;by_cases hlt:k < (Bn Aa A).length
    ·obtain⟨a,Cs,c0⟩:=(Hr (Cg KH hb)).index rc k hlt;have Bh:=Hi (aC9 A k hlt);have dX:=Nz.agI _ (CQ hlt);have HG:=Hi (agx (HD.below Ak) (HF.below Ak).gets (Bn Aa A)[k] (by omega));clear hb;generalize (Bn Aa A)[k]=key at*;obtain⟨⟨gv,gis,ge⟩,Nc⟩:=ex (LC A key);rw[Nc] at Bh HG;dsimp only at Bh HG;clear Nc;go_wp2_with fail;refine HG.mono ?_;rintro e w3⟨kv,rfl,Ke,Ap⟩;obtain⟨kkq,kkc,rfl⟩:=Bo Ke;have c03:=(Ap.cell (Cr c0)).trans c0;have HKV:=Hi (EA Ke HB.size);have Au:=bH HB Ap;have Pq:=Hi (Ck.below Ap);have abQ:=Pq.row;rw[NB.out] at abQ;have bM:=Hi abQ;clear Ap c0 Ke abQ;go_wp2_with (at_builtin;refine wpList_append_own_at _ rfl _ _ 31 rfl w5.heap.size 63 j0 _ 2 40 underlying31 hj0 fC O1 ak rfl (by decide) _ k _ rfl (bM.alloc _) ⟨w3.heap.size,0,none⟩ 1 1 [.string (bs key),.slice kkq gv.length kkc] rfl rfl (by intro j u hj;rw[add_plain,E5];exact(Dy▸hj)) (by simp[Value.oneCell']) (by unfold maxLen;omega) (by omega) (by have:=Au.size;simp;omega) ?_;intro v' w4 Cb AJ _ hat;obtain⟨g',cap',rfl⟩:=ownsRow_succ Cb;have HO:=Hi Cb;have Dg:=Hi AJ;clear Cb AJ hat);go_roundw
     case rel=>
      refine⟨k+1,some ⟨g',0,none⟩,cap',L++[(key,.slice kkq gv.length kkc)],by omega,rfl,by go_num,?_,(Au.alloc Au.size _).grown Dg (by rw[Ay];have:=Au.size;omega) (fun j hj=>E9 bM hj)⟩;rw[Bh.out];exact Pq.snoc (x:=(key,.slice kkq gv.length kkc)) (u:=(key,gv)) rfl HKV (((A7.refl (fun j=>(Value.slice q k c).ownBlock=some j) w3).alloc _).trans (A7.of_grownBy (F:=fun j=>(Value.slice q k c).ownBlock=some j) Dg (fun j e=>e)) (fun _ f=>.inl f)) (fun j hj e=>Bb.ne hj (Cn bM e) (by decide) rfl) (by rw[NB.out];exact HO.out)
     case measure=>
      show(Bn Aa A).length -((k:Int)+1).toNat < (Bn Aa A).length -((k:Int)).toNat
      omega
    ·obtain rfl:k=(Bn Aa A).length:=(by omega);have Af:=Ck.out;rw[Gu (by rw[adS];exact Ae _)] at Af
     have HUR:=Hi (show Lu wr w.heap.size (.slice q (Bn Aa A).length c) (YE A) L from
      ⟨EA Af.row CZ.size,Af.len,fun i hi JG=>⟨(Af.each i hi JG).1,EA (Af.each i hi JG).2 CZ.size⟩⟩)
     have apZ:=Hi (Bv apY (ub hb) (fun _ _ f=>f));clear Af hb Ck;go_wp2;go_ret2;exact⟨_,_,L,rfl,apZ,HUR,Ak⟩
end Hv
namespace Hv
open Ag Kp BI Hex Mem Ch GV
open Ar hiding T
theorem ahK{A:M}{k v:T}(h:Cq Ah A k=some v):NJ Ah A k=(v,true,0):=by
 unfold NJ;rw[Ab,h];rintro⟨_,h2⟩;unfold Cq at h;cases hf:fileOf Ah A (Ah.nm k) with
 |none=>rw[hf] at h;cases h
 |some l=>rw[hf] at h2;cases h2
variable {n:Nat}{A:M}{roots:List T}
end Hv
namespace Hv
open Go.RowKit Go.Maps
open Av Ag Bt Kp BI Hex BH Al Mem Ch GV
open Ar hiding T
structure KO(w w':World):Prop where
 aI:∀ base v l,BJ w base v l→BJ w' base v l
 uses:∀ base v us L,Lu w base v us L→Lu w' base v us L
 row:Qw w w'
section
variable {w w' w1:World}{B:Nat}{w0:World}{b y n N pm pd:Nat}{A A':M}{L:List (Nat×Obj)}
theorem KO.upd{bl:Nat→Prop}(hu:A7 (Gx w bl) w w'):KO w w':=
 ⟨fun _ _ _ h=>Bv h hu (fun _ hg e=>e.not (Cn h hg) (by decide)),fun _ _ _ _ h=>h.upd hu (fun k hk e=>e.not hk (by decide)) (fun k hk e=>e.not hk (by decide)),Qw.upd hu⟩
theorem KO.below(hb:Bw w w'):KO w w':=
 ⟨fun _ _ _ h=>Bv h (ub hb) (fun _ _ f=>f),fun _ _ _ _ h=>h.below hb,Qw.below hb⟩
theorem KO.trans(h:KO w w1)(k:KO w1 w'):KO w w':=
 ⟨fun a v l r=>k.aI a v l (h.aI a v l r),fun a v l L r=>k.uses a v l L (h.uses a v l L r),h.row.trans k.row⟩
theorem ada{n:Nat}(h:n≤200):Co n≤100000:=by unfold Co sz lg;omega
theorem lX(h:Er B w0 w b y n N A L):He w y A:=by
 obtain⟨bl,h1,_,_⟩:=h.pick;exact qz h1
theorem lW(h:Er B w0 w b y n N A L)(hn:n≤200):Oc A:=qx (Aw (fK h).2.2 (ada hn))
end
end Hv
namespace EX
open Go.Lib Ag Av Bt Kp BI
section
variable {P:Jf}{n:Nat}{A:M}{name data bad:T}
def WN(A:M)(name bad:T):M:=put name bad A
theorem dC(hu:Up A)(x:T):get (WN A name bad) x=if x=name then some bad else get A x:=get_put hu name bad x
theorem asT{K:Kind}(hu:Up A)(hb:K.CB name bad=none)(x:T):fileOf K (WN A name bad) x=if x=name then none else fileOf K A x:=by
 unfold fileOf;rw[dC hu];by_cases e:x=name
 ·rw[Ad e,Ad e];subst e;exact hb
 ·rw[Ab e,Ab e]
theorem aCi{K:Kind}(hu:Up A)(hb:K.CB name bad=none)(k:T):Cq K (WN A name bad) k=if K.nm k=name then none else Cq K A k:=by
 unfold Cq;rw[asT hu hb];split
 ·rfl
 ·rfl
theorem aCj{K:Kind}(hK:K.BO)(hu:Up A)(ho:K.ours name=false)(k:T):Cq K (WN A name bad) k=Cq K A k:=by
 unfold Cq fileOf;rw[dC hu,Ab];intro e;have:=hK.Nq k;rw[e,ho] at this;cases this
theorem aqR{K:Kind}(hu:Up A)(h0:CR K A=[])(ho:K.ours name=true)(hb:K.CB name bad=none)(x:T):x∈CR K (WN A name bad)↔x=name:=by
 rw[J8 (show Up (WN A name bad) from hu.put _ _)];constructor
 ·rintro⟨h1,d,h2,h3⟩;rw[dC hu] at h2;by_cases e:x=name
  ·exact e
  ·rw[Ab e] at h2;have hm:=(J8 hu x).2 ⟨h1,d,h2,h3⟩;rw[h0] at hm;cases hm
 ·rintro rfl;exact⟨ho,bad,by rw[dC hu,Ad rfl],hb⟩
theorem aqS{K:Kind}(hu:Up A)(h0:CR K A=[])(ho:K.ours name=false):CR K (WN A name bad)=[]:=by
 refine Vm.2 fun x hx=>?_
 obtain⟨h1,d,h2,h3⟩:=(J8 (show Up (WN A name bad) from hu.put _ _) x).1 hx;rw[dC hu] at h2;by_cases e:x=name
 ·rw[e,ho] at h1;cases h1
 ·rw[Ab e] at h2;have hm:=(J8 hu x).2 ⟨h1,d,h2,h3⟩;rw[h0] at hm;cases hm
end
end EX
namespace Hv
open Av Ag Bt Kp BI Hex BH Al Mem Ch GV
open Ar hiding T
theorem aBt{l:List T}(h:∀ t∈l,t.length≤65535):∃ a,BK l=some a:=by
 induction l with
 |nil=>exact⟨[],rfl⟩
 |cons x l ih=>
  obtain⟨a,ha⟩:=ih (fun t ht=>h t (F9 _ ht));have hx:=h x Gf;have e:∃ b,Eg x=some b:=by
   unfold Eg;rw[Ad hx];exact⟨_,rfl⟩
  obtain⟨b,hb⟩:=e;exact⟨b++a,by simp only[BK];rw[hb,ha];rfl⟩
theorem jv{l:M}{t:T}(h:t∈flat l):∃ p∈l,t=p.1∨t=p.2:=by
 unfold flat at h;obtain⟨p,hp,hm⟩:=Nv.1 h;refine⟨p,hp,?_⟩;simpa using hm
theorem arG{l:M}(h:CW l≤60000):(BV l).isSome=true:=by
 have hl:4*l.length+(l.map fun p=>p.2.length).sum≤CW l:=qi l
 obtain⟨a,ha⟩:=aBt (l:=flat l) (fun t ht=>by
  obtain⟨p,hp,e⟩:=jv ht;have:=zP hp;rcases e with rfl|rfl<;>omega)
 have h2:=WO ha;rw[qA] at h2;unfold BV FO;rw[Ad (by omega),ha];simp only[EK,CL];rw[Ad (by rw[AA,A9.C9];omega)];rfl
theorem auk(K:Kind)(l:M)(name:T):CW (BM K l name)≤CW l:=by
 have h:=ahX K [name] (by simp) l;simpa using h
theorem jr{K:Kind}{l:M}(h:CW l≤60000):Fits K l:=fun j hj=>
 arG (Aw (auk K _ _) (Aw (zQ l (j+1)) h))
theorem amE{K:Kind}(hK:K.BO){n:Nat}{A l:M}(hu:Up A)(h:CW l≤60000)(hr:used A+(31*l.length+CW l)≤Co n):H9 K n A l=(0,made A (ES K l)):=by
 rw[acW hK (jr h),Ab];have h1:=Vj hu (ES K l);have h2:=nD hK l;omega
def Vf(l:M)(k:T):Option T:=(l.reverse.find? fun p=>p.1 == k).map (·.2)
theorem ald(l:M)(p:T×T)(k:T):Vf (l++[p]) k=if p.1=k then some p.2 else Vf l k:=by
 unfold Vf;rw[List.reverse_append,List.reverse_singleton,List.singleton_append,List.find?_cons];by_cases e:p.1=k
 ·rw[Ad e];simp[e]
 ·rw[Ab e];have:(p.1 == k)=false:=FQ.2 e;rw[this]
theorem ahU{K:Kind}(l:M)(k:T):Ag.get (BM K l (K.nm k)) k=Vf l k:=by
 induction l using Vi with
 |h0=>rfl
 |h1 l p ih=>
  rw[NK,ald];have hu:=Tg (K:=K) l (K.nm k);by_cases e:p.1=k
  ·rw[Ad e,Ad (by rw[e]),get_put hu,Ad e.symm]
  ·rw[Ab e];split
   ·rw[get_put hu,Ab (fun h=>e h.symm)];exact ih
   ·exact ih
theorem amv{K:Kind}{A l:M}(hu:Up A)(D9:∀ k,Ag.get A (K.nm k)=none)(hok:∀ p∈l,K.ok p=true)(hf:Fits K l)(k:T):Cq K (made A (ES K l)) k=Vf l k:=by
 rw[←mq hu];unfold Cq;rw[jq hu D9 hok hf];by_cases h:K.nm k∈l.map fun p=>K.nm p.1
 ·rw[Ad h];exact ahU l k
 ·rw[Ab h,←ahU (K:=K),jD h];rfl
theorem azd{K K':Kind}(hK:∀ k,K.ours (K.nm k)=true)(jI:∀ k,K'.ours (K'.nm k)=true)(hd:∀ x,K.ours x=true→K'.ours x=true→False){A:M}(hu:Up A)(l:M)(k:T):Cq K' (made A (ES K l)) k=Cq K' A k:=by
 have h:K'.nm k∉l.map fun p=>K.nm p.1:=fun hm=>by
  obtain⟨p,_,e⟩:=Bz.1 hm;exact hd (K.nm p.1) (hK p.1) (by rw[e];exact jI k)
 unfold Cq fileOf;rw[Zk hu,Ab h]
theorem al5{K:Kind}(hK:K.BO){A:M}(hu:Up A){L:List T}(hL:Lv L)(h:∀ k,k∈L↔(Cq K A k).isSome=true):Bn K A=L:=
 Re acn hL (fun k=>by rw[Sd hK hu,h])
theorem arB{n:Nat}{A:M}(h:used A≤Co n):En n A []=A:=by
 unfold En;split<;>rfl
theorem ale(l:M)(k:T):(Vf l k).isSome=true↔k∈l.map (·.1):=by
 induction l using Vi with
 |h0=>simp[Vf]
 |h1 l p ih=>
  rw[ald,CK,Eh];by_cases e:p.1=k
  ·rw[Ad e];simp[e]
  ·rw[Ab e,ih];simp only[Ca,Kr,FJ];exact⟨fun h=>.inl h,fun h=>h.elim id (fun h=>absurd h.symm e)⟩
end Hv
namespace EX
open Av Ag Bt Kp BI Hex BH Al Mem Ch GV Hv
open Ar hiding T
theorem afN{K:Kind}{A l:M}(hu:Up A)(D9:∀ k,Ag.get A (K.nm k)=none)(h0:CR K A=[])(hok:∀ p∈l,K.ok p=true)(hf:Fits K l):CR K (made A (ES K l))=[]:=by
 refine Vm.2 fun x hx=>?_
 obtain⟨h1,d,h2,h3⟩:=(J8 (Up.made hu _) x).1 hx;have hg:=h2;rw[Zk hu] at h2;split at h2
 ·rename_i hm
  obtain⟨p,hp,e⟩:=Bz.1 hm;have e:K.nm p.1=x:=e;have h4:=jq hu D9 hok hf p.1;rw[mq hu,e,Ad hm] at h4;unfold fileOf at h4;rw[hg] at h4;rw[show(some d).bind (K.CB x)=K.CB x d from rfl,h3] at h4;cases h4
 ·have hm:=(J8 hu x).2 ⟨h1,d,h2,h3⟩;rw[h0] at hm;cases hm
theorem afO{K K':Kind}(hK:K.BO)(hd:∀ x,K.ours x=true→K'.ours x=true→False){A:M}(hu:Up A)(h0:CR K' A=[])(l:M):CR K' (made A (ES K l))=[]:=by
 refine Vm.2 fun x hx=>?_
 obtain⟨h1,d,h2,h3⟩:=(J8 (Up.made hu _) x).1 hx
 rw[Zk hu,Ab (fun hm=>by
  obtain⟨p,_,e⟩:=Bz.1 hm;have e:K.nm p.1=x:=e;exact hd x (by rw[←e];exact hK.Nq _) h1)] at h2
 have hm:=(J8 hu x).2 ⟨h1,d,h2,h3⟩;rw[h0] at hm;cases hm
theorem ayE{α:Type}{l:List α}{a:α}(hn:l.Nodup)(h:∀ x,x∈l↔x=a):l=[a]:=by
 cases l with
 |nil=>exact absurd ((h a).2 rfl) (by simp)
 |cons x l=>
  have hx:=(h x).1 (by simp);subst hx;cases l with
  |nil=>rfl
  |cons y l=>
   have hy:=(h y).1 (by simp);subst hy;simp at hn
theorem arC{n:Nat}{A:M}{name data:T}(hm:(⟨name,data,false⟩:Am).may=true)(hr:used (put name data A)≤Co n):FC n A [⟨name,data,false⟩]=0∧En n A [⟨name,data,false⟩]=put name data A:=by
 have e:made A [(⟨name,data,false⟩:Am)]=put name data A:=rfl;unfold FC En;rw[e,List.all_cons,hm,List.all_nil];simp only[Bool.and_self,Bool.true_eq_false,if_false];exact⟨Ab (by omega),Ad ⟨trivial,hr⟩⟩
theorem am1{K:Kind}{A:M}(hu:Up A)(h0:CR K A=[])(hv:∀ k,Cq K A k=none){x:T}(hx:K.ours x=true):Ag.get A x=none:=by
 cases hg:Ag.get A x with
 |none=>rfl
 |some d=>
  exfalso;cases hr:K.CB x d with
  |none=>
   have hm:=(J8 hu x).2 ⟨hx,d,hg,hr⟩;rw[h0] at hm;cases hm
  |some l=>
   obtain⟨h1,h2,h3,_⟩:=Nr hr;obtain⟨p,l',rfl⟩:∃ p l',l=p :: l':=by
    cases l with
    |nil=>exact absurd rfl h1
    |cons p l'=>exact⟨p,l',rfl⟩
   have h4:=hv p.1;have hn:=(h3 p (by simp)).1;have hf:fileOf K A x=some (p :: l'):=by
    unfold fileOf;rw[hg];exact hr
   unfold Cq at h4;rw[hn,hf] at h4;have h5:Ag.get (p :: l') p.1=some p.2:=get_mem h2 (by simp);rw[show(some (p :: l')).bind (fun l=>Ag.get l p.1)=Ag.get (p :: l') p.1 from rfl,h5] at h4;cases h4
def Ml:M:=[([97],[49])]
def NI:Us:=[([114],[[97]])]
def VV:M:=made [] (ES Ah Ml)
def Ip:M:=made VV (ES Aa (BA NI))
theorem jw:CW Ml=6:=by decide
theorem jy:CW (BA NI)≤500:=Aw (aot NI) (by decide)
theorem vg:1000≤Co 100:=by decide
theorem Xz:Up VV:=Up.made Up.nil _
theorem VW:Up Ip:=Up.made Xz _
theorem ahp:used VV≤100:=by
 have h1:=Vj Up.nil (ES Ah Ml);have h2:=nD JL Ml;have h3:=jw;have h4:Ml.length=1:=rfl;have h5:used ([]:M)=4:=rfl;unfold VV;omega
theorem ahE:H9 Ah 100 [] Ml=(0,VV):=amE JL Up.nil (by rw[jw];omega) (by
 have h3:=jw;have h4:Ml.length=1:=rfl;have h5:used ([]:M)=4:=rfl;have:=vg;omega)
theorem qJ:MW NI:=fun u hu=>by
 rw[FJ.1 hu]
 show(D8 (Bi [[97]])).2=0
 rw[mH (Sz _ _)];decide
theorem atS:Ie 100 VV NI=(0,Ip):=by
 unfold Ie;rw[Ad qJ];refine amE GD Xz (Aw jy (by omega)) ?_;have h1:=jy;have h2:=ahp;have h3:=vg;have h4:(BA NI).length=1:=rfl;omega
theorem ahq:used Ip≤700:=by
 have h1:=Vj Xz (ES Aa (BA NI));have h2:=nD GD (BA NI);have h3:=jy;have h4:(BA NI).length=1:=rfl;have h5:=ahp;unfold Ip;omega
theorem atP:fF 100 Ml NI []=Ip:=by
 unfold fF;rw[ahE]
 show En 100 (Ie 100 VV NI).2 []=Ip
 rw[atS];exact arB (Aw ahq (by have:=vg;omega))
theorem ahC:∀ k,Ag.get VV (Aa.nm k)=none:=fun k=>by
 have h:=am2 (n:=100) GD JL (fun x h1 h2=>Jz.apart x h2 h1) Up.nil (fun _=>rfl) Ml k;rw[ahE] at h;exact h
theorem ahD(k:T):Cq Ah Ip k=Vf Ml k:=by
 unfold Ip;rw[azd GD.Nq JL.Nq (fun x h1 h2=>Jz.apart x h2 h1) Xz];exact amv Up.nil (fun _=>rfl) (fun _ _=>rfl) (jr (by rw[jw];omega)) k
theorem ahB(r:T):Cq Aa Ip r=Vf (BA NI) r:=
 amv Xz ahC (wh qJ) (jr (Aw jy (by omega))) r
theorem ahF:Bn Aa Ip=[[114]]:=al5 GD VW (by unfold Lv;decide) (fun k=>by rw[ahB,ale];rfl)
theorem ahG:Ko both Ip [114]=[[97]]:=by
 have h:dV both Ip [114]=some (D8 (Bi [[97]])).1:=by
  show Cq Aa Ip [114]=_
  rw[ahB];rfl
 unfold Ko;rw[h,CL,an8 (qJ _ Gf),mH (Sz _ _)];rfl
theorem ahz:CR Ah Ip=[]:=afO GD (fun x h1 h2=>Jz.apart x h2 h1) Xz (afN Up.nil (fun _=>rfl) rfl (fun _ _=>rfl) (jr (by rw[jw];omega))) _
theorem ahy:CR Aa Ip=[]:=afN Xz ahC (afO JL (fun x h1 h2=>Jz.apart x h1 h2) Up.nil rfl _) (wh qJ) (jr (Aw jy (by omega)))
theorem atT:Ur both Ip:=by
 refine⟨ahz,ahy,?_⟩;unfold Nu;rw[show Xt both Ip=[[114]] from ahF];simp only[Qg,List.flatMap_nil,Ea,ahG];have:mV both Ip [97]=some [49]:=by
  show Cq Ah Ip [97]=_
  rw[ahD];rfl
 simp[this]
def IY:T:=Ah.nm [97]
def EP:M:=WN Ip IY [120]
theorem qI:IY.length=17:=JL.len _
theorem ahx:Ah.CB IY [120]=none:=by
 have h:A9.Ey [120]=([],7)∨(A9.Ey [120]).2≠0:=.inr (by decide);unfold Kind.CB aL;rw[Ab (by decide)]
theorem atM:used EP≤800:=by
 have h1:=Vj VW [(⟨IY,[120],false⟩:Am)];have h2:F8 [(⟨IY,[120],false⟩:Am)]=8+IY.length+1+0:=rfl;have h3:=qI;have h4:=ahq
 show used (made Ip [(⟨IY,[120],false⟩:Am)])≤800
 omega
theorem ahA:FC 100 Ip [⟨IY,[120],false⟩]=0∧En 100 Ip [⟨IY,[120],false⟩]=EP:=
 arC (by have hne:IY≠[]:=fun e=>by { have:=qI;rw[e] at this;cases this };unfold Am.may Fu;simp[qI,hne]) (Aw atM (by have:=vg;omega))
theorem qH:Up EP:=VW.put _ _
theorem aa8:CR Ah EP=[IY]:=ayE (yZ qH) (aqR VW ahz (JL.Nq _) ahx)
theorem ahw:Aa.ours IY=false:=by
 cases h:Aa.ours IY with
 |false=>rfl
 |true=>exact(Jz.apart IY (JL.Nq _) h).elim
theorem ahr:CR Aa EP=[]:=aqS VW ahy ahw
theorem aa9(k:T):Cq Ah EP k=none:=by
 unfold EP;rw[aCi VW ahx];split
 ·rfl
 ·rename_i h
  rw[ahD];cases hl:Vf Ml k with
  |none=>rfl
  |some v=>
   have:=(ale Ml k).1 (by rw[hl];rfl);have:k=[97]:=(by simpa[Ml] using this);exact absurd (by rw[this];rfl) h
theorem ahs(r:T):Cq Aa EP r=Cq Aa Ip r:=aCj GD VW ahw r
theorem aht:Bn Aa EP=[[114]]:=by
 rw[←ahF];exact al3 GD qH VW fun k=>by rw[ahs]
theorem ahv:Nu both EP=[([114],[97])]:=by
 have hu:Ko both EP [114]=[[97]]:=by
  rw[←ahG];exact aom (ahs _)
 have hm:mV both EP [97]=none:=aa9 _;unfold Nu;rw[show Xt both EP=[[114]] from aht];simp only[Qg,List.flatMap_nil,Ea,hu];simp[hm]
theorem atJ:Bn Ah EP=[]:=al5 JL qH List.Pairwise.nil (fun k=>by rw[aa9];simp)
theorem atK:R8 both EP=[]:=by
 unfold R8;rw[show alv both EP=[] from atJ];rfl
theorem atG:N7 both EP=[(1,IY,[]),(3,[114],[97])]:=by
 unfold N7;rw[show CR both.m EP=[IY] from aa8,show CR both.d EP=[] from ahr,ahv,atK];rfl
theorem atI:(Hg both EP).length=1:=by
 unfold Hg UA;rw[show CR both.m EP=[IY] from aa8,show CR both.d EP=[] from ahr];rfl
theorem ahu:M3 both EP=[[114]]:=by
 unfold M3;rw[ahv];exact mH (Sz _ _)
theorem atL:¬ Ur both EP:=fun h=>by
 have:=h.1;rw[show CR both.m EP=[IY] from aa8] at this;cases this
theorem atQ{x:T}{d:T}(h:Ag.get EP x=some d):Ah.ours x=true∨Aa.ours x=true:=by
 unfold EP at h;rw[dC VW] at h;split at h
 ·rename_i e
  rw[e];exact .inl (JL.Nq _)
 ·unfold Ip at h;rw[Zk Xz] at h;split at h
  ·rename_i hm
   obtain⟨p,_,e⟩:=Bz.1 hm;have e:Aa.nm p.1=x:=e;exact .inr (by rw[←e];exact GD.Nq _)
  ·unfold VV at h;rw[Zk Up.nil] at h;split at h
   ·rename_i hm
    obtain⟨p,_,e⟩:=Bz.1 hm;have e:Ah.nm p.1=x:=e;exact .inl (by rw[←e];exact JL.Nq _)
   ·cases h
theorem atH{n:Nat}(hm:BI.May n EP):Iw both EP=[]:=by
 have h2:=uy Jz hm;have sM:∀ x,Ag.get (Iw both EP) x=none:=fun x=>by
  by_cases h1:Ah.ours x=true
  ·exact am1 h2.up (pI Jz hm (.inl rfl)) (fun k=>(uw Jz hm k).trans (aa9 k)) h1
  ·by_cases h3:Aa.ours x=true
   ·refine am1 h2.up (pI Jz hm (.inr rfl)) (fun k=>?_) h3;have:=alL Jz hm k;rw[ahu] at this;refine this.trans ?_;split
    ·rfl
    ·rename_i hk
     show Cq Aa EP k=none
     cases hv:Cq Aa EP k with
     |none=>rfl
     |some v=>
      have:=(Sd GD qH k).2 (by rw[hv];rfl);rw[aht] at this;exact absurd this hk
   ·have hn:∀ l:List T,(∀ y∈l,Aa.ours y=true∨Ah.ours y=true)→x∉l:=fun l hl hx=>(hl x hx).elim h3 h1
    unfold Iw
    rw[jB (uu hm.up) (by
     rw[VU,Ee];intro hx;obtain⟨j,_,e⟩:=Bz.1 hx;have e:Aa.nm j=x:=e;exact h3 (by rw[←e];exact GD.Nq _)),aag hm.up]
    split
    ·rfl
    ·cases hg:Ag.get EP x with
     |none=>rfl
     |some d=>exact(atQ hg).elim (fun e=>absurd e h1) (fun e=>absurd e h3)
 cases hA:Iw both EP with
 |nil=>rfl
 |cons p l=>
  have h3:=sM p.1;have hu:=h2.up;rw[hA] at h3 hu;rw[get_mem hu (show(p.1,p.2)∈p :: l by simp)] at h3;cases h3
end EX
namespace EX
open Go.RowKit Go.Maps
open Av Ag Bt Kp BI Hex BH Al Mem Ch
end EX
namespace EX
open Go.RowKit Go.Maps
open Av Ag Bt Kp BI Hex BH Al Mem Ch GV Hv
open Ar hiding T
structure JY(w w':World):Prop where
 row:∀ base t s v n cs,t∉lL→w.ownsRow base t s v n cs→w'.ownsRow base t s v n cs
section
variable {B:Nat}{w0 w w1 w' W:World}{b y n N pm pd:Nat}{A:M}{L:List (Nat×Obj)}
theorem JY.upd{bl:Nat→Prop}(hu:A7 (Gx w bl) w w'):JY w w':=⟨fun _ _ _ _ _ _ ht h=>Bv h hu (fun _ hg e=>e.not (Cn h hg) ht)⟩
theorem JY.below(hb:Bw w w'):JY w w':=⟨fun _ _ _ _ _ _ _ h=>Bv h (ub hb) (fun _ _ f=>f)⟩
theorem JY.trans(h:JY w w1)(k:JY w1 w'):JY w w':=⟨fun a t s v m cs ht r=>k.row a t s v m cs ht (h.row a t s v m cs ht r)⟩
theorem JY.br{base:Nat}{v:Value}{l:List (Nat×T×T)}(h:JY w w')(hr:Ma w base v l):Ma w' base v l:=h.row _ _ _ _ _ _ (by decide) hr
theorem JY.aBB(h:JY w w'):KO w w':=
 ⟨fun _ _ _ r=>h.row _ _ _ _ _ _ (by decide) r,fun _ _ _ _ r=>⟨h.row _ _ _ _ _ _ (by decide) r.row,r.len,fun i h1 h2=>⟨(r.each i h1 h2).1,h.row _ _ _ _ _ _ (by decide) (r.each i h1 h2).2⟩⟩,fun _ _ _ r=>h.row _ _ _ _ _ _ (by decide) r⟩
theorem alW(h:Er B w0 w b y n N A L)(hN:N+2 < 1000000000)(hn:n≤200)(hm:(pm,F6 y)∈L)(hd:(pd,F3 y)∈L):
  Calls prog 20 #[.pointer (some ⟨pm,0,none⟩),.pointer (some ⟨pd,0,none⟩)] w fun e w'=>e=.returned (.tuple #[.int .i64 ((Hg both A).length:Int),.int .i64 ((M3 both A).length:Int),.int .i64 0])∧Er B w0 w' b y n (N+2) (Iw both A) L∧JY w w':=by
 obtain⟨bl,h1,h2,h3⟩:=h.pick;refine(ahb h1 hN (Aw (fK h).2.2 (ada hn)) (h.at_ _ _ hm) (h.at_ _ _ hd)).mono ?_;rintro e w'⟨c,rfl,hc,hu,C8,OO,hs⟩;rcases OO with⟨rfl,hok⟩|⟨e,_⟩
 ·exact⟨by rw[fH,fH],(h3 ⟨C8,hok,hu,hs⟩).1,JY.upd hu⟩
 ·cases e
theorem ayj{a:Option Addr}{cap:Nat}{l:List Am}(h:Er B w0 w b y n N A L)(hN:N < 1000000000)(hL:Eb w a l)(hlen:l.length≤100000)(hw:F8 l≤900000):
  Calls prog 17 #[.pointer (some ⟨y,0,none⟩),.slice a l.length cap] w fun e w'=>e=.returned (.int .i64 (FC n A l))∧Er B w0 w' b y n (N+1) (En n A l) L∧JY w w':=by
 obtain⟨bl,h1,h2,h3⟩:=h.pick;refine(atB h1 hN hL hlen hw).mono ?_;rintro e w'⟨rfl,C8,g1,g2,g3⟩;exact⟨rfl,(h3 ⟨C8,g1,g2,g3⟩).1,JY.upd g2⟩
theorem ayk(h:Er B w0 w b y n N A L)(hn:n≤200)(hm:(pm,F6 y)∈L)(hd:(pd,F3 y)∈L)(hW:Bw w W):
  Calls prog 18 #[.pointer (some ⟨pm,0,none⟩),.pointer (some ⟨pd,0,none⟩)] W fun e w'=>∃ v,e=.returned (.tuple #[v,.int .i64 0])∧Ma w' W.heap.size v (N7 both A)∧Bw W w':=
 acJ (show Gi W pm y from(h.step hW).at_ _ _ hm) (show EN W pd y from(h.step hW).at_ _ _ hd) (lX (h.step hW)) (lW h hn)
theorem uD(h:Er B w0 w b y n N A L)(hn:n≤200)(hm:(pm,F6 y)∈L)(hd:(pd,F3 y)∈L)(hW:Bw w W):
  Calls prog 14 #[.pointer (some ⟨pm,0,none⟩),.pointer (some ⟨pd,0,none⟩)] W fun e w'=>e=.returned (.bool (decide (Ur both A)))∧Bw W w':=
 aAZ (show Gi W pm y from(h.step hW).at_ _ _ hm) (show EN W pd y from(h.step hW).at_ _ _ hd) (lX (h.step hW)) (lW h hn)
end
theorem atO:pq 100 Ml NI []:=
 ⟨by decide,by decide,by decide,by decide,by decide,by decide,by decide,by decide,by decide,by decide⟩
def aea:Prop:=∀ w,VK w→Calls prog 6 #[] w fun e w'=>e=.returned (.bool true)∧Bw w w'
end EX
namespace GV
open Go.RowKit Go.Maps
open Av Ag Ar Bt Kp BI Hex BH Al Mem Ch
end GV
namespace Hv
open Go.RowKit Go.Maps
open Av Ag Bt Kp BI Hex BH Al Mem Ch GV
open Ar hiding T
theorem az9{w:World}(l:M)(hl:l.length≤1000){cs:Array Value}(hc:cs=(Dm l).toArray){g:Nat}(hg:w.heap.size=g):BJ (w.alloc (.cells cs 51)) w.heap.size (.slice (some ⟨g,0,none⟩) l.length l.length) l:=by
 subst hc hg;have:=World.ownsRow_lit (base:=w.heap.size) (e:=51) (size:=2) w (Dm l).toArray l.length (Ae _) (by unfold maxLen;omega) (by simp[dw]);exact this
theorem aCd{w:World}(L:List (T×Value))(us:Us)(hl:L.length≤1000)(hlen:L.length=us.length)(he:∀ i (h:i < L.length) (h2:i < us.length),L[i].1=us[i].1∧Ar.Bq w 0 L[i].2 us[i].2){cs:Array Value}(hc:cs=(Qe L).toArray){g:Nat}(hg:w.heap.size=g)(BN:(Qe L).length=L.length*2):Lu (w.alloc (.cells cs 63)) 0 (.slice (some ⟨g,0,none⟩) L.length L.length) us L:=by
 subst hc hg;have:=World.ownsRow_lit (base:=0) (e:=63) (size:=2) w (Qe L).toArray L.length (AV _) (by unfold maxLen;omega) (by simp[BN]);exact⟨this,hlen,fun i h h2=>⟨(he i h h2).1,Cg (he i h h2).2 (AU w _)⟩⟩
end Hv
