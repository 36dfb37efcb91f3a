/- RDep -/
import Derived.Test.YtmbbhdebddbhoaaGreatR39
set_option maxHeartbeats 8000000
set_option maxRecDepth 100000
set_option linter.all false
namespace Go.Proofs.YtmbbhdebddbhoaaGreat
open Tryz
section
open Go.RowKit Go.Maps Wal
theorem ayl(l:List (List UInt8))(a:Option Addr)(cap:Nat)(w:World)(hl:Cg w a l)(hlen:l.length≤maxLen)(LC:l.length≤10000):
  Calls prog 165 #[.slice a l.length cap] w fun e w'=>e=.returned (.tuple #[.string (bs (Cq l).1),.int .i64 (Cq l).2])∧Bw w w':=by
 unfold maxLen at hlen;by_cases aal:65535 < l.length
 ·have hR:Hid (Cq l=([],5)):=Hi (by unfold Cq FZ;rw[Aa (by omega)]);rw[hR.out];clear hl;go_enter func165,ntmps165;go_wp2_with fail;all_goals
   go_ret2;exact⟨rfl,Af _ _⟩
 ·have HL:=Hi hl;clear hl;go_enter func165,ntmps165;go_wp2_with fail;refine(sN l.length 2 _ (by omega) (by decide)).mono ?_;rintro e w1⟨rfl,hb⟩;have HB1:=Hi hb;clear hb;go_wp2_with fail
  go_loopw [4,5] (fun v i wr=>∃ (k:Nat),k≤l.length∧i=.int .i64 k∧nP l k v∧Bw w wr) (fun _ i _=>l.length -(intOf i).toNat)
  case atStart=>exact⟨0,by omega,rfl,⟨[],by rw[EH],rfl⟩,HB1⟩
  case round=>
   clear HB1;obtain⟨k,hk,rfl,⟨S,rfl,hS⟩,hb⟩:=hrel;have HS:=Hi hS;have HB:=Hi hb;clear hS hb;by_cases hlt:k < l.length
   ·obtain⟨q,Hg,hq⟩:=(HL.below HB).index cap k hlt;have FV:=ada HS.out;rw[AL] at FV;have JS:=Hi (adb hlt HS);by_cases NW:65535 < l[k].length
    ·have hR:Hid (Cq l=([],5)):=Hi (by unfold Cq FZ;rw[Ab (by omega),uC hlt NW];rfl);clear FV;generalize l[k]=x at*;go_wp2_with fail;refine(kZ x _ NW).mono ?_;rintro e w3⟨rfl,rfl⟩;go_wp2_with fail;go_ret2;rw[hR.out];exact⟨rfl,HB⟩
    ·have FN:l[k].length≤65535:=(by omega);have hle:S.length+l[k].length≤1000000000:=(by have:=NC 65537 (show min k l.length≤10000 by omega);omega);clear FV NW;generalize l[k]=x at*;go_wp2_with fail;refine(l6 x _ FN).mono ?_;rintro e w3⟨rfl,Ak⟩;have Am:=Hi (HB.trans (Ak.mono HB.size));clear Ak hq;go_wp2_with fail;go_roundw
     case rel=>exact⟨k+1,by omega,by go_num,nP.next JS FN rfl,Am⟩
     case measure=>simp[intOf];omega
   ·obtain rfl:k=l.length:=by omega
    have hR:Hid (Cq l=(Crc.le 2 l.length++S,0)):=Hi (by
     have h:=HS.out;rw[CY] at h;unfold Cq FZ;rw[Ab (by omega),h];rfl)
    go_wp2_with fail;go_ret2;rw[hR.out];exact⟨rfl,HB⟩
end
namespace Dep
open Go.RowKit Go.Maps
open Wal Fil Prs Kp Cm Hex Sha Mem
open Man hiding T
theorem acG(k:T)(w:World)(hk:k.length≤1000000):Calls prog 86 #[.string (bs k)] w fun e w'=>e=.returned (.string (bs (A9.nm k)))∧Bw w w':=by
 have hm:({ data:=#[117] }:ByteArray)=bs [117]:=rfl;have hcut:∀ W,(Instr.slice 9 (.string (bs (Eh k))) none (some (.int .i64 8)) none).run prog W=.ok (.string (bs ((Eh k).take 8))) W:=fun W=>Ny prog W 9 underlying9 (Eh k) 8 (by rw[T9];omega)
 have KO:((Eh k).take 8).length=8:=by rw[AL,T9];rfl
 have HH:=Hi (fun(W:World)=>ama ((Eh k).take 8) W (by rw[KO];omega) (by rw[KO];omega));have hhl:(EA ((Eh k).take 8)).length≤16:=by rw[YR,KO];omega
 have HE:=Hi (show[117]++EA ((Eh k).take 8)=A9.nm k from rfl);generalize EA ((Eh k).take 8)=hx at*;generalize (Eh k).take 8=sk at*;clear KO;go_enter func86,ntmps86;go_wp2_with fail;refine(amq k (by omega) _).mono ?_;rintro e w1⟨rfl,Ad⟩;have HB1:=Hi Ad;clear Ad;go_wp2_with fail;refine(HH _).mono ?_;rintro e w2⟨rfl,A8⟩;have Ag:=Hi (HB1.trans (A8.mono HB1.size));clear A8;go_wp2_with fail;go_ret;exact⟨by rw[←HE.out];rfl,Ag⟩
theorem axP{w:World}{a:Option Addr}{cap:Nat}{l:M}(h:AO w a l)(hs:Cr l)(hl:l.length≤60000)(CB:rowLen (flat l)≤1000000000):
  Calls prog 88 #[.slice a l.length cap] w fun e w'=>e=.returned (.tuple #[.string (bs ((BG l).getD [])),.int .i64 (if(BG l).isSome=true then 0 else 5)])∧Bw w w':=by
 have FK:=Hi (rput16_w (cap:=cap) h hs hl CB);by_cases BO:(BG l).isSome=true
 ·rw[Ab BO];obtain⟨he,hlen⟩:=WI.1 BO;have Tn:=Hi (nX BO);rw[Tn.out];rw[he] at FK;generalize (Dz l).1=s at*;have Sr:decide (65535 < (s.length:Int)+4)=false:=Pp (by omega);have JA:IntKind.i64.wrap ((s.length:Int)+4)=(s.length:Int)+4:=Ei _ (by omega);have Yi:=Hi (fun W=>uh s W (by omega));clear he BO hlen h hs CB Tn;go_enter func88,ntmps88;go_wp2_with fail;refine FK.mono ?_;rintro e w3⟨rfl,Ak⟩;have Am:=Hi Ak;clear Ak;go_wp2_with fail;refine(Yi _).mono ?_;rintro e w4⟨rfl,Ar⟩;have AZ:=Hi (Am.trans (Ar.mono Am.size));clear Ar;go_wp2_with fail;go_ret2;exact⟨rfl,AZ⟩
 ·rw[Aa BO];have hn:(BG l).getD []=[]:=by
   cases hc:BG l with
   |none=>rfl
   |some d=>rw[hc] at BO;simp at BO
  rw[hn];by_cases he:(Dz l).2=0
  ·have hlen:¬ (Dz l).1.length+4≤65535:=fun h=>BO (WI.2 ⟨he,h⟩)
   rw[he] at FK;have Od:=tH l he CB;generalize (Dz l).1=s at*;have Sr:65535 < (s.length:Int)+4:=(by omega);have JA:IntKind.i64.wrap ((s.length:Int)+4)=(s.length:Int)+4:=Ei _ (by omega);clear he BO h hs CB hn;go_enter func88,ntmps88;go_wp2_with fail;refine FK.mono ?_;rintro e w3⟨rfl,Ak⟩;have Am:=Hi Ak;clear Ak;go_wp2_with fail;go_ret2;exact⟨rfl,Am⟩
  ·have Bq:((Dz l).2 == 0)=false:=H9.2 he;generalize Dz l=V at*;clear BO h hs CB hn;go_enter func88,ntmps88;go_wp2_with fail;refine FK.mono ?_;rintro e w3⟨rfl,Ak⟩;have Am:=Hi Ak;clear Ak;go_wp2_with fail;go_ret2;exact⟨rfl,Am⟩
def af4(w:World)(l:M)(run:T)(o i:Value)(wr:World):Prop:=∃ (k:Nat) (O:M) (q:Option Addr) (c:Nat),k≤l.length∧i=.int .i64 (k:Int)∧o=.slice q O.length c∧O=(l.take k).filter (fun p=>!(p.1 == run))∧Bo wr w.heap.size (.slice q O.length c) O∧Bw w wr
theorem ayA{w:World}{q:Option Addr}{cap:Nat}{l:M}(run:T)(h:AO w q l)(hl:l.length≤1000000):
  Calls prog 90 #[.slice q l.length cap,.string (bs run)] w fun e w'=>∃ q c,e=.returned (.slice q (l.filter fun p=>!(p.1 == run)).length c)∧Bo w' w.heap.size (.slice q (l.filter fun p=>!(p.1 == run)).length c) (l.filter fun p=>!(p.1 == run))∧Bw w w':=by
 obtain⟨i0,Ba,AQ,AU,AV⟩:=Du Qu;have HH:=Hi h;clear h;go_enter func90,ntmps90;go_wp2_with fail
 go_loopw [5,6] (fun o i wr=>af4 w l run o i wr) (fun _ i _=>l.length -(intOf i).toNat)
 case atStart=>exact⟨0,[],none,0,AB _,rfl,rfl,rfl,VN _ _,Af _ _⟩
 case round=>
  obtain⟨k,O,qo,co,hk,rfl,rfl,hO,Ah,hb⟩:=hrel;have HO:=Hi hO;have CZ:=Hi Ah;have HB:=Hi hb;have P7:O.length≤1000000:=by
   rw[hO];have:=NB (fun p:T×T=>!(p.1 == run)) (l.take k);rw[AL] at this;omega
  clear hO Ah;by_cases hlt:k < l.length
  ·obtain⟨a,Cu,hp,-⟩:=(HH.below hb).index cap k hlt;have c0:=hp.key;have c1:=hp.val;have BN:=Hi (Cw hlt);generalize l[k]=x at*;have hbs:=hb.size;clear hp hb;by_cases hx:x.1=run
   ·have qp:(x.1 == run)=true:=(by simpa using hx);have HN:=Hi (show O=(l.take (k+1)).filter (fun p=>!(p.1 == run)) from by rw[BN.out,Ro,←HO.out];simp[hx]);clear hx;go_wp2_with fail;go_roundw
    case rel=>exact⟨k+1,O,qo,co,by omega,by go_num,rfl,HN,CZ,HB⟩
    case measure=>
     show l.length -((k:Int)+1).toNat < l.length -((k:Int)).toNat
     omega
   ·have qp:(x.1 == run)=false:=(by simpa using hx);have HN:=Hi (show O++[x]=(l.take (k+1)).filter (fun p=>!(p.1 == run)) from by rw[BN.out,Ro,←HO.out];simp[hx]);clear hx;go_wp2_with (at_builtin;refine wpList_append_own_at _ rfl _ _ 22 rfl w.heap.size 75 i0 _ 2 32 underlying22 Ba AQ AU AV rfl (by decide) _ O.length _ rfl (CZ.alloc _) ⟨wr.heap.size,0,none⟩ 1 1 [.string (bs x.1),.string (bs x.2)] rfl rfl (by intro j u hj;rw[add_plain,DF];exact(Dn▸hj)) (by simp[Value.oneCell']) (by unfold maxLen;omega) (by omega) (by simp;omega) ?_;intro v' w4 BB Az _ hat;obtain⟨gg,cap2,rfl⟩:=ownsRow_succ BB;have gH:=Hi BB;have HG:=Hi Az;clear BB Az hat)
    have CU:=Hi (show af4 w l run (.slice (some ⟨gg,0,none⟩) (O.length+1) cap2) (.int .i64 ((k:Int)+1)) w4 from⟨k+1,O++[x],some ⟨gg,0,none⟩,cap2,by omega,by go_num,by rw[Au];rfl,HN,by unfold Bo;rw[Au,RY];exact gH.out,
     (HB.alloc HB.size _).grown HG (by rw[Aq];omega) (fun j e=>DC CZ e)⟩)
    go_roundw
    case rel=>exact CU.out
    case measure=>
     show l.length -((k:Int)+1).toNat < l.length -((k:Int)).toNat
     omega
  ·obtain rfl:k=l.length:=(by omega);have hO:=HO.out;rw[CY] at hO;subst hO;clear hb;go_wp2_with fail;go_ret;exact⟨_,_,rfl,CZ,HB⟩
theorem ax8{fn:Func}{q u:Tmp}(h:fn.results=#[.cell q 75,.tmp u])(tmps:Array Value)(w:World)(g:Nat)(a b:Value)(hq:tmps.getD q undef=.pointer (some ⟨g,0,none⟩))(c0:w.cell? ⟨g,0,none⟩=some a)(c1:w.cell? ⟨g,1,none⟩=some b):
  (results fn tmps).run prog w=.ok (.tuple #[.agg #[a,b],tmps.getD u undef]) w:=by
 rw[results_cell_tmp h,hq];go_simp
theorem ayg{w:World}{run:T}{keys:List T}{kq:Option Addr}{kc:Nat}(h:Cg w kq keys)(hl:keys.length≤10000):
  Calls prog 85 #[.agg #[.string (bs run),.slice kq keys.length kc]] w fun e w'=>e=.returned (.tuple #[.agg #[.string (bs run),.string (bs (Cq (AX keys)).1)],.int .i64 (Cq (AX keys)).2])∧Bw w w':=by
 obtain⟨V,hV⟩:∃ V,(w.alloc (.cells #[.string (bs run),.slice kq keys.length kc] 77)).alloc (.cells #[.string { data:=#[] },.string { data:=#[] }] 75)=V:=⟨_,rfl⟩;obtain⟨u0,u1,OM⟩:V.heap[w.heap.size]?=some (.cells #[.string (bs run),.slice kq keys.length kc] 77)∧V.heap[w.heap.size+1]?=some (.cells #[.string { data:=#[] },.string { data:=#[] }] 75)∧Bw w V:=by
  have Mt:=AJ w (.cells #[.string (bs run),.slice kq keys.length kc] 77);have Bq:=Aw w (.cells #[.string (bs run),.slice kq keys.length kc] 77);have KX:=Aq w (.cells #[.string (bs run),.slice kq keys.length kc] 77);generalize w.alloc (.cells #[.string (bs run),.slice kq keys.length kc] 77)=V0 at*;have DI:=AJ V0 (.cells #[.string { data:=#[] },.string { data:=#[] }] 75);have Ad:=Aw V0 (.cells #[.string { data:=#[] },.string { data:=#[] }] 75);rw[hV] at DI Ad;rw[KX] at DI;exact⟨(Ad.block _ (Ai Mt)).trans Mt,DI,Bq.trans (Ad.mono Bq.size)⟩
 have aH:=Hi u0;have Jo:=Hi u1;have Lg:=Hi OM;have o7:V.cell? ⟨w.heap.size,1,none⟩=some (.slice kq keys.length kc):=cr u0;have gM:=Hi (acC (cap:=kc) (h.below OM) (by omega));rw[acE] at gM;have Gi:=Un keys;have JQ:=Hi (show(AX keys).length≤10000 from by omega);clear u0 u1 OM h Gi;go_enter func85,ntmps85;go_wp2_with fail;clear hV;refine gM.mono ?_;rintro e w1⟨v1,rfl,Kk,Ad⟩;obtain⟨rq,rc,rfl⟩:=Bg Kk;have UL:=Hi (ayl (AX keys) rq rc w1 (Ea Kk) (by have:=JQ.out;unfold maxLen;omega) JQ);have HB1:=Hi (Lg.trans (Ad.mono Lg.size));have aeN:=Hi ((Ad.block _ (Ai aH)).trans aH);have gT:=Hi ((Ad.block _ (Ai Jo)).trans Jo);clear Kk Ad o7;obtain⟨R,hR⟩:=ex (Cq (AX keys));rw[hR] at UL;have QN:=Hi hR;clear hR;go_wp2_with fail;refine UL.mono ?_;rintro e w2⟨rfl,A8⟩;have Ag:=Hi (HB1.trans (A8.mono HB1.size));have Xo:=(A8.block _ (Ai aeN)).trans aeN.out;have F8:=(A8.block _ (Ai gT)).trans gT.out;have yT:w2.cell? ⟨w.heap.size,0,none⟩=some (.string (bs run)):=cr Xo;have p0:w2.cell? ⟨w.heap.size+1,0,none⟩=some (.string { data:=#[] }):=cr F8;have p1:w2.cell? ⟨w.heap.size+1,1,none⟩=some (.string { data:=#[] }):=cr F8;have pf0:=CJ w2 _ 0 _ _ F8;have pf1:=CJ w2 _ 1 _ _ F8;have h3:=BU w2 (w.heap.size+1) 0 _ _ (.string (bs run)) F8;have h4:=BU _ (w.heap.size+1) 1 _ _ (.string (bs R.1)) h3;have q0:((w2.setCell ⟨w.heap.size+1,0,none⟩ (.string (bs run))).setCell ⟨w.heap.size+1,1,none⟩ (.string (bs R.1))).cell? ⟨w.heap.size+1,0,none⟩=some (.string (bs run)):=cr h4
 have q1:((w2.setCell ⟨w.heap.size+1,0,none⟩ (.string (bs run))).setCell ⟨w.heap.size+1,1,none⟩ (.string (bs R.1))).cell? ⟨w.heap.size+1,1,none⟩=some (.string (bs R.1)):=cr h4;have HBF:=Hi ((Ag.setCell (p:=⟨w.heap.size+1,0,none⟩) (Nat.le_succ _) (.string (bs run))).setCell (p:=⟨w.heap.size+1,1,none⟩) (Nat.le_succ _) (.string (bs R.1)));clear A8 Xo F8 h3 h4;go_wp2_with fail;exact El (v:=.tuple #[.agg #[.string (bs run),.string (bs R.1)],.int .i64 R.2]) (ax8 results85 _ _ (w.heap.size+1) _ _ (by rfl) q0 q1) rfl ⟨by rw[QN.out],HBF⟩
def af3(w:World)(l:M)(o i:Value)(wr:World):Prop:=∃ (k:Nat) (q:Option Addr) (c:Nat),k≤l.length∧i=.int .i64 (k:Int)∧o=.slice q (Lb (l.take k)).length c∧Bo wr w.heap.size (.slice q (Lb (l.take k)).length c) (Lb (l.take k))∧Bw w wr
def apM(O:M)(key:T)(wr0:World)(i:Value)(wr:World):Prop:=∃ n:Nat,n≤O.length∧i=.int .i64 (n:Int)∧cutR O key O.length=cutR O key n∧Bw wr0 wr
theorem ayo{w:World}{q:Option Addr}{cap:Nat}{l:M}(h:AO w q l)(hl:l.length≤100000):
  Calls prog 89 #[.slice q l.length cap] w fun e w'=>∃ q c,e=.returned (.slice q (Lb l).length c)∧Bo w' w.heap.size (.slice q (Lb l).length c) (Lb l)∧Bw w w':=by
 obtain⟨i0,Ba,AQ,AU,AV⟩:=Du Qu;have HH:=Hi h;clear h;go_enter func89,ntmps89;go_wp2_with fail
 go_loopw [3,4] (fun o i wr=>af3 w l o i wr) (fun _ i _=>l.length -(intOf i).toNat)
 case atStart=>exact⟨0,none,0,AB _,rfl,rfl,VN _ _,Af _ _⟩
 case round=>
  obtain⟨k,qo,co,hk,rfl,rfl,Ah,hb⟩:=hrel;have CZ:=Hi Ah;have HB:=Hi hb;have P7:(Lb (l.take k)).length=k:=by rw[ayX,AL];omega
  have wW:=Hi P7;have HC:=Hi (Es Ah);by_cases hlt:k < l.length
  ·have BN:=Hi (show Lb (l.take (k+1))=Rc (Lb (l.take k)) l[k] from by rw[Cw hlt,ayZ]);obtain⟨a,Cu,hp,-⟩:=(HH.below hb).index cap k hlt;have c0:=hp.key;have c1:=hp.val;generalize l[k]=x at*;generalize Lb (l.take k)=O at*;have Kg:k≤100000:=(by omega);have aCa:O.length≤100000:=(by omega);clear Ah hb hp P7;go_wp2_with fail;have HA:=Hi (Cc c0 c1);obtain⟨R,hR⟩:∃ R,R=wr:=⟨_,rfl⟩
   go_loopw [5] (fun i wq=>apM O x.1 wr i wq) (fun i _=>(intOf i).toNat)
   case atStart=>exact⟨O.length,Ac _,rfl,rfl,Af _ _⟩
   case round=>
    obtain⟨n,hn,rfl,hcut,hbq⟩:=hrel;have Y0:=Hi hcut;have XX:=Hi hbq;clear hcut hbq c0 c1;have x9:=Hi (C9 CZ XX);have HHQ:=Hi (HH.below (HB.trans (XX.mono HB.size)));have CL:=Hi (HB.trans (XX.mono HB.size));have Wh:=Hi (Cc ((XX.cell (BS HA.1)).trans HA.1) ((XX.cell (BS HA.2)).trans HA.2));obtain⟨qe,ce,he,Zf,YN⟩:=HC.out;obtain⟨rfl,rfl⟩:qo=qe∧co=ce:=by injection he with h1 h2 h3;exact⟨h1,h3⟩
    have nk:=Hi Zf;have Ry:=Hi YN;clear he Zf YN;by_cases U6:∃ j,∃ h:j < O.length,n=j+1∧x.1 < O[j].1
    ·obtain⟨j,hj,rfl,O8⟩:=U6;obtain⟨b,qN,d0,-⟩:=XF x9 hj;have De:Op.bytesLess O[j].1 x.1=false:=(by rw[Go.Proofs.bytesLess_eq];simpa using Qr O8);have qp:(O[j].1 == x.1)=false:=H9.2 (fun e=>L6 O8 e.symm)
     have EL:=Hi (show cutR O x.1 (j+1)=cutR O x.1 j from by
      show(if x.1 < (O.getD j ([],[])).1 then cutR O x.1 j else j+1)=_
      rw[Ab (by rw[GY,Cn hj];exact O8)])
     have Zn:IntKind.i64.wrap (((j+1:Nat):Int) -1)=(j:Int):=(by rw[Ei _ (by omega)];omega);have Gy:(0:Int) < ((j+1:Nat):Int):=(by omega);have Sr:0 < j+1:=(by omega);have c0:=Wh.1;have c1:=Wh.2;generalize O[j]=y at*;obtain⟨n,hnj⟩:=ex (j+1);rw[hnj] at Zn Gy Sr ⊢;have HNJ:=Hi hnj;clear O8 hnj;go_wp2_with fail
     go_quiet (fail)
     go_wp2_with fail;go_roundw
     case rel=>exact⟨j,by omega,rfl,by rw[Y0.out,EL.out],XX.trans ((F6 _ _).mono XX.size)⟩
     case measure=>have:=HNJ.out;show(j:Int).toNat < (n:Int).toNat;omega
    ·have IZ:=Hi (show cutR O x.1 O.length=n from by
      rw[Y0.out];cases n with
      |zero=>rfl
      |succ j=>
       show(if x.1 < (O.getD j ([],[])).1 then cutR O x.1 j else j+1)=_
       rw[Aa];rw[GY,Cn (show j < O.length by omega)];exact fun e=>U6 ⟨j,by omega,rfl,e⟩)
     have jo:=fun W=>aco W qo O.length co n hn Ry.out
     have NY:=fun W=>dM W qo O.length co n hn
     have KT:n≤100000:=(by omega);by_cases hz:0 < n
     case' pos=>
      obtain⟨j,hj⟩:∃ j,n=j+1:=⟨n -1,by omega⟩;have Ju:j < O.length:=(by omega);obtain⟨b,qN,d0,-⟩:=XF x9 Ju;have Ee:¬ x.1 < O[j].1:=fun e=>U6 ⟨j,Ju,hj,e⟩
      have hgf:(!Op.bytesLess O[j].1 x.1 && !O[j].1 == x.1)=false:=by
       by_cases e:O[j].1=x.1
       ·simp[e]
       ·have:Op.bytesLess O[j].1 x.1=true:=by
         rw[Go.Proofs.bytesLess_eq];rcases Zr (dJ.1 Ee) with f|f
         ·simpa using f
         ·exact absurd f e
        simp[this]
      have Zn:IntKind.i64.wrap ((n:Int) -1)=(j:Int):=(by rw[Ei _ (by omega)];omega);have Gy:(0:Int) < (n:Int):=(by omega);have c0:=Wh.1;have c1:=Wh.2;generalize O[j]=y at*;clear hj Ee U6;go_wp2_with fail
      go_quiet (fail)
      obtain⟨V,hV⟩:∃ V,V=wr.drewN nq:=⟨_,rfl⟩;have Lg:=Hi (show Bw wr V from by rw[hV];exact F6 _ _);rw[←hV];clear hV c0 c1 d0 qN hgf Zn
     case' neg=>
      have Gy:¬ (0:Int) < (n:Int):=(by omega);clear U6;go_wp2_with fail
      go_quiet (fail)
      obtain⟨V,hV⟩:∃ V,V=wr.drewN nq:=⟨_,rfl⟩;have Lg:=Hi (show Bw wr V from by rw[hV];exact F6 _ _);rw[←hV];clear hV
     all_goals
      have aev:=Hi (C9 x9 Lg);have vC:=Hi (CL.trans (Lg.mono CL.size));have aox:=Hi ((AO.CG aev).front n);have aoi:=Hi ((AO.CG aev).back hn Ry);have Mc:=Hi (show(O.take n).length=n from by rw[AL];omega);have RA:=Hi (show(O.drop n).length=O.length -n from Ce);clear Gy
      have HAQ:=Hi (show Ii qo co n=none→co -n=0 from fun e=>by
       unfold Ii at e;split at e
       ·omega
       ·have:=nk (by cases qo with
         |none=>rfl
         |some p=>simp at e)
        omega)
      have ae4:=Hi (show Rc O x=O.take n++[x]++O.drop n from by unfold Rc;rw[IZ.out])
      go_wp2_with (first
       |(at_builtin;refine ZR rfl _ _ rfl V.heap.size (.slice (some ⟨g2,0,none⟩) (n+1) k2) (n+1) (O.take n++[x]) (O.drop n) rfl Ou (Ii qo co n) (co -n) (O.length -n) rfl RA (aoi.below Ag) HAQ (by omega) Ag.size ?_;intro v3 V3 R9 aiJ j5;have NL:=Hi R9;have Am:=Hi (show Bw V V3 from Ag.grown aiJ Ag.size (fun k e=>DC Ou e));obtain⟨q3,k3,rfl⟩:=Bg R9;clear R9 aiJ j5)
       |(at_builtin;refine wpList_append_own_at _ rfl _ _ 22 rfl V.heap.size 75 i0 _ 2 32 underlying22 Ba AQ AU AV rfl (by decide) _ n _ rfl (DN.alloc _) ⟨V1.heap.size,0,none⟩ 1 1 [.string (bs x.1),.string (bs x.2)] rfl rfl (by intro j u hj;rw[add_plain,DF];exact(Dn▸hj)) (by simp[Value.oneCell']) (by unfold maxLen;omega) (by omega) (by have:=HB1.size;simp;omega) ?_;intro v2 V2 Ob aiI _ Vg;obtain⟨g2,k2,rfl⟩:=ownsRow_succ Ob;have Ou:=Hi (show V2.ownsRow V.heap.size 75 2 (.slice (some ⟨g2,0,none⟩) (n+1) k2) (n+1) (Da (O.take n++[x])) from by rw[RY];exact Ob);have Ag:=Hi (show Bw V V2 from(HB1.alloc HB1.size _).grown aiI (by rw[Aq];have:=HB1.size;omega) (fun k e=>DC DN e));clear Ob aiI Vg)
       |(at_builtin;refine ZR rfl _ _ rfl V.heap.size (.slice none 0 0) 0 [] (O.take n) rfl (VN _ _) qo co n rfl Mc aox nk (by omega) (Ac _) ?_;intro v1 V1 Kj aiH Vf;rw[GJ,Eu] at Kj;have DN:=Hi Kj;have HB1:=Hi (show Bw V V1 from(Af _ V).grown aiH (Ac _) (fun k e=>by simp[Value.ownBlock] at e));have c01:V1.cell? a=some (.string (bs x.1)):=((Lg.trans (HB1.mono Lg.size)).cell (BS Wh.1)).trans Wh.1;have c11:V1.cell? ⟨a.block,a.off+1,none⟩=some (.string (bs x.2)):=((Lg.trans (HB1.mono Lg.size)).cell (p:=⟨a.block,a.off+1,none⟩) (BS Wh.2)).trans Wh.2;obtain⟨q1,k1,rfl⟩:=Bg Kj;clear Kj aiH Vf))
      have CU:=Hi (show af3 w l (.slice q3 (n+1+(O.length -n)) k3) (.int .i64 ((k:Int)+1)) V3 from by
       have FW:(Lb (l.take (k+1))).length=n+1+(O.length -n):=by
        rw[BN.out,ae4.out,Au,Au,Mc.out,RA.out];rfl
       refine⟨k+1,q3,k3,by omega,by go_num,by rw[FW],?_,vC.trans (Am.mono vC.size)⟩;unfold Bo;rw[FW,BN.out,ae4.out];exact E9 NL vC.size)
      go_roundw
      case rel=>exact CU.out
      case measure=>
       show l.length -((k:Int)+1).toNat < l.length -((k:Int)).toNat
       omega
  ·obtain rfl:k=l.length:=(by omega);have IP:=Ah;rw[CY] at IP;have BI:=Hi IP;rw[CY];clear hb Ah P7 HC wW CZ IP;go_wp2_with fail;go_ret;exact⟨_,_,rfl,BI,HB⟩
end Dep
end Go.Proofs.YtmbbhdebddbhoaaGreat
