/- RDep -/
import Derived.Test.YtmbbhdebddbhoaaGreatQ41
set_option maxHeartbeats 8000000
set_option maxRecDepth 100000
set_option linter.all false
namespace Go.Proofs.YtmbbhdebddbhoaaGreat
open Tryz
section
open Go.RowKit Go.Maps Wal
theorem ap1(l:List (List UInt8))(a:Option Addr)(cap:Nat)(w:World)(hl:BB w a l)(hlen:l.length≤maxLen)(IG:l.length≤10000):
  Calls prog 165 #[.slice a l.length cap] w fun e w'=>e=.returned (.tuple #[.string (bs (BK l).1),.int .i64 (BK l).2])∧Bw w w':=by
 unfold maxLen at hlen;by_cases azu:65535 < l.length
 ·have hR:Hid (BK l=([],5)):=Hi (by unfold BK Er;rw[Aa (by omega)]);rw[hR.out];clear hl;go_enter func165,ntmps165;go_wp2_with fail;all_goals
   go_ret2;exact⟨rfl,Ad _ _⟩
 ·have HL:=Hi hl;clear hl;go_enter func165,ntmps165;go_wp2_with fail;refine(YX l.length 2 _ (by omega) (by decide)).mono ?_;rintro e w1⟨rfl,hb⟩;have HB1:=Hi hb;clear hb;go_wp2_with fail
  go_loopw [4,5] (fun v i wr=>∃ (k:Nat),k≤l.length∧i=.int .i64 k∧eF l k v∧Bw w wr) (fun _ i _=>l.length -(intOf i).toNat)
  case atStart=>exact⟨0,by omega,rfl,⟨[],by rw[E8],rfl⟩,HB1⟩
  case round=>
   clear HB1;obtain⟨k,hk,rfl,⟨S,rfl,hS⟩,hb⟩:=hrel;have HS:=Hi hS;have HB:=Hi hb;clear hS hb;by_cases hlt:k < l.length
   ·obtain⟨q,au8,hq⟩:=(HL.below HB).index cap k hlt;have hl2:=pV HS.out;rw[Aw] at hl2;have GV:=Hi (gU hlt HS);by_cases avb:65535 < l[k].length
    ·have hR:Hid (BK l=([],5)):=Hi (by unfold BK Er;rw[Ac (by omega),Zf hlt avb];rfl);clear hl2;generalize l[k]=x at*;go_wp2_with fail;refine(Yu x _ avb).mono ?_;rintro e w3⟨rfl,rfl⟩;go_wp2_with fail;go_ret2;rw[hR.out];exact⟨rfl,HB⟩
    ·have hxl:l[k].length≤65535:=(by omega);have hle:S.length+l[k].length≤1000000000:=(by have:=Kj 65537 (show min k l.length≤10000 by omega);omega);clear hl2 avb;generalize l[k]=x at*;go_wp2_with fail;refine(Yt x _ hxl).mono ?_;rintro e w3⟨rfl,hb3⟩;have HB3:=Hi (HB.trans (hb3.mono HB.size));clear hb3 hq;go_wp2_with fail;go_roundw
     case rel=>exact⟨k+1,by omega,by go_num,eF.next GV hxl rfl,HB3⟩
     case measure=>simp[intOf];omega
   ·obtain rfl:k=l.length:=by omega
    have hR:Hid (BK l=(Crc.le 2 l.length++S,0)):=Hi (by
     have h:=HS.out;rw[Ck] at h;unfold BK Er;rw[Ac (by omega),h];rfl)
    go_wp2_with fail;go_ret2;rw[hR.out];exact⟨rfl,HB⟩
end
namespace Dep
open Go.RowKit Go.Maps
open Wal Fil Prs Kp BH Hex Sha Mem
open Man hiding T
theorem qL(k:T)(w:World)(hk:k.length≤1000000):Calls prog 86 #[.string (bs k)] w fun e w'=>e=.returned (.string (bs (A8.nm k)))∧Bw w w':=by
 have hm:({ data:=#[117] }:ByteArray)=bs [117]:=rfl;have hcut:∀ W,(Instr.slice 9 (.string (bs (De k))) none (some (.int .i64 8)) none).run prog W=.ok (.string (bs ((De k).take 8))) W:=fun W=>Ji prog W 9 underlying9 (De k) 8 (by rw[NI];omega)
 have I5:((De k).take 8).length=8:=by rw[Aw,NI];rfl
 have HH:=Hi (fun(W:World)=>adO ((De k).take 8) W (by rw[I5];omega) (by rw[I5];omega));have hhl:(Dq ((De k).take 8)).length≤16:=by rw[SY,I5];omega
 have HE:=Hi (show[117]++Dq ((De k).take 8)=A8.nm k from rfl);generalize Dq ((De k).take 8)=hx at*;generalize (De k).take 8=sk at*;clear I5;go_enter func86,ntmps86;go_wp2_with fail;refine(adL k (by omega) _).mono ?_;rintro e w1⟨rfl,hb1⟩;have HB1:=Hi hb1;clear hb1;go_wp2_with fail;refine(HH _).mono ?_;rintro e w2⟨rfl,hb2⟩;have HB2:=Hi (HB1.trans (hb2.mono HB1.size));clear hb2;go_wp2_with fail;go_ret;exact⟨by rw[←HE.out];rfl,HB2⟩
theorem ap2{w:World}{a:Option Addr}{cap:Nat}{l:M}(h:Av w a l)(hs:BN l)(hl:l.length≤60000)(asV:rowLen (flat l)≤1000000000):
  Calls prog 88 #[.slice a l.length cap] w fun e w'=>e=.returned (.tuple #[.string (bs ((Bc l).getD [])),.int .i64 (if(Bc l).isSome=true then 0 else 5)])∧Bw w w':=by
 have En:=Hi (rput16_w (cap:=cap) h hs hl asV);by_cases hft:(Bc l).isSome=true
 ·rw[Ac hft];obtain⟨he,hlen⟩:=Rl.1 hft;have OM:=Hi (bO hft);rw[OM.out];rw[he] at En;generalize (CK l).1=s at*;have awd:decide (65535 < (s.length:Int)+4)=false:=Ma (by omega);have hw4:IntKind.i64.wrap ((s.length:Int)+4)=(s.length:Int)+4:=CZ _ (by omega);have TF:=Hi (fun W=>YY s W (by omega));clear he hft hlen h hs asV OM;go_enter func88,ntmps88;go_wp2_with fail;refine En.mono ?_;rintro e w3⟨rfl,hb3⟩;have HB3:=Hi hb3;clear hb3;go_wp2_with fail;refine(TF _).mono ?_;rintro e w4⟨rfl,hb4⟩;have Ay:=Hi (HB3.trans (hb4.mono HB3.size));clear hb4;go_wp2_with fail;go_ret2;exact⟨rfl,Ay⟩
 ·rw[Aa hft];have hn:(Bc l).getD []=[]:=by
   cases hc:Bc l with
   |none=>rfl
   |some d=>rw[hc] at hft;simp at hft
  rw[hn];by_cases he:(CK l).2=0
  ·have hlen:¬ (CK l).1.length+4≤65535:=fun h=>hft (Rl.2 ⟨he,h⟩)
   rw[he] at En;have hsb:=bN l he asV;generalize (CK l).1=s at*;have awd:65535 < (s.length:Int)+4:=(by omega);have hw4:IntKind.i64.wrap ((s.length:Int)+4)=(s.length:Int)+4:=CZ _ (by omega);clear he hft h hs asV hn;go_enter func88,ntmps88;go_wp2_with fail;refine En.mono ?_;rintro e w3⟨rfl,hb3⟩;have HB3:=Hi hb3;clear hb3;go_wp2_with fail;go_ret2;exact⟨rfl,HB3⟩
  ·have hb0:((CK l).2 == 0)=false:=Fq.2 he;generalize CK l=V at*;clear hft h hs asV hn;go_enter func88,ntmps88;go_wp2_with fail;refine En.mono ?_;rintro e w3⟨rfl,hb3⟩;have HB3:=Hi hb3;clear hb3;go_wp2_with fail;go_ret2;exact⟨rfl,HB3⟩
def adY(w:World)(l:M)(run:T)(o i:Value)(wr:World):Prop:=∃ (k:Nat) (O:M) (q:Option Addr) (c:Nat),k≤l.length∧i=.int .i64 (k:Int)∧o=.slice q O.length c∧O=(l.take k).filter (fun p=>!(p.1 == run))∧AP wr w.heap.size (.slice q O.length c) O∧Bw w wr
theorem ap3{w:World}{q:Option Addr}{cap:Nat}{l:M}(run:T)(h:Av w q l)(hl:l.length≤1000000):
  Calls prog 90 #[.slice q l.length cap,.string (bs run)] w fun e w'=>∃ q c,e=.returned (.slice q (l.filter fun p=>!(p.1 == run)).length c)∧AP w' w.heap.size (.slice q (l.filter fun p=>!(p.1 == run)).length c) (l.filter fun p=>!(p.1 == run))∧Bw w w':=by
 obtain⟨i0,hi0,hz0,hz1,hz2⟩:=Cz LU;have HH:=Hi h;clear h;go_enter func90,ntmps90;go_wp2_with fail
 go_loopw [5,6] (fun o i wr=>adY w l run o i wr) (fun _ i _=>l.length -(intOf i).toNat)
 case atStart=>exact⟨0,[],none,0,Ar _,rfl,rfl,rfl,PQ _ _,Ad _ _⟩
 case round=>
  obtain⟨k,O,qo,co,hk,rfl,rfl,hO,ast,hb⟩:=hrel;have HO:=Hi hO;have Ce:=Hi ast;have HB:=Hi hb;have hol:O.length≤1000000:=by
   rw[hO];have:=Km (fun p:T×T=>!(p.1 == run)) (l.take k);rw[Aw] at this;omega
  clear hO ast;by_cases hlt:k < l.length
  ·obtain⟨a,hix,hp,-⟩:=(HH.below hb).index cap k hlt;have c0:=hp.key;have c1:=hp.val;have Bo:=Hi (BS hlt);generalize l[k]=x at*;have hbs:=hb.size;clear hp hb;by_cases hx:x.1=run
   ·have hbe:(x.1 == run)=true:=(by simpa using hx);have HN:=Hi (show O=(l.take (k+1)).filter (fun p=>!(p.1 == run)) from by rw[Bo.out,O1,←HO.out];simp[hx]);clear hx;go_wp2_with fail;go_roundw
    case rel=>exact⟨k+1,O,qo,co,by omega,by go_num,rfl,HN,Ce,HB⟩
    case measure=>
     show l.length -((k:Int)+1).toNat < l.length -((k:Int)).toNat
     omega
   ·have hbe:(x.1 == run)=false:=(by simpa using hx);have HN:=Hi (show O++[x]=(l.take (k+1)).filter (fun p=>!(p.1 == run)) from by rw[Bo.out,O1,←HO.out];simp[hx]);clear hx;go_wp2_with (at_builtin;refine wpList_append_own_at _ rfl _ _ 22 rfl w.heap.size 75 i0 _ 2 32 underlying22 hi0 hz0 hz1 hz2 rfl (by decide) _ O.length _ rfl (Ce.alloc _) ⟨wr.heap.size,0,none⟩ 1 1 [.string (bs x.1),.string (bs x.2)] rfl rfl (by intro j u hj;rw[add_plain,CV];exact(CB▸hj)) (by simp[Value.oneCell']) (by unfold maxLen;omega) (by omega) (by simp;omega) ?_;intro v' w4 asJ asx _ hat;obtain⟨gg,cap2,rfl⟩:=ownsRow_succ asJ;have HOW:=Hi asJ;have HG:=Hi asx;clear asJ asx hat)
    have Ca:=Hi (show adY w l run (.slice (some ⟨gg,0,none⟩) (O.length+1) cap2) (.int .i64 ((k:Int)+1)) w4 from⟨k+1,O++[x],some ⟨gg,0,none⟩,cap2,by omega,by go_num,by rw[Aj];rfl,HN,by unfold AP;rw[Aj,NJ];exact HOW.out,
     (HB.alloc HB.size _).grown HG (by rw[Ai];omega) (fun j e=>CJ Ce e)⟩)
    go_roundw
    case rel=>exact Ca.out
    case measure=>
     show l.length -((k:Int)+1).toNat < l.length -((k:Int)).toNat
     omega
  ·obtain rfl:k=l.length:=(by omega);have hO:=HO.out;rw[Ck] at hO;subst hO;clear hb;go_wp2_with fail;go_ret;exact⟨_,_,rfl,Ce,HB⟩
theorem ap4{fn:Func}{q u:Tmp}(h:fn.results=#[.cell q 75,.tmp u])(tmps:Array Value)(w:World)(g:Nat)(a b:Value)(hq:tmps.getD q undef=.pointer (some ⟨g,0,none⟩))(c0:w.cell? ⟨g,0,none⟩=some a)(c1:w.cell? ⟨g,1,none⟩=some b):
  (results fn tmps).run prog w=.ok (.tuple #[.agg #[a,b],tmps.getD u undef]) w:=by
 rw[results_cell_tmp h,hq];go_simp
theorem ap5{w:World}{run:T}{keys:List T}{kq:Option Addr}{kc:Nat}(h:BB w kq keys)(hl:keys.length≤10000):
  Calls prog 85 #[.agg #[.string (bs run),.slice kq keys.length kc]] w fun e w'=>e=.returned (.tuple #[.agg #[.string (bs run),.string (bs (BK (Az keys)).1)],.int .i64 (BK (Az keys)).2])∧Bw w w':=by
 obtain⟨V,hV⟩:∃ V,(w.alloc (.cells #[.string (bs run),.slice kq keys.length kc] 77)).alloc (.cells #[.string { data:=#[] },.string { data:=#[] }] 75)=V:=⟨_,rfl⟩;obtain⟨u0,u1,KQ⟩:V.heap[w.heap.size]?=some (.cells #[.string (bs run),.slice kq keys.length kc] 77)∧V.heap[w.heap.size+1]?=some (.cells #[.string { data:=#[] },.string { data:=#[] }] 75)∧Bw w V:=by
  have hn0:=Aq w (.cells #[.string (bs run),.slice kq keys.length kc] 77);have hb0:=Am w (.cells #[.string (bs run),.slice kq keys.length kc] 77);have hs0:=Ai w (.cells #[.string (bs run),.slice kq keys.length kc] 77);generalize w.alloc (.cells #[.string (bs run),.slice kq keys.length kc] 77)=V0 at*;have hn1:=Aq V0 (.cells #[.string { data:=#[] },.string { data:=#[] }] 75);have hb1:=Am V0 (.cells #[.string { data:=#[] },.string { data:=#[] }] 75);rw[hV] at hn1 hb1;rw[hs0] at hn1;exact⟨(hb1.block _ (Ae hn0)).trans hn0,hn1,hb0.trans (hb1.mono hb0.size)⟩
 have VM:=Hi u0;have Gx:=Hi u1;have Iu:=Hi KQ;have dH:V.cell? ⟨w.heap.size,1,none⟩=some (.slice kq keys.length kc):=cr u0;have YE:=Hi (qK (cap:=kc) (h.below KQ) (by omega));rw[kX] at YE;have hrl:=Ox keys;have GX:=Hi (show(Az keys).length≤10000 from by omega);clear u0 u1 KQ h hrl;go_enter func85,ntmps85;go_wp2_with fail;clear hV;refine YE.mono ?_;rintro e w1⟨v1,rfl,hr1,hb1⟩;obtain⟨rq,rc,rfl⟩:=AA hr1;have HRW:=Hi (ap1 (Az keys) rq rc w1 (CP hr1) (by have:=GX.out;unfold maxLen;omega) GX);have HB1:=Hi (Iu.trans (hb1.mono Iu.size));have adZ:=Hi ((hb1.block _ (Ae VM)).trans VM);have Y3:=Hi ((hb1.block _ (Ae Gx)).trans Gx);clear hr1 hb1 dH;obtain⟨R,hR⟩:=ex (BK (Az keys));rw[hR] at HRW;have Mr:=Hi hR;clear hR;go_wp2_with fail;refine HRW.mono ?_;rintro e w2⟨rfl,hb2⟩;have HB2:=Hi (HB1.trans (hb2.mono HB1.size));have hu0:=(hb2.block _ (Ae adZ)).trans adZ.out;have hu1:=(hb2.block _ (Ae Y3)).trans Y3.out;have oW:w2.cell? ⟨w.heap.size,0,none⟩=some (.string (bs run)):=cr hu0;have p0:w2.cell? ⟨w.heap.size+1,0,none⟩=some (.string { data:=#[] }):=cr hu1;have p1:w2.cell? ⟨w.heap.size+1,1,none⟩=some (.string { data:=#[] }):=cr hu1;have pf0:=Cb w2 _ 0 _ _ hu1;have pf1:=Cb w2 _ 1 _ _ hu1;have h3:=Bh w2 (w.heap.size+1) 0 _ _ (.string (bs run)) hu1;have h4:=Bh _ (w.heap.size+1) 1 _ _ (.string (bs R.1)) h3;have q0:((w2.setCell ⟨w.heap.size+1,0,none⟩ (.string (bs run))).setCell ⟨w.heap.size+1,1,none⟩ (.string (bs R.1))).cell? ⟨w.heap.size+1,0,none⟩=some (.string (bs run)):=cr h4
 have q1:((w2.setCell ⟨w.heap.size+1,0,none⟩ (.string (bs run))).setCell ⟨w.heap.size+1,1,none⟩ (.string (bs R.1))).cell? ⟨w.heap.size+1,1,none⟩=some (.string (bs R.1)):=cr h4;have HBF:=Hi ((HB2.setCell (p:=⟨w.heap.size+1,0,none⟩) (Nat.le_succ _) (.string (bs run))).setCell (p:=⟨w.heap.size+1,1,none⟩) (Nat.le_succ _) (.string (bs R.1)));clear hb2 hu0 hu1 h3 h4;go_wp2_with fail;exact Dt (v:=.tuple #[.agg #[.string (bs run),.string (bs R.1)],.int .i64 R.2]) (ap4 results85 _ _ (w.heap.size+1) _ _ (by rfl) q0 q1) rfl ⟨by rw[Mr.out],HBF⟩
def ae0(w:World)(l:M)(o i:Value)(wr:World):Prop:=∃ (k:Nat) (q:Option Addr) (c:Nat),k≤l.length∧i=.int .i64 (k:Int)∧o=.slice q (Ic (l.take k)).length c∧AP wr w.heap.size (.slice q (Ic (l.take k)).length c) (Ic (l.take k))∧Bw w wr
def ap7(O:M)(key:T)(tV:World)(i:Value)(wr:World):Prop:=∃ n:Nat,n≤O.length∧i=.int .i64 (n:Int)∧cutR O key O.length=cutR O key n∧Bw tV wr
theorem ap8{w:World}{q:Option Addr}{cap:Nat}{l:M}(h:Av w q l)(hl:l.length≤100000):
  Calls prog 89 #[.slice q l.length cap] w fun e w'=>∃ q c,e=.returned (.slice q (Ic l).length c)∧AP w' w.heap.size (.slice q (Ic l).length c) (Ic l)∧Bw w w':=by
 obtain⟨i0,hi0,hz0,hz1,hz2⟩:=Cz LU;have HH:=Hi h;clear h;go_enter func89,ntmps89;go_wp2_with fail
 go_loopw [3,4] (fun o i wr=>ae0 w l o i wr) (fun _ i _=>l.length -(intOf i).toNat)
 case atStart=>exact⟨0,none,0,Ar _,rfl,rfl,PQ _ _,Ad _ _⟩
 case round=>
  obtain⟨k,qo,co,hk,rfl,rfl,ast,hb⟩:=hrel;have Ce:=Hi ast;have HB:=Hi hb;have hol:(Ic (l.take k)).length=k:=by rw[ano,Aw];omega
  have kU:=Hi hol;have HC:=Hi (Dl ast);by_cases hlt:k < l.length
  ·have Bo:=Hi (show Ic (l.take (k+1))=MV (Ic (l.take k)) l[k] from by rw[BS hlt,anp]);obtain⟨a,hix,hp,-⟩:=(HH.below hb).index cap k hlt;have c0:=hp.key;have c1:=hp.val;generalize l[k]=x at*;generalize Ic (l.take k)=O at*;have hkb:k≤100000:=(by omega);have asa:O.length≤100000:=(by omega);clear ast hb hp hol;go_wp2_with fail;have HA:=Hi (BD c0 c1);obtain⟨R,hR⟩:∃ R,R=wr:=⟨_,rfl⟩
   go_loopw [5] (fun i wq=>ap7 O x.1 wr i wq) (fun i _=>(intOf i).toNat)
   case atStart=>exact⟨O.length,Ab _,rfl,rfl,Ad _ _⟩
   case round=>
    obtain⟨n,hn,rfl,hcut,hbq⟩:=hrel;have Sr:=Hi hcut;have U6:=Hi hbq;clear hcut hbq c0 c1;have qM:=Hi (Bp Ce U6);have HHQ:=Hi (HH.below (HB.trans (U6.mono HB.size)));have BM:=Hi (HB.trans (U6.mono HB.size));have RA:=Hi (BD ((U6.cell (Bz HA.1)).trans HA.1) ((U6.cell (Bz HA.2)).trans HA.2));obtain⟨qe,ce,he,hqo,hco⟩:=HC.out;obtain⟨rfl,rfl⟩:qo=qe∧co=ce:=by injection he with h1 h2 h3;exact⟨h1,h3⟩
    have aX:=Hi hqo;have Nk:=Hi hco;clear he hqo hco;by_cases hgo:∃ j,∃ h:j < O.length,n=j+1∧x.1 < O[j].1
    ·obtain⟨j,hj,rfl,avm⟩:=hgo;obtain⟨b,ZK,d0,-⟩:=Rz qM hj;have hbl:Op.bytesLess O[j].1 x.1=false:=(by rw[Go.Proofs.bytesLess_eq];simpa using Lp avm);have hbe:(O[j].1 == x.1)=false:=Fq.2 (fun e=>I1 avm e.symm)
     have Eg:=Hi (show cutR O x.1 (j+1)=cutR O x.1 j from by
      show(if x.1 < (O.getD j ([],[])).1 then cutR O x.1 j else j+1)=_
      rw[Ac (by rw[FK,BP hj];exact avm)])
     have hwr:IntKind.i64.wrap (((j+1:Nat):Int) -1)=(j:Int):=(by rw[CZ _ (by omega)];omega);have hgt:(0:Int) < ((j+1:Nat):Int):=(by omega);have awd:0 < j+1:=(by omega);have c0:=RA.1;have c1:=RA.2;generalize O[j]=y at*;obtain⟨n,qN⟩:=ex (j+1);rw[qN] at hwr hgt awd ⊢;have HNJ:=Hi qN;clear avm qN;go_wp2_with fail
     go_quiet (fail)
     go_wp2_with fail;go_roundw
     case rel=>exact⟨j,by omega,rfl,by rw[Sr.out,Eg.out],U6.trans ((DK _ _).mono U6.size)⟩
     case measure=>have:=HNJ.out;show(j:Int).toNat < (n:Int).toNat;omega
    ·have HAT:=Hi (show cutR O x.1 O.length=n from by
      rw[Sr.out];cases n with
      |zero=>rfl
      |succ j=>
       show(if x.1 < (O.getD j ([],[])).1 then cutR O x.1 j else j+1)=_
       rw[Aa];rw[FK,BP (show j < O.length by omega)];exact fun e=>hgo ⟨j,by omega,rfl,e⟩)
     have hfr:=fun W=>lJ W qo O.length co n hn Nk.out
     have hbk:=fun W=>Vf W qo O.length co n hn
     have hnb:n≤100000:=(by omega);by_cases hz:0 < n
     case' pos=>
      obtain⟨j,hj⟩:∃ j,n=j+1:=⟨n -1,by omega⟩;have hjl:j < O.length:=(by omega);obtain⟨b,ZK,d0,-⟩:=Rz qM hjl;have hnl:¬ x.1 < O[j].1:=fun e=>hgo ⟨j,hjl,hj,e⟩
      have hgf:(!Op.bytesLess O[j].1 x.1 && !O[j].1 == x.1)=false:=by
       by_cases e:O[j].1=x.1
       ·simp[e]
       ·have:Op.bytesLess O[j].1 x.1=true:=by
         rw[Go.Proofs.bytesLess_eq];rcases SQ (V6.1 hnl) with f|f
         ·simpa using f
         ·exact absurd f e
        simp[this]
      have hwr:IntKind.i64.wrap ((n:Int) -1)=(j:Int):=(by rw[CZ _ (by omega)];omega);have hgt:(0:Int) < (n:Int):=(by omega);have c0:=RA.1;have c1:=RA.2;generalize O[j]=y at*;clear hj hnl hgo;go_wp2_with fail
      go_quiet (fail)
      obtain⟨V,hV⟩:∃ V,V=wr.drewN nq:=⟨_,rfl⟩;have Iu:=Hi (show Bw wr V from by rw[hV];exact DK _ _);rw[←hV];clear hV c0 c1 d0 ZK hgf hwr
     case' neg=>
      have hgt:¬ (0:Int) < (n:Int):=(by omega);clear hgo;go_wp2_with fail
      go_quiet (fail)
      obtain⟨V,hV⟩:∃ V,V=wr.drewN nq:=⟨_,rfl⟩;have Iu:=Hi (show Bw wr V from by rw[hV];exact DK _ _);rw[←hV];clear hV
     all_goals
      have ae1:=Hi (Bp qM Iu);have qO:=Hi (BM.trans (Iu.mono BM.size));have apa:=Hi ((Av.BU ae1).front n);have apb:=Hi ((Av.BU ae1).back hn Nk);have IV:=Hi (show(O.take n).length=n from by rw[Aw];omega);have Nn:=Hi (show(O.drop n).length=O.length -n from BA);clear hgt
      have HAQ:=Hi (show FT qo co n=none→co -n=0 from fun e=>by
       unfold FT at e;split at e
       ·omega
       ·have:=aX (by cases qo with
         |none=>rfl
         |some p=>simp at e)
        omega)
      have ae2:=Hi (show MV O x=O.take n++[x]++O.drop n from by unfold MV;rw[HAT.out])
      go_wp2_with (first
       |(at_builtin;refine T9 rfl _ _ rfl V.heap.size (.slice (some ⟨g2,0,none⟩) (n+1) k2) (n+1) (O.take n++[x]) (O.drop n) rfl KT (FT qo co n) (co -n) (O.length -n) rfl Nn (apb.below HB2) HAQ (by omega) HB2.size ?_;intro v3 V3 aw3 aAE YD;have K7:=Hi aw3;have HB3:=Hi (show Bw V V3 from HB2.grown aAE HB2.size (fun k e=>CJ KT e));obtain⟨q3,k3,rfl⟩:=AA aw3;clear aw3 aAE YD)
       |(at_builtin;refine wpList_append_own_at _ rfl _ _ 22 rfl V.heap.size 75 i0 _ 2 32 underlying22 hi0 hz0 hz1 hz2 rfl (by decide) _ n _ rfl (Cq.alloc _) ⟨V1.heap.size,0,none⟩ 1 1 [.string (bs x.1),.string (bs x.2)] rfl rfl (by intro j u hj;rw[add_plain,CV];exact(CB▸hj)) (by simp[Value.oneCell']) (by unfold maxLen;omega) (by omega) (by have:=HB1.size;simp;omega) ?_;intro v2 V2 avo aAD _ Pf;obtain⟨g2,k2,rfl⟩:=ownsRow_succ avo;have KT:=Hi (show V2.ownsRow V.heap.size 75 2 (.slice (some ⟨g2,0,none⟩) (n+1) k2) (n+1) (Cj (O.take n++[x])) from by rw[NJ];exact avo);have HB2:=Hi (show Bw V V2 from(HB1.alloc HB1.size _).grown aAD (by rw[Ai];have:=HB1.size;omega) (fun k e=>CJ Cq e));clear avo aAD Pf)
       |(at_builtin;refine T9 rfl _ _ rfl V.heap.size (.slice none 0 0) 0 [] (O.take n) rfl (PQ _ _) qo co n rfl IV apa aX (by omega) (Ab _) ?_;intro v1 V1 aut aAC Pg;rw[Fs,DI] at aut;have Cq:=Hi aut;have HB1:=Hi (show Bw V V1 from(Ad _ V).grown aAC (Ab _) (fun k e=>by simp[Value.ownBlock] at e));have c01:V1.cell? a=some (.string (bs x.1)):=((Iu.trans (HB1.mono Iu.size)).cell (Bz RA.1)).trans RA.1;have c11:V1.cell? ⟨a.block,a.off+1,none⟩=some (.string (bs x.2)):=((Iu.trans (HB1.mono Iu.size)).cell (p:=⟨a.block,a.off+1,none⟩) (Bz RA.2)).trans RA.2;obtain⟨q1,k1,rfl⟩:=AA aut;clear aut aAC Pg))
      have Ca:=Hi (show ae0 w l (.slice q3 (n+1+(O.length -n)) k3) (.int .i64 ((k:Int)+1)) V3 from by
       have hl3:(Ic (l.take (k+1))).length=n+1+(O.length -n):=by
        rw[Bo.out,ae2.out,Aj,Aj,IV.out,Nn.out];rfl
       refine⟨k+1,q3,k3,by omega,by go_num,by rw[hl3],?_,qO.trans (HB3.mono qO.size)⟩;unfold AP;rw[hl3,Bo.out,ae2.out];exact Da K7 qO.size)
      go_roundw
      case rel=>exact Ca.out
      case measure=>
       show l.length -((k:Int)+1).toNat < l.length -((k:Int)).toNat
       omega
  ·obtain rfl:k=l.length:=(by omega);have aua:=ast;rw[Ck] at aua;have HR2:=Hi aua;rw[Ck];clear hb ast hol HC kU Ce aua;go_wp2_with fail;go_ret;exact⟨_,_,rfl,HR2,HB⟩
end Dep
end Go.Proofs.YtmbbhdebddbhoaaGreat
