/- RDep RUse RSet SwMk -/
import Derived.Test.YtkmninbcgipliaaGreatDoorW14
set_option maxHeartbeats 8000000
set_option maxRecDepth 100000
set_option linter.all false
namespace Go.Proofs.YtkmninbcgipliaaGreatDoor
open Go.Proofs.Tryz
open Go.RowKit
open Go.Maps
section
open Aw
theorem aBF(l:List (List UInt8))(a:Option Addr)(cap:Nat)(w:World)(hl:Dz w a l)(hlen:l.length≤maxLen)(Ez:l.length≤10000):
  Calls prog 194 #[.slice a l.length cap] w (Rt w (.tuple #[(Dg l).1,.int .i64 (Dg l).2])):=by
 unfold maxLen at hlen;by_cases abU:65535 < l.length
 ·have hR:Hid (Dg l=([],5)):=Hi (by unfold Dg GM;rw[A9 (by omega)]);rw[hR.out];clear hl
  go_in
  go_wp2_with fail;all_goals
   go_ret2;exact⟨rfl,Ai _ _⟩
 ·have HL:=Hi hl;clear hl
  go_in
  go_wp2_with fail;refine(wy l.length 2 _ (by omega) (by decide)).mono ?_;rintro e w1⟨rfl,hb⟩;have HB1:=Hi hb;clear hb;go_wp2
  go_loopw [4,5] (fun v i wr=>∃ (k:Nat),k≤l.length∧i=.int .i64 k∧ru l k v∧Bw w wr) (fun _ i _=>l.length -(intOf i).toNat)
  case atStart=>exact⟨0,by omega,rfl,⟨[],by rw[Eg],rfl⟩,HB1⟩
  case round=>
   clear HB1;obtain⟨k,hk,rfl,⟨S,rfl,hS⟩,hb⟩:=hrel;have HS:=Hi hS;have HB:=Hi hb;clear hS hb;by_cases hlt:k < l.length
   ·obtain⟨q,II,hq⟩:=(HL.below HB).index cap k hlt;have Ho:=aeH HS.out;rw[Bc] at Ho;have Lr:=Hi (aeI hlt HS);by_cases Pj:65535 < l[k].length
    ·have hR:Hid (Dg l=([],5)):=Hi (by unfold Dg GM;rw[Ae (by omega),xI hlt Pj];rfl);clear Ho;generalize l[k]=x at*;go_wp2_with fail;refine(oo x _ Pj).mono ?_;rintro e w3⟨rfl,rfl⟩;go_wp2;go_ret2;rw[hR.out];exact⟨rfl,HB⟩
    ·have Gv:l[k].length≤65535:=(by omega);have hle:S.length+l[k].length≤1000000000:=(by have:=PN 65537 (show min k l.length≤10000 by omega);omega);clear Ho Pj;generalize l[k]=x at*;go_wp2_with fail;refine(ou x _ Gv).mono ?_;rintro e w3⟨rfl,Av⟩;have Au:=bH HB Av;clear Av hq;go_wp2;go_roundw
     case rel=>exact⟨k+1,by omega,by go_num,ru.next Lr Gv rfl,Au⟩
     case measure=>simp[intOf];omega
   ·obtain rfl:k=l.length:=by omega
    have hR:Hid (Dg l=(Ab.le 2 l.length++S,0)):=Hi (by
     have h:=HS.out;rw[D5] at h;unfold Dg GM;rw[Ae (by omega),h];rfl)
    go_wp2;go_ret2;rw[hR.out];exact⟨rfl,HB⟩
end
namespace Ci
open Aw Ah Bu Kp Bz Hex BH Mem
open Aq hiding T
theorem aei(k:T)(w:World)(hk:k.length≤1000000):Calls prog 113 #[k] w (Rt w ↑(Aa.nm k)):=by
 have hm:({ data:=#[117] }:ByteArray)=bs [117]:=rfl;have hcut:∀ W,(Instr.slice 9 ↑(EY k) none (some (.int .i64 8)) none).run prog W=.ok ↑((EY k).take 8) W:=fun W=>OD prog W 9 underlying9 (EY k) 8 (by rw[Uu];omega)
 have Mg:((EY k).take 8).length=8:=by rw[Bc,Uu];rfl
 have HH:=Hi (fun(W:World)=>aed ((EY k).take 8) W (by rw[Mg];omega) (by rw[Mg];omega));have hhl:(Eu ((EY k).take 8)).length≤16:=by rw[U2,Mg];omega
 have HE:=Hi (show[117]++Eu ((EY k).take 8)=Aa.nm k from rfl);generalize Eu ((EY k).take 8)=hx at*;generalize (EY k).take 8=sk at*;clear Mg
 go_in
 go_wp2_with fail;refine(aoJ k (by omega) _).mono ?_;rintro e w1⟨rfl,Ak⟩;have HB1:=Hi Ak;clear Ak;go_wp2_with fail;refine(HH _).mono ?_;rintro e w2⟨rfl,Ac⟩;have Aj:=bH HB1 Ac;clear Ac;go_wp2;go_ret;exact⟨by rw[←HE.out];rfl,Aj⟩
theorem aB1{w:World}{a:Option Addr}{cap:Nat}{l:M}(h:Bg w a l)(hs:D8 l)(hl:l.length≤60000)(Df:rowLen (flat l)≤1000000000):
  Calls prog 115 #[.slice a l.length cap] w fun e w'=>e=.returned (.tuple #[((C9 l).getD []),.int .i64 (if(C9 l).isSome=true then 0 else 5)])∧Bw w w':=by
 have Gp:=Hi (aoH (cap:=cap) h hs hl Df);by_cases Ck:(C9 l).isSome=true
 ·rw[Ae Ck];obtain⟨he,hlen⟩:=Y0.1 Ck;have O4:=Hi (rQ Ck);rw[O4.out];rw[he] at Gp;generalize (Ej l).1=s at*;have U5:decide (65535 < (s.length:Int)+4)=false:=decide_eq_false (by omega);have IK:IntKind.i64.wrap ((s.length:Int)+4)=(s.length:Int)+4:=EN _ (by omega);have ZI:=Hi (fun W=>xe s W (by omega));clear he Ck hlen h hs Df O4
  go_in
  go_wp2_with fail;refine Gp.mono ?_;rintro e w3⟨rfl,Av⟩;have Au:=Hi Av;clear Av;go_wp2_with fail;refine(ZI _).mono ?_;rintro e w4⟨rfl,AB⟩;have AX:=bH Au AB;clear AB;go_wp2;go_ret2;exact⟨rfl,AX⟩
 ·rw[A9 Ck];have hn:(C9 l).getD []=[]:=by
   cases hc:C9 l with
   |none=>rfl
   |some d=>rw[hc] at Ck;simp at Ck
  rw[hn];by_cases he:(Ej l).2=0
  ·have hlen:¬ (Ej l).1.length+4≤65535:=fun h=>Ck (Y0.2 ⟨he,h⟩)
   rw[he] at Gp;have Ta:=wP l he Df;generalize (Ej l).1=s at*;have U5:65535 < (s.length:Int)+4:=(by omega);have IK:IntKind.i64.wrap ((s.length:Int)+4)=(s.length:Int)+4:=EN _ (by omega);clear he Ck h hs Df hn
   go_in
   go_wp2_with fail;refine Gp.mono ?_;rintro e w3⟨rfl,Av⟩;have Au:=Hi Av;clear Av;go_wp2;go_ret2;exact⟨rfl,Au⟩
  ·have Be:((Ej l).2 == 0)=false:=Ev.2 he;generalize Ej l=V at*;clear Ck h hs Df hn
   go_in
   go_wp2_with fail;refine Gp.mono ?_;rintro e w3⟨rfl,Av⟩;have Au:=Hi Av;clear Av;go_wp2;go_ret2;exact⟨rfl,Au⟩
def agK(w:World)(l:M)(run:T)(o i:Value)(wr:World):Prop:=∃ (k:Nat) (O:M) (q:Option Addr) (c:Nat),k≤l.length∧i= ↑(k:Int)∧o=.slice q O.length c∧O=(l.take k).filter (fun p=>!(p.1 == run))∧BK wr w.heap.size (.slice q O.length c) O∧Bw w wr
theorem aBW{w:World}{q:Option Addr}{cap:Nat}{l:M}(run:T)(h:Bg w q l)(hl:l.length≤1000000):
  Calls prog 117 #[.slice q l.length cap,run] w fun e w'=>∃ q c,e=.returned (.slice q (l.filter fun p=>!(p.1 == run)).length c)∧BK w' w.heap.size (.slice q (l.filter fun p=>!(p.1 == run)).length c) (l.filter fun p=>!(p.1 == run))∧Bw w w':=by
 obtain⟨i0,Bh,AY,AZ,Bb⟩:=Dy RO;have HH:=Hi h;clear h
 go_in
 go_wp2
 go_loopw [5,6] (fun o i wr=>agK w l run o i wr) (fun _ i _=>l.length -(intOf i).toNat)
 case atStart=>exact⟨0,[],none,0,AV _,rfl,rfl,rfl,Xi _ _,Ai _ _⟩
 case round=>
  obtain⟨k,O,qo,co,hk,rfl,rfl,hO,Af,hb⟩:=hrel;have HO:=Hi hO;have BF:=Hi Af;have HB:=Hi hb;have Rq:O.length≤1000000:=by
   rw[hO];have:=LW (fun p:T×T=>!(p.1 == run)) (l.take k);rw[Bc] at this;omega
  clear hO Af;by_cases hlt:k < l.length
  ·obtain⟨a,Cn,hp,-⟩:=(HH.below hb).index cap k hlt;have c0:=hp.key;have c1:=hp.val;have CL:=Hi (Cr hlt);generalize l[k]=x at*;have hbs:=hb.size;clear hp hb;by_cases hx:x.1=run
   ·have ug:(x.1 == run)=true:=(by simpa using hx);have HN:=Hi (show O=(l.take (k+1)).filter (fun p=>!(p.1 == run)) from by rw[CL.out,IQ,←HO.out];simp[hx]);clear hx;go_wp2;go_roundw
    case rel=>exact⟨k+1,O,qo,co,by omega,by go_num,rfl,HN,BF,HB⟩
    case measure=>
     show l.length -((k:Int)+1).toNat < l.length -((k:Int)).toNat
     omega
   ·have ug:(x.1 == run)=false:=(by simpa using hx);have HN:=Hi (show O++[x]=(l.take (k+1)).filter (fun p=>!(p.1 == run)) from by rw[CL.out,IQ,←HO.out];simp[hx]);clear hx;go_wp2_with (at_builtin;refine wpList_append_own_at _ rfl _ _ 30 rfl w.heap.size 51 i0 _ 2 32 underlying30 Bh AY AZ Bb rfl (by decide) _ O.length _ rfl (BF.alloc _) ⟨wr.heap.size,0,none⟩ 1 1 [.string (bs x.1),.string (bs x.2)] rfl rfl (by intro j u hj;rw[add_plain,E5];exact(Dx▸hj)) (by simp[Value.oneCell']) (by unfold maxLen;omega) (by omega) (by simp;omega) ?_;intro v' w4 Cf AJ _ hat;obtain⟨gg,cap2,rfl⟩:=ownsRow_succ Cf;have TG:=Hi Cf;have HG:=Hi AJ;clear Cf AJ hat)
    have CJ:=Hi (show agK w l run (.slice gg (O.length+1) cap2) (.int .i64 ((k:Int)+1)) w4 from⟨k+1,O++[x],some ⟨gg,0,none⟩,cap2,by omega,by go_num,by rw[AA];rfl,HN,by unfold BK;rw[AA,TQ];exact TG.out,
     (HB.alloc HB.size _).grown HG (by rw[Az];omega) (fun j e=>DT BF e)⟩)
    go_roundw
    case rel=>exact CJ.out
    case measure=>
     show l.length -((k:Int)+1).toNat < l.length -((k:Int)).toNat
     omega
  ·obtain rfl:k=l.length:=(by omega);have hO:=HO.out;rw[D5] at hO;subst hO;clear hb;go_wp2;go_ret;exact⟨_,_,rfl,BF,HB⟩
theorem aAl{fn:Func}{q u:Tmp}(h:fn.results=#[.cell q 51,.tmp u])(tmps:Array Value)(w:World)(g:Nat)(a b:Value)(hq:tmps.getD q undef=.pointer g)(c0:w.cell? g=some a)(c1:w.cell? ⟨g,1,none⟩=some b):
  (results fn tmps).run prog w=.ok (.tuple #[.agg #[a,b],tmps.getD u undef]) w:=by
 rw[results_cell_tmp h,hq];go_simp
theorem aBA{w:World}{run:T}{keys:List T}{kq:Option Addr}{kc:Nat}(h:Dz w kq keys)(hl:keys.length≤10000):
  Calls prog 112 #[.agg #[run,.slice kq keys.length kc]] w (Rt w (.tuple #[.agg #[run,(Dg (Bi keys)).1],.int .i64 (Dg (Bi keys)).2])):=by
 obtain⟨V,hV⟩:∃ V,(w.alloc (.cells #[run,.slice kq keys.length kc] 63)).alloc (.cells #[.string { data:=#[] },.string { data:=#[] }] 51)=V:=⟨_,rfl⟩;obtain⟨u0,u1,fE⟩:V.heap[w.heap.size]?=some (.cells #[run,.slice kq keys.length kc] 63)∧V.heap[w.heap.size+1]?=some (.cells #[.string { data:=#[] },.string { data:=#[] }] 51)∧Bw w V:=by
  have YF:=AU w (.cells #[run,.slice kq keys.length kc] 63);have Be:=AQ w (.cells #[run,.slice kq keys.length kc] 63);have Rv:=Az w (.cells #[run,.slice kq keys.length kc] 63);generalize w.alloc (.cells #[run,.slice kq keys.length kc] 63)=V0 at*;have EB:=AU V0 (.cells #[.string { data:=#[] },.string { data:=#[] }] 51);have Ak:=AQ V0 (.cells #[.string { data:=#[] },.string { data:=#[] }] 51);rw[hV] at EB Ak;rw[Rv] at EB;exact⟨(Ak.block _ (Ao YF)).trans YF,EB,Be.trans (Ak.mono Be.size)⟩
 have HU0:=Hi u0;have NA:=Hi u1;have PR:=Hi fE;have cu1:V.cell? ⟨w.heap.size,1,none⟩=some (.slice kq keys.length kc):=cr u0;have ZC:=Hi (aee (cap:=kc) (h.below fE) (by omega));rw[aeg] at ZC;have Mk:=VC keys;have Iz:=Hi (show(Bi keys).length≤10000 from by omega);clear u0 u1 fE h Mk
 go_in
 go_wp2_with fail;clear hV;refine ZC.mono ?_;rintro e w1⟨v1,rfl,Qx,Ak⟩;obtain⟨rq,rc,rfl⟩:=Bp Qx;have Wh:=Hi (aBF (Bi keys) rq rc w1 (Hd Qx) (by have:=Iz.out;unfold maxLen;omega) Iz);have HB1:=bH PR Ak;have ags:=Hi ((Ak.block _ (Ao HU0)).trans HU0);have jW:=Hi ((Ak.block _ (Ao NA)).trans NA);clear Qx Ak cu1;obtain⟨R,hR⟩:=ex (Dg (Bi keys));rw[hR] at Wh;have Lp:=Hi hR;clear hR;go_wp2_with fail;refine Wh.mono ?_;rintro e w2⟨rfl,Ac⟩;have Aj:=bH HB1 Ac;have YM:=(Ac.block _ (Ao ags)).trans ags.out;have G8:=(Ac.block _ (Ao jW)).trans jW.out;have cu0:w2.cell? w.heap.size=some ↑run:=cr YM;have p0:w2.cell? ⟨w.heap.size+1,0,none⟩=some (.string { data:=#[] }):=cr G8;have p1:w2.cell? ⟨w.heap.size+1,1,none⟩=some (.string { data:=#[] }):=cr G8;have pf0:=CG w2 _ 0 _ _ G8;have pf1:=CG w2 _ 1 _ _ G8;have h3:=Cs w2 (w.heap.size+1) 0 _ _ ↑run G8;have h4:=Cs _ (w.heap.size+1) 1 _ _ ↑R.1 h3;have q0:((w2.setCell ⟨w.heap.size+1,0,none⟩ ↑run).setCell ⟨w.heap.size+1,1,none⟩ ↑R.1).cell? ⟨w.heap.size+1,0,none⟩=some ↑run:=cr h4;have q1:((w2.setCell ⟨w.heap.size+1,0,none⟩ ↑run).setCell ⟨w.heap.size+1,1,none⟩ ↑R.1).cell? ⟨w.heap.size+1,1,none⟩=some ↑R.1:=cr h4;have HBF:=Hi ((Aj.setCell (p:=⟨w.heap.size+1,0,none⟩) (Nat.le_succ _) ↑run).setCell (p:=⟨w.heap.size+1,1,none⟩) (Nat.le_succ _) ↑R.1);clear Ac YM G8 h3 h4;go_wp2_with fail;exact EO (v:=.tuple #[.agg #[run,R.1],.int .i64 R.2]) (aAl results112 _ _ (w.heap.size+1) _ _ (by rfl) q0 q1) rfl ⟨by rw[Lp.out],HBF⟩
def agJ(w:World)(l:M)(o i:Value)(wr:World):Prop:=∃ (k:Nat) (q:Option Addr) (c:Nat),k≤l.length∧i= ↑(k:Int)∧o=.slice q (MC (l.take k)).length c∧BK wr w.heap.size (.slice q (MC (l.take k)).length c) (MC (l.take k))∧Bw w wr
def as9(O:M)(key:T)(wr0:World)(i:Value)(wr:World):Prop:=∃ n:Nat,n≤O.length∧i= ↑(n:Int)∧KI O key O.length=KI O key n∧Bw wr0 wr
theorem aBI{w:World}{q:Option Addr}{cap:Nat}{l:M}(h:Bg w q l)(hl:l.length≤100000):
  Calls prog 116 #[.slice q l.length cap] w fun e w'=>∃ q c,e=.returned (.slice q (MC l).length c)∧BK w' w.heap.size (.slice q (MC l).length c) (MC l)∧Bw w w':=by
 obtain⟨i0,Bh,AY,AZ,Bb⟩:=Dy RO;have HH:=Hi h;clear h
 go_in
 go_wp2
 go_loopw [3,4] (fun o i wr=>agJ w l o i wr) (fun _ i _=>l.length -(intOf i).toNat)
 case atStart=>exact⟨0,none,0,AV _,rfl,rfl,Xi _ _,Ai _ _⟩
 case round=>
  obtain⟨k,qo,co,hk,rfl,rfl,Af,hb⟩:=hrel;have BF:=Hi Af;have HB:=Hi hb;have Rq:(MC (l.take k)).length=k:=by rw[aCl,Bc];omega
  have zo:=Hi Rq;have HC:=Hi (FQ Af);by_cases hlt:k < l.length
  ·have CL:=Hi (show MC (l.take (k+1))=Tc (MC (l.take k)) l[k] from by rw[Cr hlt,aCn]);obtain⟨a,Cn,hp,-⟩:=(HH.below hb).index cap k hlt;have c0:=hp.key;have c1:=hp.val;generalize l[k]=x at*;generalize MC (l.take k)=O at*;have SL:k≤100000:=(by omega);have aG7:O.length≤100000:=(by omega);clear Af hb hp Rq;go_wp2_with fail;have HA:=Hi (CB c0 c1);obtain⟨R,hR⟩:∃ R,R=wr:=⟨_,rfl⟩
   go_loopw [5] (fun i wq=>as9 O x.1 wr i wq) (fun i _=>(intOf i).toNat)
   case atStart=>exact⟨O.length,Ag _,rfl,rfl,Ai _ _⟩
   case round=>
    obtain⟨n,hn,rfl,hcut,hbq⟩:=hrel;have pV:=Hi hcut;have Zm:=Hi hbq;clear hcut hbq c0 c1;have zy:=Hi (Cc BF Zm);have HHQ:=Hi (HH.below (bT HB Zm));have D6:=bH HB Zm;have Nt:=Hi (CB ((Zm.cell (Cv HA.1)).trans HA.1) ((Zm.cell (Cv HA.2)).trans HA.2));obtain⟨qe,ce,he,aW,ay⟩:=HC.out;obtain⟨rfl,rfl⟩:qo=qe∧co=ce:=by injection he with h1 h2 h3;exact⟨h1,h3⟩
    have qI:=Hi aW;have QM:=Hi ay;clear he aW ay;by_cases Vi:∃ j,∃ h:j < O.length,n=j+1∧x.1 < O[j].1
    ·obtain⟨j,hj,rfl,Pv⟩:=Vi;obtain⟨b,aI,d0,-⟩:=Z6 zy hj;have Ct:Op.bytesLess O[j].1 x.1=false:=(by rw[Go.Proofs.bytesLess_eq];simpa using RJ Pv);have ug:(O[j].1 == x.1)=false:=Ev.2 (fun e=>LM Pv e.symm)
     have CW:=Hi (show KI O x.1 (j+1)=KI O x.1 j from by
      show(if x.1 < (O.getD j ([],[])).1 then KI O x.1 j else j+1)=_
      rw[Ae (by rw[IU,CZ hj];exact Pv)])
     have bz:IntKind.i64.wrap (((j+1:Nat):Int) -1)=(j:Int):=(by rw[EN _ (by omega)];omega);have GI:(0:Int) < ((j+1:Nat):Int):=(by omega);have U5:0 < j+1:=(by omega);have c0:=Nt.1;have c1:=Nt.2;generalize O[j]=y at*;obtain⟨n,hnj⟩:=ex (j+1);rw[hnj] at bz GI U5 ⊢;have HNJ:=Hi hnj;clear Pv hnj;go_wp2
     go_quiet (fail)
     go_wp2;go_roundw
     case rel=>exact⟨j,by omega,rfl,by rw[pV.out,CW.out],Zm.trans ((FP _ _).mono Zm.size)⟩
     case measure=>have:=HNJ.out;show(j:Int).toNat < (n:Int).toNat;omega
    ·have Jg:=Hi (show KI O x.1 O.length=n from by
      rw[pV.out];cases n with
      |zero=>rfl
      |succ j=>
       show(if x.1 < (O.getD j ([],[])).1 then KI O x.1 j else j+1)=_
       rw[A9];rw[IU,CZ (show j < O.length by omega)];exact fun e=>Vi ⟨j,by omega,rfl,e⟩)
     have ma:=fun W=>adZ W qo O.length co n hn QM.out
     have Pk:=fun W=>iE W qo O.length co n hn
     have Ke:n≤100000:=(by omega);by_cases hz:0 < n
     case' pos=>
      obtain⟨j,hj⟩:∃ j,n=j+1:=⟨n -1,by omega⟩;have J7:j < O.length:=(by omega);obtain⟨b,aI,d0,-⟩:=Z6 zy J7;have Ei:¬ x.1 < O[j].1:=fun e=>Vi ⟨j,J7,hj,e⟩
      have hgf:(!Op.bytesLess O[j].1 x.1 && !O[j].1 == x.1)=false:=by
       by_cases e:O[j].1=x.1
       ·simp[e]
       ·have:Op.bytesLess O[j].1 x.1=true:=by
         rw[Go.Proofs.bytesLess_eq];rcases bD (iA.1 Ei) with f|f
         ·simpa using f
         ·exact absurd f e
        simp[this]
      have bz:IntKind.i64.wrap ((n:Int) -1)=(j:Int):=(by rw[EN _ (by omega)];omega);have GI:(0:Int) < (n:Int):=(by omega);have c0:=Nt.1;have c1:=Nt.2;generalize O[j]=y at*;clear hj Ei Vi;go_wp2
      go_quiet (fail)
      obtain⟨V,hV⟩:∃ V,V=wr.drewN nq:=⟨_,rfl⟩;have PR:=Hi (show Bw wr V from by rw[hV];exact FP _ _);rw[←hV];clear hV c0 c1 d0 aI hgf bz
     case' neg=>
      have GI:¬ (0:Int) < (n:Int):=(by omega);clear Vi;go_wp2
      go_quiet (fail)
      obtain⟨V,hV⟩:∃ V,V=wr.drewN nq:=⟨_,rfl⟩;have PR:=Hi (show Bw wr V from by rw[hV];exact FP _ _);rw[←hV];clear hV
     all_goals
      have agf:=Hi (Cc zy PR);have yz:=bH D6 PR;have aqX:=Hi ((Bg.CR agf).front n);have aqH:=Hi ((Bg.CR agf).back hn QM);have P5:=Hi (show(O.take n).length=n from by rw[Bc];omega);have VN:=Hi (show(O.drop n).length=O.length -n from CF);clear GI
      have HAQ:=Hi (show Jj qo co n=none→co -n=0 from fun e=>by
       unfold Jj at e;split at e
       ·omega
       ·have:=qI (by cases qo with
         |none=>rfl
         |some p=>simp at e)
        omega)
      have afM:=Hi (show Tc O x=O.take n++[x]++O.drop n from by unfold Tc;rw[Jg.out])
      go_wp2_with (first
       |(at_builtin;refine cu rfl _ _ rfl V.heap.size (.slice g2 (n+1) k2) (n+1) (O.take n++[x]) (O.drop n) rfl PZ (Jj qo co n) (co -n) (O.length -n) rfl VN (aqH.below Aj) HAQ (by omega) Aj.size ?_;intro v3 V3 T9 akE lJ;have OX:=Hi T9;have Au:=Hi (show Bw V V3 from Aj.grown akE Aj.size (fun k e=>DT PZ e));obtain⟨q3,k3,rfl⟩:=Bp T9;clear T9 akE lJ)
       |(at_builtin;refine wpList_append_own_at _ rfl _ _ 30 rfl V.heap.size 51 i0 _ 2 32 underlying30 Bh AY AZ Bb rfl (by decide) _ n _ rfl (Dc.alloc _) ⟨V1.heap.size,0,none⟩ 1 1 [.string (bs x.1),.string (bs x.2)] rfl rfl (by intro j u hj;rw[add_plain,E5];exact(Dx▸hj)) (by simp[Value.oneCell']) (by unfold maxLen;omega) (by omega) (by have:=HB1.size;simp;omega) ?_;intro v2 V2 Py akD _ WL;obtain⟨g2,k2,rfl⟩:=ownsRow_succ Py;have PZ:=Hi (show V2.ownsRow V.heap.size 51 2 (.slice g2 (n+1) k2) (n+1) (Dr (O.take n++[x])) from by rw[TQ];exact Py);have Aj:=Hi (show Bw V V2 from(HB1.alloc HB1.size _).grown akD (by rw[Az];have:=HB1.size;omega) (fun k e=>DT Dc e));clear Py akD WL)
       |(at_builtin;refine cu rfl _ _ rfl V.heap.size ↑() 0 [] (O.take n) rfl (Xi _ _) qo co n rfl P5 aqX qI (by omega) (Ag _) ?_;intro v1 V1 LK akC WK;rw[GQ,EE] at LK;have Dc:=Hi LK;have HB1:=Hi (show Bw V V1 from(Ai _ V).grown akC (Ag _) (fun k e=>by simp[Value.ownBlock] at e));have c01:V1.cell? a=some ↑x.1:=((bT PR HB1).cell (Cv Nt.1)).trans Nt.1;have c11:V1.cell? ⟨a.block,a.off+1,none⟩=some ↑x.2:=((bT PR HB1).cell (p:=⟨a.block,a.off+1,none⟩) (Cv Nt.2)).trans Nt.2;obtain⟨q1,k1,rfl⟩:=Bp LK;clear LK akC WK))
      have CJ:=Hi (show agJ w l (.slice q3 (n+1+(O.length -n)) k3) (.int .i64 ((k:Int)+1)) V3 from by
       have Hq:(MC (l.take (k+1))).length=n+1+(O.length -n):=by
        rw[CL.out,afM.out,AA,AA,P5.out,VN.out];rfl
       refine⟨k+1,q3,k3,by omega,by go_num,by rw[Hq],?_,yz.trans (Au.mono yz.size)⟩;unfold BK;rw[Hq,CL.out,afM.out];exact EM OX yz.size)
      go_roundw
      case rel=>exact CJ.out
      case measure=>
       show l.length -((k:Int)+1).toNat < l.length -((k:Int)).toNat
       omega
  ·obtain rfl:k=l.length:=(by omega);have NQ:=Af;rw[D5] at NQ;have BV:=Hi NQ;rw[D5];clear hb Af Rq HC zo BF NQ;go_wp2;go_ret;exact⟨_,_,rfl,BV,HB⟩
end Ci
namespace Ci
open Aw Ah Bu Kp Bz Hex BH Mem
open Aq hiding T
theorem aDh(l:List T):2+2*l.length≤rowLen l:=by
 unfold rowLen
 induction l with
 |nil=>exact Ag _
 |cons x l ih=>rw[Ce,DY,BM];omega
theorem aB7{s:T}{l:List T}(h:Dv s=some l):2*l.length+2≤s.length:=by
 have h2:=o7 h;unfold GM at h2;split at h2
 ·cases ht:BL l with
  |none=>rw[ht] at h2;cases h2
  |some a=>
   rw[ht] at h2;simp only[EZ,Cu] at h2;have h3:=Xo ht;have h4:=aDh l;rw[←h2,AA,Ab.Cb];omega
 ·cases h2
def aa7(w:World)(q:Option Addr)(cap:Nat)(l:M)(i:Value)(wr:World):Prop:=∃ k:Nat,k≤l.length∧i=.int .i64 k∧Bw w wr∧BK wr w.heap.size (.slice q l.length cap) l
theorem aBU(name data:T)(l:M)(h:Aa.Cm name data=some l)(w:World)(hd:data.length≤1000000):Calls prog 196 #[name,data] w fun e w'=>∃ q cap,e=.returned (.tuple #[.slice q l.length cap,true])∧BK w' w.heap.size (.slice q l.length cap) l∧(q=none→cap=0)∧Bw w w':=by
 have hsh:=(iJ h).2;obtain⟨hne,DF,IJ,s,H8,KX⟩:=Ng h;have mO:Ab.EK data=(s,0):=by rw[KX];exact Ab.adT s
 have CS:s.length≤1000000:=by
  have:data.length=s.length+4:=by rw[KX];unfold Ab.FN;rw[AA,Ab.Cb]
  omega
 have HO:=Hi (aox data w (by omega));rw[mO] at HO;have HG:=Hi (fun(W:World)=>aoq s l (sU H8 (D8.RN DF)) W (by omega));have Iw:=Hi (fun p hp=>(IJ p hp).1)
 have Gy:=Hi (fun(p:T×T) (hp:p∈l)=>show ∃ ks,Dv p.2=some ks∧Bi ks=ks from by
  have h1:rowOk p=true:=(IJ p hp).2;unfold rowOk at h1;cases hr:Dv p.2 with
  |none=>rw[hr] at h1;cases h1
  |some ks=>rw[hr] at h1;exact⟨ks,rfl,by simpa using h1⟩)
 have FY:=Hi DF;have Sr:=Hi hsh;have hlz:((l.length:Int) == 0)=false:=Ev.2 (fun e=>hne (Ku.1 (by omega)));have EA:l.length≤65535:=(iJ h).1;clear h mO H8 KX DF IJ hne hsh
 go_in
 go_wp2_with fail;refine HO.mono ?_;rintro e w1⟨rfl,Ak⟩;have HB1:=Hi Ak;clear Ak;go_wp2_with fail;refine(HG _).mono ?_;rintro e w2⟨v,rfl,DC,Ac⟩;obtain⟨q,cap,rfl,hq,hc⟩:=FQ DC;have BV:=Hi (EM DC HB1.size);have Aj:=bH HB1 Ac;have HQ:=Hi hq;clear DC Ac hq hc;go_wp2
 go_loopw [9] (fun i wr=>aa7 w q cap l i wr) (fun i _=>l.length -(intOf i).toNat)
 case atStart=>exact⟨0,AV _,rfl,Aj,BV⟩
 case round=>
  obtain⟨k,E9,rfl,hb,hr⟩:=hrel;have HB:=Hi hb;have HR:=Hi hr;clear hb hr Aj BV;by_cases hlt:k < l.length
  ·obtain⟨a,Cn,c0,cv⟩:=Z6 HR hlt;have F8:=(Sr _ (CK hlt)).1;have LJ:=Iw _ (CK hlt);obtain⟨keys,aK,alE⟩:=Gy _ (CK hlt);have zG:=Hi (Sr _ (CK hlt)).2;have ZC:=Hi alE
   have GU:=Hi (show keys.length≤50000 from by
    have h1:=aB7 aK;have h3:=(Sr _ (CK hlt)).2;omega)
   have Ey:=Hi (fun(W:World) (hl:l[k].2.length≤65535)=>aBD l[k].2 W (by omega));unfold Go.Proofs.YtkmninbcgipliaaGreatDoor.MR at Ey;simp only[aK] at Ey;clear alE;by_cases KQ:k=0
   ·subst KQ;generalize l[0]=x at*;have HN:=Hi (fun(W:World)=>aei x.1 W (by omega));rw[LJ] at HN;have aH:∀ W,(Instr.indexAt 30 (.slice q l.length cap) (.int .i64 0)).run prog W=.ok (.pointer (some a)) W:=Cn;have HC:=Hi (fun(V:World) (hb:Bw wr V)=>(hb.cell (Cv c0)).trans c0);clear Cn c0 LJ aK;go_wp2_with fail;refine(Ey _ zG).mono ?_;rintro e w5⟨v5,rfl,KV,Bl,-⟩;obtain⟨kq,kc,rfl⟩:=Bp KV;have JW:=Hi (show Aq.Bt w5 0 (.slice kq keys.length kc) keys from KV);have Cj:=Hi Bl;clear KV Bl;go_wp2_with fail;have HS:=Hi (fun(V:World) (hb:Bw w5 V)=>(show(fun V:World=>V.cell? a=some ↑x.1) V from HC V (bT Cj hb)));refine wp_region_held (S:=(fun V:World=>V.cell? a=some ↑x.1)) (by kernel_rfl) ?_;have BR:=Hi ((Ai w5.heap.size w5).drew);refine Ap 0 (HS _ BR) ?_;refine Ap 1 (HS _ BR) ?_;refine Ap 2 (HS _ BR) ?_;refine Ap 3 (HS _ BR) ?_;refine Ap 4 (HS _ BR) ?_;refine MF 5 (fun K1 Gs=>?_);go_simp;refine(aee (cap:=kc) (Hd (Cc JW BR)) GU).mono ?_;rintro e w6⟨v6,rfl,J9,Co⟩;rw[aeg,ZC.out] at J9;obtain⟨q6,c6,rfl⟩:=Bp J9;have EP:=Hi (BR.trans (Co.mono (Ag _)));have I7:=Hi J9;clear J9 Co;refine Gs _ _ (HS _ EP) ?_;try simp only[Act.put,np]
    refine MF 6 (fun K2 Dm=>?_);go_simp;refine(aoI keys keys kq q6 kc c6 _ (Hd (Cc JW EP)) (Hd I7) (by have:=GU.out;unfold maxLen;omega) (by have:=GU.out;unfold maxLen;omega)).mono ?_;rintro e w7⟨rfl,F7⟩;have Ex:=bH EP F7;clear F7;refine Dm _ _ (HS _ Ex) ?_;try simp only[Act.put,np]
    simp only[decide_true];refine Ap 7 (HS _ Ex) ?_;refine Ap 8 (HS _ Ex) ?_;refine Ap 9 (HS _ Ex) ?_;refine Ap 10 (HS _ Ex) ?_;refine Ap 11 (HS _ Ex) ?_;refine Ap 12 (HS _ Ex) ?_;refine Ap 13 (HS _ Ex) ?_;refine Ap 14 (HS _ Ex) ?_;refine Ap 16 (HS _ Ex) ?_;refine MF 15 (fun K3 Qk=>?_);go_simp;refine(HN _).mono ?_;rintro e wA⟨rfl,E8⟩;have Ar:=bH Ex E8;clear E8;refine Qk _ _ (HS _ Ar) ?_;try simp only[Act.put,np]
    refine Ap 17 (HS _ Ar) ?_;refine Ap 18 (HS _ Ar) ?_;refine Ap 19 (HS _ Ar) ?_;refine Ap 20 (HS _ Ar) ?_;refine Ap 21 (HS _ Ar) ?_;refine Ap 22 (HS _ Ar) ?_;refine Io 23 (HS _ Ar) ?_;refine Io 24 (HS _ Ar) ?_;refine Io 25 (HS _ Ar) ?_;refine Io 26 (HS _ Ar) ?_;refine Io 27 (HS _ Ar) ?_;refine Io 28 (HS _ Ar) ?_;refine Io 29 (HS _ Ar) ?_;refine Io 30 (HS _ Ar) ?_;refine Io 31 (HS _ Ar) ?_;refine Io 32 (HS _ Ar) ?_;refine Io 33 (HS _ Ar) ?_;refine Io 34 (HS _ Ar) ?_;refine Ap 35 (HS _ Ar) ?_;refine Ap 36 (HS _ Ar) ?_;refine wpAnyH_done (by kernel_rfl) ?_ _;clear Gs K1 Dm K2 Qk K3;have CJ:=Hi (show aa7 w q cap l (.int .i64 1) wA from⟨1,by omega,rfl,HB.trans ((bT Cj Ar).mono HB.size),Cc (Cc HR Cj) Ar⟩);go_wp2;go_roundw
    case rel=>exact CJ.out
    case measure=>show l.length -(1:Int).toNat < l.length -(0:Int).toNat;omega
   ·obtain⟨a',acf,c1,-⟩:=Z6 HR (show k -1 < l.length by omega);have Rx:IntKind.i64.wrap ((k:Int) -1)=((k -1:Nat):Int):=(by rw[EN _ (by omega)];omega);have GI:(0:Int) < (k:Int):=(by omega);have U5:0 < k:=(by omega);have hne:((l[k -1]'(by omega)).1 == l[k].1)=false:=by
     have h1:=List.pairwise_iff_getElem.1 FY (k -1) k (by omega) hlt (by omega);exact Ev.2 (fun e=>by rw[e] at h1;exact Td _ h1)
    obtain⟨y,hy⟩:=ex (l[k -1]'(by omega));obtain⟨x,hx⟩:=ex (l[k]);rw[hy] at c1 hne;rw[hx] at c0 F8 LJ hne cv zG Ey aK;have HN:=Hi (fun(W:World)=>aei x.1 W (by omega));rw[LJ] at HN;have HC:=Hi (fun(V:World) (hb:Bw wr V)=>CB ((hb.cell (Cv c0)).trans c0) ((hb.cell (Cv c1)).trans c1));clear c0 c1 LJ hx hy aK;go_wp2_with fail;refine(Ey _ zG).mono ?_;rintro e w5⟨v5,rfl,KV,Bl,-⟩;obtain⟨kq,kc,rfl⟩:=Bp KV;have JW:=Hi (show Aq.Bt w5 0 (.slice kq keys.length kc) keys from KV);have Cj:=Hi Bl;clear KV Bl;go_wp2_with fail;have HS:=Hi (fun(V:World) (hb:Bw w5 V)=>(show(fun V:World=>V.cell? a=some ↑x.1∧V.cell? a'=some ↑y.1) V from HC V (bT Cj hb)));refine wp_region_held (S:=(fun V:World=>V.cell? a=some ↑x.1∧V.cell? a'=some ↑y.1)) (by kernel_rfl) ?_;have BR:=Hi ((Ai w5.heap.size w5).drew);refine Ap 0 (HS _ BR) ?_;refine Ap 1 (HS _ BR) ?_;refine Ap 2 (HS _ BR) ?_;refine Ap 3 (HS _ BR) ?_;refine Ap 4 (HS _ BR) ?_;refine MF 5 (fun K1 Gs=>?_);go_simp;refine(aee (cap:=kc) (Hd (Cc JW BR)) GU).mono ?_;rintro e w6⟨v6,rfl,J9,Co⟩;rw[aeg,ZC.out] at J9;obtain⟨q6,c6,rfl⟩:=Bp J9;have EP:=Hi (BR.trans (Co.mono (Ag _)));have I7:=Hi J9;clear J9 Co;refine Gs _ _ (HS _ EP) ?_;try simp only[Act.put,np]
    refine MF 6 (fun K2 Dm=>?_);go_simp;refine(aoI keys keys kq q6 kc c6 _ (Hd (Cc JW EP)) (Hd I7) (by have:=GU.out;unfold maxLen;omega) (by have:=GU.out;unfold maxLen;omega)).mono ?_;rintro e w7⟨rfl,F7⟩;have Ex:=bH EP F7;clear F7;refine Dm _ _ (HS _ Ex) ?_;try simp only[Act.put,np]
    simp only[decide_true];refine Ap 7 (HS _ Ex) ?_;refine Ap 8 (HS _ Ex) ?_;refine Ap 9 (HS _ Ex) ?_;refine Ap 10 (HS _ Ex) ?_;refine Ap 11 (HS _ Ex) ?_;refine Ap 12 (HS _ Ex) ?_;refine Ap 13 (HS _ Ex) ?_;refine Ap 14 (HS _ Ex) ?_;refine Ap 16 (HS _ Ex) ?_;refine MF 15 (fun K3 Qk=>?_);go_simp;refine(HN _).mono ?_;rintro e wA⟨rfl,E8⟩;have Ar:=bH Ex E8;clear E8;refine Qk _ _ (HS _ Ar) ?_;try simp only[Act.put,np]
    refine Ap 17 (HS _ Ar) ?_;refine Ap 18 (HS _ Ar) ?_;refine Ap 19 (HS _ Ar) ?_;refine Ap 20 (HS _ Ar) ?_;refine Ap 21 (HS _ Ar) ?_;refine Ap 22 (HS _ Ar) ?_;refine Ap 23 (HS _ Ar) ?_;refine Ap 24 (HS _ Ar) ?_;refine Ap 25 (HS _ Ar) ?_;refine Ap 26 (HS _ Ar) ?_;refine Ap 27 (HS _ Ar) ?_;refine Ap 28 (HS _ Ar) ?_;refine Ap 29 (HS _ Ar) ?_;refine Ap 30 (HS _ Ar) ?_;refine Ap 31 (HS _ Ar) ?_;refine Ap 32 (HS _ Ar) ?_;refine Ap 33 (HS _ Ar) ?_;refine Ap 34 (HS _ Ar) ?_;refine Ap 35 (HS _ Ar) ?_;refine Ap 36 (HS _ Ar) ?_;refine wpAnyH_done (by kernel_rfl) ?_ _;clear Gs K1 Dm K2 Qk K3;have CJ:=Hi (show aa7 w q cap l (.int .i64 ((k:Int)+1)) wA from⟨k+1,by omega,by go_num,HB.trans ((bT Cj Ar).mono HB.size),Cc (Cc HR Cj) Ar⟩);go_wp2;go_roundw
    case rel=>exact CJ.out
    case measure=>
     show l.length -((k:Int)+1).toNat < l.length -((k:Int)).toNat
     omega
  ·obtain rfl:k=l.length:=(by omega);go_wp2;go_ret2;exact⟨q,cap,rfl,HR,HQ,HB⟩
theorem aBs{w:World}{r:Nat}{v:Value}{A:M}{most:Int}(h:I9 w r v A most)(hA:A.length≤1000000)(name:T)(NK:∀ d,Ah.get A name=some d→d.length≤1000000)(hf:∀ d,Ah.get A name=some d→(fileOf Aa A name).isSome=true):
  Calls prog 114 #[r,name] w fun e w'=>∃ q cap,e=.returned (.tuple #[.slice q ((fileOf Aa A name).getD []).length cap,.bool (Ah.get A name).isSome,false])∧BK w' w.heap.size (.slice q ((fileOf Aa A name).getD []).length cap) ((fileOf Aa A name).getD [])∧(q=none→cap=0)∧Bw w w':=by
 have HG:=Hi (aor h hA name);have Yu:∀ d,Ah.get A name=some d→fileOf Aa A name=Aa.Cm name d:=fun d hd=>by unfold fileOf;rw[hd];rfl
 have hfn:Ah.get A name=none→fileOf Aa A name=none:=fun hd=>by unfold fileOf;rw[hd];rfl
 clear h;cases hx:Ah.get A name with
 |none=>
  rw[hx] at HG;rw[hfn hx];clear hx hf Yu hfn NK
  go_in
  go_wp2_with fail;refine HG.mono ?_;rintro e w1⟨rfl,hb⟩;have HB:=Hi hb;clear hb;go_wp2_with fail;exact EO (v:=.tuple #[(),false,false]) (by simp[results,results114,go_sem]) rfl ⟨none,0,rfl,Xi _ _,fun _=>rfl,HB⟩
 |some d=>
  rw[hx] at HG;have h1:=hf d hx;rw[Yu d hx] at h1 ⊢;obtain⟨l,hl⟩:=KD.1 h1;rw[hl];have HE:=Hi (fun(W:World)=>aBU name d l hl W (NK d hx));clear hx hf Yu hfn NK h1 hl
  go_in
  go_wp2_with fail;refine HG.mono ?_;rintro e w1⟨rfl,hb⟩;have HB:=Hi hb;clear hb;go_wp2_with fail;refine(HE _).mono ?_;rintro e w2⟨q,cap,rfl,hr,hq,Ac⟩;have HR:=Hi (EM hr HB.size);have Aj:=bH HB Ac;clear Ac hr;go_wp2_with fail;exact EO (v:=.tuple #[.slice q l.length cap,true,false]) (by simp[results,results114,go_sem]) rfl ⟨q,cap,rfl,HR,hq,Aj⟩
theorem aDM{l:Us}{k:Nat}(hk:k < l.length):(BG l)[k]'(by rw[PH];exact hk)=QH l[k]:=by unfold BG;rw[List.getElem_map]
theorem aC9{n:Nat}{A:M}{l:Us}(h1:ND l)(h2:Fits Aa (BG l)):Im n A l=if Cy n < used (made A (Fa Aa (BG l))) then(4,A) else(0,made A (Fa Aa (BG l))):=by
 unfold Im;rw[Ae h1];exact ae5 Gf h2
def aa6(w:World)(xb:Nat)(A:M)(l:Us)(i:Value)(wr:World):Prop:=
 ∃ (k:Nat) (vx:Value),k≤l.length∧i= ↑(k:Int)∧I9 wr xb vx (made A (FX Aa (BG (l.take k)))) (1099511627776:Nat)∧Fits Aa (BG (l.take k))∧Bw w wr∧ND (l.take k)
theorem aBG{w:World}{r n cap:Nat}{a:Option Addr}{v:Value}{A:M}{l:Us}(h:I9 w r v A (Cy n))(hu:Up A)(CP:∀ k,Ah.get A (Aa.nm k)=none)(hn:n≤16384)(hA:used A≤Cy n)(hk:NF w a l)(hl:l.length≤20)(E9:∀ x∈l,x.1.length≤1000000∧x.2.length≤10000)(FU:∀ j name,Small (BN Aa (BG (l.take j)) name)):
  Calls prog 43 #[r,.slice a l.length cap] w fun e w'=>e=.returned (.int .i64 (Im n A l).1)∧∃ v',I9 w' r v' (Im n A l).2 (Cy n)∧A7 (fun k=>k=r) w w':=by
 obtain⟨i0,Bh,AY,AZ,Bb⟩:=Dy RO;obtain⟨vq,vc,rfl⟩:=Bp h.2;have Jo:=bU hn;have HR:=Hi h;have HU:=Hi hu;have DU:=Hi CP;have HK:=Hi hk;have GU:=Hi E9;have MO:=Hi FU
 have ET:=Hi (show ∀ k,used (made A (FX Aa (BG (l.take k))))≤2000000 from fun k=>by
  have h1:=VF hu (FX Aa (BG (l.take k)));have h2:=aqa Gf (BG (l.take k));have h3:(BG (l.take k)).length≤20:=by rw[PH,Bc];omega
  have h4:=PN 65560 h3;omega)
 have cr0:w.cell? r=some (.slice vq A.length vc):=cr h.1;have axU:=Ao h.1
 have P8:=Hi (show I9 (w.alloc (.cells #[.slice vq A.length vc,.int .i64 1099511627776] 174)) w.heap.size (.slice vq A.length vc) (made A (FX Aa (BG (l.take 0)))) (1099511627776:Nat) from by
  rw[Gm];exact⟨AU w _,(h.below (AQ w _)).2⟩)
 have AP:=Hi (AQ w (.cells #[.slice vq A.length vc,.int .i64 1099511627776] 174));clear h hu CP hk E9 FU
 go_in
 go_wp2_with fail;have Q3:=Hi (show aa6 w w.heap.size A l (.int .i64 0) (w.alloc (.cells #[.slice vq A.length vc,.int .i64 1099511627776] 174)) from⟨0,.slice vq A.length vc,AV _,rfl,P8,by rw[Gm];exact ab0,AP,by rw[Gm];exact fun u hu=>by simp at hu⟩);generalize w.alloc (.cells #[.slice vq A.length vc,.int .i64 1099511627776] 174)=V0 at*;clear P8 AP cr0
 go_loopw [6] (fun i wr=>aa6 w w.heap.size A l i wr) (fun i _=>l.length -(intOf i).toNat)
 case atStart=>exact Q3.out
 case round=>
  obtain⟨k,vx,hk,rfl,hx,Ck,hb,Ou⟩:=hrel;have HX:=Hi hx;have M3:=Hi Ck;have HB:=Hi hb;have ZG:=Hi Ou;clear Ck hb Q3 Ou;by_cases hlt:k < l.length
  ·obtain⟨q,Cn,ha⟩:=(HK.below HB).index cap k hlt;have c0:=ha.run;obtain⟨kq,kc,c1,Gt,fV⟩:=ha.keys;have M4:=Hi (CK hlt);obtain⟨Mk,YC⟩:=GU _ M4.out;have CL:=Hi (Cr hlt);obtain⟨u,hu⟩:=ex (l[k]);rw[hu] at M4 CL c0 c1 Gt Mk YC;obtain⟨run,keys⟩:=u;have Q0:=Hi (fun(W:World) (hW:Bw wr W)=>aBA (run:=run) (kc:=kc) (Gt.below hW) YC);simp only at c0 c1 Mk YC;clear ha hu Gt hx;by_cases hz:(Dg (Bi keys)).2=0
   case neg=>
    have Uh:Dg (Bi keys)=([],5):=by
     unfold Dg at hz ⊢;cases gN:GM (Bi keys) with
     |none=>rfl
     |some s=>rw[gN] at hz;exact absurd rfl hz
    have VX:=Hi (show Im n A l=(5,A) from by
     unfold Im;rw[A9 (fun h=>hz (h _ M4))])
    rw[Uh] at Q0;clear Uh hz;go_wp2_with fail;refine(Q0 _ (Ai _ _)).mono ?_;rintro e w1⟨rfl,Ak⟩;have HB1:=Hi (HB.trans ((Ak.alloc Ak.size (.cells #[run,.string (bs [])] 51)).mono HB.size));clear Ak;go_wp2;go_ret;rw[VX.out];exact⟨rfl,_,HR.below HB1,A7.of_below HB1⟩
   case pos=>
    obtain⟨s,hs⟩:=ex ((Dg (Bi keys)).1);have X7:Dg (Bi keys)=(s,0):=Prod.ext hs hz;rw[X7] at Q0;have zx:=Hi (show ND (l.take (k+1)) from by rw[CL.out];exact aoF.2 ⟨ZG,hz⟩);have FY:=Hi (show BG (l.take (k+1))=BG (l.take k)++[(run,s)] from by rw[CL.out,apZ];unfold QH;rw[hs]);have HN:=Hi (fun(W:World)=>aei run W (by omega));have NB:=Hi (show(BG (l.take k)).length≤20 from by rw[PH,Bc];omega);have Oo:=sW HU (K:=Aa) (BG (l.take k)) (Aa.nm run);rw[DU.out] at Oo;have Qs:=kL HU DU (xR ZG) M3 run
    have Fx:=Hi (fun(W:World) (hW:Bw wr W)=>aBs (HX.below hW) (by have:=RV (made A (FX Aa (BG (l.take k))));have:=ET k;omega) (Aa.nm run) (fun d hd=>by
     rw[Oo] at hd;split at hd
     ·injection hd with hd
      rw[←hd];cases hc:C9 (BN Aa (BG (l.take k)) (Aa.nm run)) with
      |none=>exact AV _
      |some d=>exact Ay (eD hc) (by decide)
     ·cases hd) (fun d hd=>by
     rw[Oo] at hd;rw[Qs];split at hd
     ·rename_i Dj
      rw[Ae Dj];rfl
     ·cases hd))
    rw[aie HU DU (xR ZG) M3 run] at Fx
    have QQ:=Hi (show Fits Aa (BG l)→(C9 (BN Aa (BG (l.take (k+1))) (Aa.nm run))).isSome=true from fun h=>by
     have h1:=h k (by rw[PH];exact hlt);rw[←xS,aDM hlt] at h1;have h2:(QH l[k]).1=run:=by
      have h3:=CL.out;have h4:=Cr hlt;rw[h4] at h3;have h5:=List.append_cancel_left h3;have h6:l[k]=(run,keys):=(by injection h5);rw[h6];rfl
     rw[h2] at h1;exact h1)
    clear Oo Qs hs hz X7;generalize U9:Aa.nm run=name at*;have MM:=Hi U9;clear U9;have XE:=Hi (TS (K:=Aa) (BG (l.take k)) name);have Nu:=Hi (show BN Aa (BG (l.take (k+1))) name=put run s (BN Aa (BG (l.take k)) name) from by rw[FY.out,Oh,Ae MM.out]);have Lr:=Hi (MO (k+1) name);have Pt:(BN Aa (BG (l.take k)) name).length≤20:=by
     have h1:=tu Aa (BG (l.take k)) name;have:=NB.out;omega
    rw[Nu.out] at Lr QQ
    have OZ:=Hi (show FX Aa (BG (l.take (k+1)))=FX Aa (BG (l.take k))++[⟨name,(C9 (put run s (BN Aa (BG (l.take k)) name))).getD [],false⟩] from by
     rw[←Nu.out,FY.out,xC,←FY.out]
     congr 1
     unfold Nf;rw[show Aa.nm ((run,s):T×T).1=name from MM.out])
    have UH:=Hi (show Fits Aa (BG (l.take (k+1)))↔Fits Aa (BG (l.take k))∧(C9 (put run s (BN Aa (BG (l.take k)) name))).isSome=true from by
     rw[←Nu.out,FY.out,Fits.nU,←FY.out,show Aa.nm ((run,s):T×T).1=name from MM.out])
    generalize BN Aa (BG (l.take k)) name=G at*;generalize (Ah.get (made A (FX Aa (BG (l.take k)))) name).isSome=isb at*;go_wp2_with fail;refine(Q0 _ (Ai _ _)).mono ?_;rintro e w1⟨rfl,Ak⟩;have ajK:=AQ w1 (.cells #[run,s] 51);have jR:=Hi (AU w1 (.cells #[run,s] 51));have HB1:=bH Ak ajK;have c01:(w1.alloc (.cells #[run,s] 51)).cell? q=some ↑run:=(HB1.cell (Cv c0)).trans c0;have MK:=Hi c0;clear Ak ajK c0 c1;go_wp2_with fail;obtain⟨W1,Yf⟩:=ex (w1.alloc (.cells #[run,s] 51));obtain⟨pb,Rs⟩:=ex (w1.heap.size);rw[Yf] at jR HB1 ⊢;rw[Rs] at jR ⊢;clear Yf Rs c01;refine(HN _).mono ?_;rintro e w2⟨rfl,Ac⟩;have Aj:=bH HB1 Ac;have zq:=Hi ((Ac.block _ (Ao jR)).trans jR);clear Ac jR;go_wp2_with fail;refine(Fx _ Aj).mono ?_;rintro e w3⟨q3,c3,rfl,hr3,Uc,Av⟩;have Au:=bH Aj Av;have qz:=Hi ((Av.block _ (Ao zq)).trans zq);have Ny:=Hi hr3;clear hr3 Av zq;have c0:w3.cell? q=some ↑run:=(Au.cell (Cv MK)).trans MK.out;have cp0:w3.cell? pb=some ↑run:=cr qz.out;have cp1:w3.cell? ⟨pb,1,none⟩=some ↑s:=cr qz.out;have KJ:MC (G.filter (fun p=>!(p.1 == run))++[(run,s)])=put run s G:=aCm XE run s;have WZ:=Lr.out;obtain⟨lf,aO⟩:∃ lf,G.filter (fun p=>!(p.1 == run))=lf:=⟨_,rfl⟩;have axw:lf.length≤20:=(by rw[←aO];exact Ay (LW _ _) Pt);have XT:=Hi (fun(W:World) (hW:Bw w3 W)=>aBW (w:=W) (cap:=c3) run ((Bg.CR Ny).below hW) (by omega));have afG:=Hi (XE.put run s);rw[aO] at XT KJ;obtain⟨G2,abB⟩:=ex (put run s G);rw[abB] at KJ WZ afG QQ OZ UH;have ar1:=Hi (show BN Aa (BG (l.take (k+1))) name=G2 from by rw[Nu.out,abB])
    have QW:=Hi (fun(W:World) (q:Option Addr) (c:Nat) (h:Bg W q (lf++[(run,s)]))=>show Calls prog 116 #[.slice q (lf.length+1) c] W fun e w'=>∃ q c,e=.returned (.slice q G2.length c)∧BK w' W.heap.size (.slice q G2.length c) G2∧Bw W w' from by
     have h1:=aBI (cap:=c) h (by rw[AA,La];omega);rw[KJ,AA,La] at h1;exact h1)
    obtain⟨dd,WR⟩:=ex ((C9 G2).getD []);obtain⟨cc,Qn⟩:∃ cc:Int,(if(C9 G2).isSome=true then 0 else 5)=cc:=⟨_,rfl⟩
    have Lg:=Hi (fun(W:World) (q:Option Addr) (c:Nat) (h:Bg W q G2)=>show Calls prog 115 #[.slice q G2.length c] W (Rt W (.tuple #[dd,.int .i64 cc])) from by
     have h1:=aB1 (cap:=c) h (D8.RN afG) (by have:=WZ.1;omega) WZ.2;rw[WR,Qn] at h1;exact h1)
    have Lh:=Hi WR;have Bo:=Hi Qn;have qj:=Hi axw;have Yk:=AQ w3 (.cells #[run,s] 51);have dG:=Hi (AU w3 (.cells #[run,s] 51));have VK:=Hi Yk;have c0P:(w3.alloc (.cells #[run,s] 51)).drew.cell? q=some ↑run:=(Yk.cell (Cv c0)).trans c0
    have dw:=Hi (fun(V:World) (hV:Bw w3 V)=>show V.cell? pb=some ↑run∧V.cell? ⟨pb,1,none⟩=some ↑s from by
     have h1:=(hV.block _ (Ao qz)).trans qz;exact⟨cr h1,cr h1⟩)
    clear KJ aO abB WZ WR Qn Yk Pt;go_wp2_with fail;refine cz ?_
    go_region_law
     (first
      |(go_simp;go_at_call 117;refine(XT _ ((Ai _ w3).drew)).mono ?_;rintro e w4 ⟨q4,c4,rfl,Ii,AB⟩;have AB:Bw w3 w4:=((Ai _ w3).drew).trans (AB.mono (Ag _));have M6:=Hi (EM Ii (show w3.heap.size≤_ from Ag _));have AX:=Hi AB;obtain⟨cq0,cq1⟩:=dw w4 AB;go_wp2_with fail)
      |(go_simp;go_at_call 117;refine(XT _ VK.drew).mono ?_;rintro e w4 ⟨q4,c4,rfl,Ii,AB⟩;have gI:w4.heap[w3.heap.size]?=some (.cells #[run,s] 51):=(AB.block _ (Ao dG)).trans dG.out;have AB:Bw w3 w4:=VK.trans (((Ai _ _).drew.trans (AB.mono (Ag _))).mono VK.size);have M6:=Hi (EM Ii (show w3.heap.size≤_ from VK.size));have AX:=Hi AB;obtain⟨cq0,cq1⟩:=dw w4 AB;go_wp2_with fail)
      |(go_simp;go_at_call 116;refine(QW w5 _ _ (Bg.CR Lm)).mono ?_;rintro e w6 ⟨q6,c6,rfl,J9,Co⟩;have I7:=Hi J9;have EP:=bH Cj Co;go_wp2_with fail)
      |(go_simp;go_at_call 115;refine(Lg w6 q6 c6 (Bg.CR I7)).mono ?_;rintro e w7 ⟨rfl,F7⟩;have Ex:=bH EP F7;go_wp2_with fail)
      |(refine step_append_lies _ (by rfl) _ _ _ (by rfl) w3.heap.size 51 i0 _ 2 32 underlying30 Bh AY AZ Bb (by rfl) (by omega) (.slice q4 lf.length c4) lf.length (Dr lf) (by rfl) M6 ⟨w3.heap.size,0,none⟩ 1 1 [.string (bs run),.string (bs s)] (by rfl) (by rfl) (World.news_of_block (cs:=#[.string (bs run),.string (bs s)]) (t:=51) (fr:=(0,0)) gI) (fun u hu=>by simp at hu;rcases hu with rfl|rfl<;>rfl) (by omega) (by have:=qj.out;unfold maxLen;omega) (by have:=qj.out;omega) (by have:=AX.size;omega) w4.heap.size (by simp) ?_;intro gg cap2 w5 YJ uD ajG al1;have Lm:=Hi (show BK w5 w3.heap.size (.slice gg (lf++[(run,s)]).length cap2) (lf++[(run,s)]) from by unfold BK;rw[AA,TQ];exact YJ);have Cj:=Hi (show Bw w3 w5 from AX.grown uD AX.size (fun j e=>DT M6 e)))
      |(refine step_append_lies _ (by rfl) _ _ _ (by rfl) w3.heap.size 51 i0 _ 2 32 underlying30 Bh AY AZ Bb (by rfl) (by omega) (.slice q4 lf.length c4) lf.length (Dr lf) (by rfl) (M6.alloc _) ⟨w4.heap.size,0,none⟩ 1 1 [.string (bs run),.string (bs s)] (by rfl) (by rfl) (World.news_of_block (cs:=#[.string (bs run),.string (bs s)]) (t:=51) (fr:=(0,0)) (AU w4 _)) (fun u hu=>by simp at hu;rcases hu with rfl|rfl<;>rfl) (by omega) (by have:=qj.out;unfold maxLen;omega) (by have:=qj.out;omega) (by have:=AX.size;rw[Az];omega) (w4.heap.size+1) (by simp) ?_;intro gg cap2 w5 YJ uD ajG al1;have Lm:=Hi (show BK w5 w3.heap.size (.slice gg (lf++[(run,s)]).length cap2) (lf++[(run,s)]) from by unfold BK;rw[AA,TQ];exact YJ);have Cj:=Hi (show Bw w3 w5 from(AX.alloc AX.size _).grown uD (by rw[Az];have:=AX.size;omega) (fun j e=>DT M6 e))))
    all_goals
     dsimp only[Z4];have yo:=Hi (show Bw wr w7 from Au.trans (Ex.mono Au.size));clear Ii J9 AB Co F7 uD YJ ajG al1 cq0 cq1 c0 c0P cp0 cp1;by_cases DV:(C9 G2).isSome=true
     ·have Qn:cc=0:=(by rw[←Bo.out,Ae DV]);obtain⟨d,hd⟩:=KD.1 DV;have WR:dd=d:=(by rw[←Lh.out,hd];rfl);rw[hd] at OZ;simp only[RZ] at OZ;subst Qn WR;have NK:=eD hd;have Zq:=Hi (UH.2 ⟨M3,DV⟩);have Ei:name.length=17:=by rw[←MM.out];exact Gf.len _
      have JX:=Hi (show Am.may ⟨name,dd,false⟩=true from by
       have h1:=ae1 Gf Zq (p:=(run,s)) (by rw[FY.out];simp);have h2:Nf Aa (BG (l.take (k+1))) (Aa.nm ((run,s):T×T).1)=⟨name,dd,false⟩:=by
        unfold Nf;rw[show Aa.nm ((run,s):T×T).1=name from MM.out,ar1.out,hd];rfl
       rw[h2] at h1;exact h1)
      clear DV hd Bo Lh QQ;have BO:=AQ w7 (.cells #[.string (bs name),dd,false] 57);have Ro:=AU w7 (.cells #[.string (bs name),dd,false] 57);have Ar:=bH yo BO;have Ns:=Hi (ao9 (most:=1099511627776) (cap:=1) (HX.below Ar) (HU.made _) (rO (c:=⟨name,dd,false⟩) Ro) (by omega) (by have:=ET k;omega) (by simp) (by show 8+name.length+dd.length+0≤_;omega));have mJ:Xg 1099511627776 (made A (FX Aa (BG (l.take k)))) [⟨name,dd,false⟩]=made A (FX Aa (BG (l.take (k+1)))):=by
       unfold Xg;have h1:=ET (k+1);rw[OZ.out,vL] at h1;rw[Ae ⟨by simp[JX.out],by omega⟩,OZ.out,vL]
      rw[mJ] at Ns;have D6:=bH HB Ar;clear BO Ro mJ;generalize ZW 1099511627776 (made A (FX Aa (BG (l.take k)))) [⟨name,dd,false⟩]=cd at*;go_wp2_with fail;refine Ns.mono ?_;rintro e w8⟨rfl,v8,YS,QA⟩;have CJ:=Hi (show aa6 w w.heap.size A l (.int .i64 ((k:Int)+1)) w8 from⟨k+1,v8,by omega,by go_num,YS,Zq,Cz D6 QA (fun i e=>Nat.le_of_eq e.symm) D6.size,zx⟩);clear YS QA;go_wp2;go_roundw
      case rel=>exact CJ.out
      case measure=>
       show l.length -((k:Int)+1).toNat < l.length -((k:Int)).toNat
       omega
     ·have Qn:cc=5:=(by rw[←Bo.out,A9 DV]);subst Qn
      have VX:=Hi (show Im n A l=(5,A) from by
       unfold Im;split
       ·unfold Ha;rw[A9 (fun hF=>DV (QQ hF))]
       ·rfl)
      have O3:=bH HB yo;clear DV QQ UH Bo Lh;go_wp2;go_ret;rw[VX.out];exact⟨rfl,_,HR.below O3,A7.of_below O3⟩
  ·obtain rfl:k=l.length:=(by omega);have Ck:=M3.out;have Ou:=ZG.out;rw[D5] at Ck hx Ou;have FL:=ET l.length;rw[D5] at FL;have JZ:=Hi (aC9 (n:=n) (A:=A) Ou Ck);rw[←apX HU.out,←nY HU.out] at JZ;have ZM:=Hi (fun(W:World) (hW:Bw wr W)=>aoS (hx.below hW) (by omega));have Sz:=Hi hx;obtain⟨xq,xc,rfl⟩:=Bp hx.2;have FZ:=HR.below HB.out;have c1:wr.cell? ⟨r,1,none⟩=some ↑(Cy n:Int):=cr FZ.1;clear Ck hx FZ HX Ou;generalize hF:made A (FX Aa (BG l))=F at*;obtain⟨U,lC⟩:=ex (used F);rw[lC] at ZM JZ FL;clear hF lC;by_cases GI:Cy n < U
   ·have Rk:(Cy n:Int) < (U:Int):=(by omega);rw[Ae GI] at JZ;clear GI;go_wp2
    go_region_held3 (fun V=>V.cell? ⟨r,1,none⟩=some ↑(Cy n:Int)) (go_keep)
     (first|(go_at_call 103;refine(ZM _ ((Ai _ _).drew)).mono ?_;rintro e wA ⟨rfl,E8⟩;have Ar:=Hi (HB.trans ((show Bw wr wA from((Ai _ wr).drew).trans E8).mono HB.size));clear E8;have cA:wA.cell? ⟨r,1,none⟩=some ↑(Cy n:Int):=(by rw[BJ _ _ _ _ _ _ (HR.below Ar).1];rfl)))
    all_goals
     go_wp2;go_ret;rw[JZ.out];exact⟨rfl,_,HR.below Ar,A7.of_below Ar⟩
   ·have Rk:¬ (Cy n:Int) < (U:Int):=(by omega);rw[A9 GI] at JZ;clear GI;go_wp2
    go_region_held3 (fun V=>V.cell? ⟨r,1,none⟩=some ↑(Cy n:Int)) (go_keep)
     (first|(go_at_call 103;refine(ZM _ ((Ai _ _).drew)).mono ?_;rintro e wA ⟨rfl,E8⟩;have Ar:=Hi (show Bw wr wA from((Ai _ wr).drew).trans E8);clear E8;have cA:wA.cell? ⟨r,1,none⟩=some ↑(Cy n:Int):=(by rw[BJ _ _ _ _ _ _ (HR.below (bT HB Ar)).1];rfl)))
    all_goals
     have D6:=bH HB Ar;have FZ:=HR.below D6.out;have Kk:=Sz.below Ar.out;have d0:wA.cell? r=some (.slice vq A.length vc):=cr FZ.1;have df:=CG _ _ 0 _ _ FZ.1;have x0:wA.cell? w.heap.size=some (.slice xq F.length xc):=cr Kk.1;have GV:=Hi (CB FZ.1 Kk.2);clear FZ c1 Kk;go_wp2;go_ret;rw[JZ.out];refine⟨rfl,.slice xq F.length xc,?_,(A7.of_below (F:=fun k=>k=r) D6).setCell (p:=⟨r,0,none⟩) (.inl rfl) _⟩;refine⟨Cs _ _ 0 _ _ _ GV.1,BD GV.2 ((A7.refl (fun k=>k=r) wA).setCell (p:=⟨r,0,none⟩) (.inl rfl) _) (fun g hg e=>?_)⟩;rw[e] at hg;exact Bf.ne (Cx GV.2 hg) ⟨_,_,GV.1⟩ (by decide) rfl
end Ci
namespace Hv
open Aw Ah Bu Kp Bz Hex BH Al Mem Ci Gr
open Aq hiding T
theorem bW{α:Type}(f:α→Nat):∀ (S l:List α),S.Nodup→(∀ x∈S,x∈l)→(S.map f).sum≤(l.map f).sum
 |[],l,_,_=>AV _
 |x :: S,l,hn,hs=>by
  obtain⟨a,b,e⟩:=List.append_of_mem (hs x Gl);have hx:=(JV.1 hn).1
  have ih:=bW f S (a++b) (JV.1 hn).2 (fun y hy=>by
   have h1:=hs y (Fs _ hy);rw[e] at h1;rcases Es.1 h1 with h|h
   ·exact UA _ h
   ·rcases Ch.1 h with h|h
    ·subst h;exact absurd hy hx
    ·exact List.mem_append_right _ h)
  rw[e];simp only[Ce,DY,CQ,LX] at ih ⊢;omega
theorem aou(f:T→Nat)(l:List T):((Bi l).map f).sum≤(l.map f).sum:=bW f _ _ (Xm l) (fun x hx=>(El l x).1 hx)
theorem aot(l:List T):(Bi l).length≤l.length:=by
 have h:=aou (fun _=>1) l;have e:∀ l:List T,(l.map fun _=>1).sum=l.length:=fun l=>by
  induction l with
  |nil=>rfl
  |cons x l ih=>rw[Ce,DY,ih,BM];omega
 rw[e,e] at h;exact h
theorem au4(k v:T):∀ l:M,Da (put k v l)≤Da l+(4+k.length+v.length):=by
 intro l;have h1:Da (l.filter fun p=>decide (p.1 < k))+Da (l.filter fun p=>decide (k < p.1))≤Da l:=by
  induction l with
  |nil=>exact AV _
  |cons x l ih=>
   have e:∀ (y:T×T) (m:M),Da (y :: m)=(4+y.1.length+y.2.length)+Da m:=fun _ _=>rfl
   rw[List.filter_cons,List.filter_cons];by_cases h1:x.1 < k
   ·rw[Ae (by simpa using h1),A9 (by simpa using RJ h1),e,e];omega
   ·rw[A9 (by simpa using h1),e];split
    ·rw[e];omega
    ·omega
 have h2:Da (put k v l)=Da (l.filter fun p=>decide (p.1 < k))+((4+k.length+v.length)+Da (l.filter fun p=>decide (k < p.1))):=by
  unfold put Da;rw[CQ,LX,Ce,DY]
 omega
theorem aj7(K:Kind)(S:List T)(hn:S.Nodup)(l:M):(S.map fun x=>Da (BN K l x)).sum≤Da l:=by
 induction l using VD with
 |h0=>
  have:∀ S:List T,(S.map fun x=>Da (BN K [] x)).sum=0:=fun S=>by
   induction S with
   |nil=>rfl
   |cons x S ih=>rw[Ce,DY,ih];rfl
  rw[this];exact AV _
 |h1 l p ih=>
  have e1:Da (l++[p])=Da l+(4+p.1.length+p.2.length):=by unfold Da;rw[CQ,LX];simp
  rw[e1];have key:∀ S:List T,S.Nodup→(S.map fun x=>Da (BN K (l++[p]) x)).sum≤(S.map fun x=>Da (BN K l x)).sum+(if K.nm p.1∈S then 4+p.1.length+p.2.length else 0):=by
   intro S
   induction S with
   |nil=>intro _;exact AV _
   |cons x S ih2=>
    intro hn;have h2:=ih2 (JV.1 hn).2;have hx:=(JV.1 hn).1;simp only[Ce,DY];rw[Oh];by_cases e:K.nm p.1=x
    ·rw[Ae e,Ae (by rw[e];exact Gl)];rw[A9 (by rw[e];exact hx)] at h2;have:=au4 p.1 p.2 (BN K l x);omega
    ·rw[A9 e];by_cases e2:K.nm p.1∈S
     ·rw[Ae e2] at h2;rw[Ae (Fs _ e2)];omega
     ·rw[A9 e2] at h2;rw[A9 (by intro f;rcases Ch.1 f with f|f;exact e f;exact e2 f)];omega
  have:=key S hn;have h3:(if K.nm p.1∈S then 4+p.1.length+p.2.length else 0)≤4+p.1.length+p.2.length:=by split<;>omega
  omega
theorem ath{l:M}{d:T}(h:C9 l=some d):d.length=6+Da l:=by
 unfold C9 at h;cases hp:FW l with
 |none=>rw[hp] at h;cases h
 |some s=>
  rw[hp] at h;simp only[CU] at h;split at h
  ·simp only[Cu] at h;subst h;unfold FW at hp;split at hp
   ·cases ht:BL (flat l) with
    |none=>rw[ht] at hp;cases hp
    |some a=>
     rw[ht] at hp;simp only[EZ,Cu] at hp;have h6:=Xo ht;rw[sH] at h6;subst hp;unfold Ab.FN;rw[AA,Ab.Cb,AA,Ab.Cb];omega
   ·cases hp
  ·cases h
theorem oU{K:Kind}(hK:K.Cg)(l:M):Ff (Fa K l)≤31*l.length+Da l:=by
 have h1:=aj7 K (Bi (l.map fun p=>K.nm p.1)) (Xm _) l;have h2:=aot (l.map fun p=>K.nm p.1);rw[Ca] at h2;have h3:∀ S:List T,(∀ x∈S,∃ p∈l,K.nm p.1=x)→Ff (S.map (Nf K l))≤31*S.length+(S.map fun x=>Da (BN K l x)).sum:=by
  intro S
  induction S with
  |nil=>intro _;exact AV _
  |cons x S ih=>
   intro hS;have h4:=ih (fun y hy=>hS y (Fs _ hy));obtain⟨p,_,hp⟩:=hS x Gl;have e:Ff ((x :: S).map (Nf K l))=(8+x.length+((C9 (BN K l x)).getD []).length)+Ff (S.map (Nf K l)):=by
    unfold Ff;rw[Ce,Ce,DY];rfl
   have Gv:x.length=17:=(by rw[←hp];exact hK.len _);have hd:((C9 (BN K l x)).getD []).length≤6+Da (BN K l x):=by
    cases hc:C9 (BN K l x) with
    |none=>exact AV _
    |some d=>rw[RZ,ath hc];exact Ag _
   rw[e,Ce,DY,BM];omega
 have h5:=h3 (Bi (l.map fun p=>K.nm p.1)) (fun x hx=>by
  rw[El] at hx;obtain⟨p,hp,e⟩:=Bv.1 hx;exact⟨p,hp,e⟩)
 show Ff ((Bi (l.map fun p=>K.nm p.1)).map (Nf K l))≤_
 omega
theorem ahZ(l:M):Da l=4*l.length+Kl l:=by
 unfold Da Kl
 induction l with
 |nil=>rfl
 |cons p l ih=>
  rw[Ce,DY,Ce,DY,BM,ih];omega
theorem aD8{l:List T}{s:T}(h:BL l=some s):∀ t∈l,t.length≤65535:=by
 induction l generalizing s with
 |nil=>intro t ht;simp at ht
 |cons x l ih=>
  simp only[BL] at h;cases h1:Er x with
  |none=>rw[h1] at h;cases h
  |some a=>
   rw[h1,CU] at h;cases h2:BL l with
   |none=>rw[h2] at h;cases h
   |some b=>
    intro t ht;rcases Ch.1 ht with rfl|ht
    ·unfold Er at h1;split at h1
     ·assumption
     ·cases h1
    ·exact ih h2 t ht
theorem apU{u:T×List T}(h:(Dg (Bi u.2)).2=0):(QH u).2.length≤2+16*NT u.2:=by
 obtain⟨s,hs⟩:=KD.1 (aBx.1 h);have e:(QH u).2=s:=by
  show(Dg (Bi u.2)).1=s
  unfold Dg;rw[hs]
 rw[e];unfold GM at hs;split at hs
 ·cases ht:BL (Bi u.2) with
  |none=>rw[ht] at hs;cases hs
  |some a=>
   rw[ht] at hs;simp only[EZ,Cu] at hs;have h6:=Xo ht;have h7:=aD8 ht;have h8:s.length=2+a.length:=(by rw[←hs,AA,Ab.Cb]);have h9:((Bi u.2).map fun s=>2+s.length).sum≤16*((Bi u.2).map fun s=>2+min s.length 4096).sum:=by
    clear hs ht h6 e h
    revert h7
    generalize Bi u.2=l;intro h7
    induction l with
    |nil=>exact AV _
    |cons x l ih=>
     have h1:=ih (fun t ht=>h7 t (Fs _ ht));have h2:=h7 x Gl;rw[Ce,DY,Ce,DY];omega
   have eZ:=aou (fun s=>2+min s.length 4096) u.2;have h11:NT u.2=(u.2.map fun s=>2+min s.length 4096).sum:=rfl;have h12:=Ay h9 (Nat.mul_le_mul_left 16 eZ);unfold rowLen at h6;rw[h8,h6,h11];omega
 ·cases hs
theorem aDP{l:Us}(h:ND l):Da (BG l)≤6*l.length+16*IP l:=by
 induction l with
 |nil=>exact AV _
 |cons u l ih=>
  have h1:=ih (fun x hx=>h x (Fs _ hx));have h2:=apU (h u Gl);have e1:Da (BG (u :: l))=(4+u.1.length+(QH u).2.length)+Da (BG l):=rfl;have e2:IP (u :: l)=(u.1.length+NT u.2)+IP l:=rfl;rw[e1,e2,BM];omega
theorem auQ{fz:Bool}{w:World}{b y n N:Nat}{bl:Nat→Prop}{A:M}{a:Option Addr}{cap:Nat}{l:List Am}(h:Gn fz w b y bl n N A)(hN:N < 1000000000)(hL:Eh w a l)(hlen:l.length≤100000)(axP:∀ c∈l,c.name.length≤maxLen∧c.data.length≤maxLen)(Vt:l.all Am.may=true→Ff l≤900000):
  Calls prog 17 #[y,.slice a l.length cap] w fun e w'=>∃ c:Int,e=.returned (.int .i64 c)∧∃ CY,cZ fz w' b y CY n (N+1) A (FB n A l,Ep n A l) c∧A7 (I8 w bl) w w'∧∀ k,CY k→bl k∨w.heap.size≤k:=by
 have DF:=h.up;obtain⟨D,fp,m,x,gv,F,h1,h2,h3,h4,h5,h6,h7,h8,h9⟩:=h;have Jo:=bU DF.2.2.2.2;have FL:=VF DF.1 l;have G7:F.room=Cy n:=by unfold St.room Cy;rw[h4.size,h6]
 have hgw:=aj1 l;have Ij:=RV A;have Ih:D.loose.length=0:=by rw[h4.disk.loose];rfl
 have key:Calls prog 17 #[y,.slice a l.length cap] w fun e w'=>Tv w y b m x gv fp (Kb D F l) e w':=by
  by_cases hall:l.all Am.may=true
  ·have hw:=Vt hall;have hok:∀ c∈l,c.name.length≤1000000∧c.data.length≤maxLen:=fun c hc=>by
    have h1:=(Nl.1 hall) c hc;unfold Am.may EX at h1;simp only[Bool.and_eq_true,decide_eq_true_eq] at h1;unfold maxLen;omega
   have FU:=aaB D F l (by omega) (by rw[h8];omega);exact ai4 h1 h2 h3 hL hlen hok h4.good (by rw[h8];omega) (by rw[h8];omega) (by rw[h4.size];have:=h4.disk.fine.n2;unfold sz;omega) (by omega) (by omega) (by have:=aj3 h4;omega) h4.fault hall
  ·exact ai3 h1 h2 h3 hL hlen axP h4.fault (by simpa using hall)
 refine key.mono ?_;rintro e w'⟨m',⟨he,fp',FH,p1,p2,p3,p4,p5,p6⟩,YE⟩;refine⟨_,he,fun k=>bl k∨w.heap.size≤k,?_,p4.mono (fun k hk=>anj h1 h2 h9 k hk),fun k hk=>hk⟩;have Ct:∀ k,fp' k∨WA y m' x FH k→bl k∨w.heap.size≤k:=by
  rintro k (hk|hk|hk|hk)
  ·exact(p5 k hk).imp (fun e=>h9 k (.inl e)) id
  ·exact .inl (h9 k (.inr (.inl hk)))
  ·subst hk;exact YE.imp (fun e=>h9 _ (.inr (.inr (.inl e)))) id
  ·exact(p6 k hk).imp (fun e=>h9 k (.inr (.inr (.inr e)))) id
 by_cases hall:l.all Am.may=true
 ·have hw:=Vt hall;have FU:=aaB D F l (by omega) (by rw[h8];omega);by_cases hr:used (made F.m l)≤F.room
  ·have hc:=aho h4 (by omega) hall hr;have U0:FB n A l=0:=(by unfold FB;rw[A9 (by simp[hall]),A9 (by rw[←h8,←G7];omega)]);have Mh:Ep n A l=made A l:=(by unfold Ep;rw[Ae ⟨hall,by rw[←h8,←G7];exact hr⟩]);rw[U0,Mh];rcases hc.out with⟨o1,o2,o3,o4,o5⟩|⟨o1,o2,o3,o4,o5,o6⟩
   ·exact .inl ⟨o1,_,fp',m',x,FH,_,p1,p2,p3,o2,fun e=>o5 (h5 e),hc.n.trans h6,by omega,by rw[←h8];exact o3,Ct⟩
   ·refine .inr ⟨?_,o1,rfl,_,fp',m',x,FH,_,p1,p2,p3,o3,by omega,hc.n.trans h6,⟨DF.2.1,DF.2.2.1,DF.2.2.2.2⟩,o4.trans h8,fun keep=>?_,Ct⟩
    ·cases fz with
     |false=>exact absurd (h5 rfl) o2
     |true=>rfl
    ·obtain⟨F',D',q1,q2,q3,q4⟩:=o6 keep;exact⟨F',D',q1,q2,by omega,by rw[←h8];exact q4⟩
  ·have e1:Kb D F l=(D,F,4):=by
    unfold Kb;rw[A9 (by simp[h4.fault]),A9 (by simp[hall]),Ae (by omega)]
   have U0:FB n A l=4:=(by unfold FB;rw[A9 (by simp[hall]),Ae (by rw[←h8,←G7];omega)]);have Mh:Ep n A l=A:=(by unfold Ep;rw[A9 (fun e=>hr (by rw[h8,G7];exact e.2))]);rw[e1] at p1 p2 ⊢;rw[U0,Mh];exact .inl ⟨rfl,D,fp',m',x,FH,F,p1,p2,p3,h4,h5,h6,by omega,h8,Ct⟩
 ·have Ho:l.all Am.may=false:=by simpa using hall
  have e1:Kb D F l=(D,F,2):=by
   unfold Kb;rw[A9 (by simp[h4.fault]),Ae Ho]
  have U0:FB n A l=2:=by unfold FB;rw[Ae Ho]
  have Mh:Ep n A l=A:=by unfold Ep;rw[A9 (fun e=>hall e.1)]
  rw[e1] at p1 p2 ⊢;rw[U0,Mh];exact .inl ⟨rfl,D,fp',m',x,FH,F,p1,p2,p3,h4,h5,h6,by omega,h8,Ct⟩
section
variable {B:Nat}{w0 w w':World}{b y n N r:Nat}{A A' R R':M}{L:List (Nat×Obj)}
structure Duo(B:Nat)(w0 W:World)(b y n N:Nat)(A:M)(r:Nat)(R:M)(L:List (Nat×Obj)):Prop where
 x:Wo B w0 W b y n N A (fun k=>k=r∨∃ o,(k,o)∈L)
 at_:∀ k o,(k,o)∈L→W.heap[k]?=some o
 rf:∃ v,I9 W r v R (Cy n)
 ne:∀ o,(r,o)∉L
 ge:B≤r
theorem Duo.step(h:Duo B w0 w b y n N A r R L)(hb:Bw w w'):Duo B w0 w' b y n N A r R L:=by
 obtain⟨v,hv⟩:=h.rf;exact⟨h.x.step hb,fun k o ho=>(hb.block k (Dn.1 (h.at_ k o ho)).1).trans (h.at_ k o ho),⟨v,hv.below hb⟩,h.ne,h.ge⟩
theorem Duo.pick(h:Duo B w0 w b y n N A r R L):∃ bl,Tw w b y bl n N A∧(∀ k,bl k→k < w.heap.size)∧∀ {N':Nat} {A':M} {w':World},Goes w b y bl n N' A' w'→Duo B w0 w' b y n N' A' r R L:=by
 obtain⟨⟨h1,h2,hx,bl,h3,h4⟩,ha,⟨v,hv⟩,hn,hg⟩:=h;refine⟨_,h3.shrink,fun k hk=>hk.2,fun {N' A' w'} ⟨CY,g1,g2,g3⟩=>?_⟩;obtain⟨k1,k2⟩:=Wo.turn h1 h2 hx (fun k hk=>h4 k hk.1) g1 g2 g3;exact⟨k1,fun k o ho=>(k2 k (.inr ⟨o,ho⟩)).trans (ha k o ho),⟨v,hv.noS g2⟩,hn,hg⟩
theorem Duo.ref(h:Duo B w0 w b y n N A r R L){v':Value}(hr:I9 w' r v' R' (Cy n))(hu:A7 (fun k=>k=r) w w'):Duo B w0 w' b y n N A r R' L:=by
 obtain⟨⟨h1,h2,hx,bl,h3,h4⟩,ha,⟨v,hv⟩,hn,hg⟩:=h;refine⟨⟨Cz h1 hu (fun k hk=>by subst hk;exact hg) h2,Ay h2 hu.size,fun k hk=>Ip (hx k hk) hu.size,bl,h3.upd hu (fun k hk e=>?_) (fun k hk e=>(h4 k hk).2 (.inl e)),h4⟩,fun k o ho=>?_,⟨v',hr⟩,hn,hg⟩
 ·subst e;exact Bf.ne hk ⟨_,_,hv.1⟩ (by decide) rfl
 ·exact(hu.block k (Dn.1 (ha k o ho)).1 (fun e=>by subst e;exact hn o ho)).trans (ha k o ho)
theorem Duo.AR(h:Duo B w0 w b y n N A r R L):Below B w0 w:=h.x.1
theorem Duo.cell(h:Duo B w0 w b y n N A r R L){k:Nat}{cs:Array Value}{t:TypeId}(hm:(k,.cells cs t)∈L)(i:Nat):w.cell? ⟨k,i,none⟩=cs[i]? :=BJ w k i cs t _ (h.at_ _ _ hm)
theorem Duo.new(h:Duo B w0 w b y n N A r R L)(o:Obj):Duo B w0 (w.alloc o) b y n N A r R ((w.heap.size,o) :: L):=by
 have hs:=h.step (AQ w o);obtain⟨⟨h1,h2,hx,bl,h3,h4⟩,ha,⟨v,hv⟩,hn,hg⟩:=h;have hb:=AQ w o;have BS:(w.alloc o).heap.size=w.heap.size+1:=Az _ _;refine⟨⟨h1.trans (hb.mono h2),Ay h2 hb.size,fun k hk=>?_,fun k=>bl k∧k < w.heap.size,h3.shrink.below hb,fun k hk=>⟨(h4 k hk.1).1,fun J8=>?_⟩⟩,fun k o' ho=>?_,hs.rf,fun o' ho=>?_,hg⟩
 ·rcases hk with e|⟨o',ho⟩
  ·have:=hx k (.inl e);omega
  ·rcases Ch.1 ho with e|e
   ·cases e;omega
   ·have:=hx k (.inr ⟨o',e⟩);omega
 ·rcases J8 with e|⟨o',ho⟩
  ·exact(h4 k hk.1).2 (.inl e)
  ·rcases Ch.1 ho with e|e
   ·cases e;have:=hk.2;omega
   ·exact(h4 k hk.1).2 (.inr ⟨o',e⟩)
 ·rcases Ch.1 ho with e|e
  ·cases e;exact AU w o
  ·exact hs.at_ k o' e
 ·rcases Ch.1 ho with e|e
  ·have:=hx r (.inl rfl);cases e;omega
  ·exact hn o' e
theorem aaf(h:Em B w0 w b y n N A L)(hb:Bw w w'){p:Nat}{o:Obj}(hp:w.heap.size≤p)(ho:w'.heap[p]?=some o):Em B w0 w' b y n N A ((p,o) :: L):=by
 have hs:=h.step hb;obtain⟨⟨h1,h2,hx,bl,h3,h4⟩,ha⟩:=h;refine⟨⟨h1.trans (hb.mono h2),Ay h2 hb.size,fun k ⟨o',SX⟩=>?_,fun k=>bl k∧k < w.heap.size,h3.shrink.below hb,fun k hk=>⟨(h4 k hk.1).1,fun⟨o',SX⟩=>?_⟩⟩,fun k o' SX=>?_⟩
 ·rcases Ch.1 SX with e|e
  ·cases e;exact(Dn.1 ho).1
  ·have:=hx k ⟨o',e⟩;have:=hb.size;omega
 ·rcases Ch.1 SX with e|e
  ·cases e;have:=hk.2;omega
  ·exact(h4 k hk.1).2 ⟨o',e⟩
 ·rcases Ch.1 SX with e|e
  ·cases e;exact ho
  ·exact hs.at_ k o' e
theorem atU(h:Em B w0 w b y n N A L)(hb:Bw w w'){v:Value}(hr:I9 w' r v R (Cy n))(hp:w.heap.size≤r):Duo B w0 w' b y n N A r R L:=by
 have hs:=h.step hb;obtain⟨⟨h1,h2,hx,bl,h3,h4⟩,ha⟩:=h;refine⟨⟨h1.trans (hb.mono h2),Ay h2 hb.size,fun k hk=>?_,fun k=>bl k∧k < w.heap.size,h3.shrink.below hb,fun k hk=>⟨(h4 k hk.1).1,fun J8=>?_⟩⟩,hs.at_,⟨v,hr⟩,fun o ho=>?_,Ay h2 hp⟩
 ·rcases hk with e|⟨o',SX⟩
  ·subst e;exact Ao hr.1
  ·have:=hx k ⟨o',SX⟩;have:=hb.size;omega
 ·rcases J8 with e|⟨o',SX⟩
  ·have:=hk.2;omega
  ·exact(h4 k hk.1).2 ⟨o',SX⟩
 ·have:=hx r ⟨o,ho⟩;omega
theorem Duo.k(h:Duo B w0 w b y n N A r R L):Em B w0 w b y n N A L:=by
 obtain⟨⟨h1,h2,hx,bl,h3,h4⟩,ha,_⟩:=h;exact⟨⟨h1,h2,fun k ⟨o,ho⟩=>hx k (.inr ⟨o,ho⟩),bl,h3,fun k hk=>⟨(h4 k hk).1,fun⟨o,ho⟩=>(h4 k hk).2 (.inr ⟨o,ho⟩)⟩⟩,ha⟩
def Fp(y:Nat):Obj:=.cells #[y] 160
def FC(y:Nat):Obj:=.cells #[y] 162
theorem azj(n:Nat)(h8:8≤n)(hn:n≤16384)(w:World):Calls prog 38 #[(n:Int)] w fun e w'=>∃ b y p,e=.returned (.tuple #[.pointer (some ⟨y,0,none⟩),.pointer (some ⟨p,0,none⟩)])∧Em w.heap.size w w' b y n 0 [] [(p,Fp y)]:=by
 go_in
 go_wp2_with fail;refine(azY n (by omega) (by omega)).mono ?_;rintro e w1⟨b,fp,rfl,U1,ajI,EB⟩;have QN:=Hi U1;have HB1:=Hi ajI;have PX:=Hi EB;clear U1 ajI EB;go_wp2_with fail;refine(azS HB1 HB1.size (n:=n) h8 hn QN PX).mono ?_;rintro e w2⟨y,rfl,h2⟩;have H2:=Hi h2;clear h2 QN PX HB1;go_wp2_with fail;refine(azH y _).mono ?_;rintro e w3⟨p,rfl,hm,hp,Av⟩;have H3:=Hi (aaf (Em.of H2) Av hp hm);clear Av H2 hm hp;go_wp2;go_ret2;exact⟨b,y,p,rfl,H3⟩
