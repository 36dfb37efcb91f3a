/- RPut ManE -/
import Derived.Test.YtmbbhdebddbhoaaGreatQ40
set_option maxHeartbeats 8000000
set_option maxRecDepth 100000
set_option linter.all false
namespace Go.Proofs.YtmbbhdebddbhoaaGreat
open Tryz
section
open Go.RowKit Go.Maps
open Fil Man
section
variable {w w':World}
def U3(most:Nat)(A:M)(l:List Af):Int:=if l.all Af.may=false then 2 else if most < used (made A l) then 4 else 0
def Qi(most:Nat)(A:M)(l:List Af):M:=if l.all Af.may=true∧used (made A l)≤most then made A l else A
theorem adP{r most cap:Nat}{a:Option Addr}{v:Value}{A:M}{l:List Af}(h:F8 w r v A (most:Int))(hu:Up A)(hl:D7 w a l)(as5:most≤2000000000000)(hA:used A≤3000000)(hll:l.length≤100000)(hw:Eb l≤900000):
  Calls prog 33 #[.pointer (some ⟨r,0,none⟩),.slice a l.length cap] w fun e w'=>e=.returned (.int .i64 (U3 most A l))∧∃ v',F8 w' r v' (Qi most A l) (most:Int)∧A7 (fun k=>k=r) w w':=by
 have EW:=Ml A;have EJ:=PG hu l;have hok:∀ c∈l,c.name.length≤maxLen∧c.data.length≤maxLen:=fun c hc=>by
  have:=yK hc;unfold maxLen;omega
 have HR:=Hi h;have HL:=Hi hl;have Es:=Hi hok;clear h hl hok;go_enter func33,ntmps33;go_wp2_with fail
 go_loopw [5] (fun i wr=>∃ k:Nat,k≤l.length∧i=.int .i64 (k:Int)∧(l.take k).all Af.may=true∧Bw w wr) (fun i _=>l.length -(intOf i).toNat)
 case atStart=>exact⟨0,Ar _,rfl,rfl,Ad _ _⟩
 case round=>
  obtain⟨k,hk,rfl,asD,hb⟩:=hrel;have Eh:=Hi asD;have HB:=Hi hb;clear asD;by_cases hlt:k < l.length
  ·obtain⟨p,au8,hp,_⟩:=(HL.below hb).index cap k hlt;obtain⟨p0,p1,p2⟩:=hp.cells;obtain⟨o1,o2⟩:=Es _ (BF hlt);have HM:=Hi (aam l[k].name l[k].data l[k].gone wr o1 o2);obtain⟨mv,hmv⟩:=ex (Af.may l[k]);rw[show(⟨l[k].name,l[k].data,l[k].gone⟩:Af)=l[k] from rfl,hmv] at HM;have Ms:=Hi hmv;have auV:=BF hlt;cases mv with
   |true=>
    have HN:=Hi (show(l.take (k+1)).all Af.may=true by rw[BS hlt,List.all_append,Eh.out,Bool.true_and];simp[Ms.out]);clear hb hp auV hmv o1 o2;generalize l[k]=c at*;go_wp2_with fail;refine HM.mono ?_;rintro e w2⟨rfl,hb2⟩;have HB2:=Hi (HB.trans (hb2.mono HB.size));clear hb2;go_wp2_with fail;go_roundw
    case rel=>exact⟨k+1,by omega,by go_num,HN,HB2⟩
    case measure=>simp[intOf];omega
   |false=>
    have hna:l.all Af.may=false:=by
     rw[Bool.eq_false_iff];intro e;rw[Kl] at e;rw[e _ auV] at hmv;cases hmv
    have HC:=Hi (show U3 most A l=2 by unfold U3;rw[Ac hna]);have HX:=Hi (show Qi most A l=A by unfold Qi;rw[Aa (by rw[hna];simp)]);clear hb hp auV hmv o1 o2 hna;generalize l[k]=c at*;go_wp2_with fail;refine HM.mono ?_;rintro e w2⟨rfl,hb2⟩;have HB2:=Hi (HB.trans (hb2.mono HB.size));clear hb2;go_wp2_with fail;go_ret;exact⟨by rw[HC.out];rfl,v,by rw[HX.out];exact HR.below HB2,A7.of_below HB2⟩
  ·obtain rfl:k=l.length:=(by omega);have asD:=Eh.out;rw[Ck] at asD;have HW:=Hi (adu (cap:=cap) (HR.below hb) hu (HL.below hb) (by omega) (by omega));have NK:=Hi asD;clear hb asD Eh;go_wp2_with fail;refine HW.mono ?_;rintro e w2⟨v2,rfl,hr2,hb2⟩;obtain⟨q2,cap2,rfl⟩:=AA hr2;have HB2:=Hi (HB.trans (hb2.mono HB.size));have HR2:=Hi hr2;have DL:=Hi (fun(W:World) (hW:Bw w2 W)=>qA (AL hr2 (ub hW) (fun _ _ f=>f)) (by omega));have hrf:=HR.below HB2.out;have c1:w2.cell? ⟨r,1,none⟩=some (.int .i64 (most:Int)):=cr hrf.1;have HRF:=Hi hrf;obtain⟨F,hF⟩:=ex (made A l);rw[hF] at DL HR2 ⊢;have U1:=Hi hF;obtain⟨U,hU⟩:=ex (used F);rw[hU] at DL;rw[hF,hU] at EJ;have Yw:=Hi hU;clear hr2 hb2 hrf hU hF;have Yx:U3 most A l=if most < U then 4 else 0:=by
    unfold U3;rw[Aa (by rw[NK.out];simp),U1.out,Yw.out]
   have Yy:Qi most A l=if most < U then A else F:=by
    unfold Qi;rw[U1.out,Yw.out];by_cases e:most < U
    ·rw[Ac e,Aa (by omega)]
    ·rw[Aa e,Ac ⟨NK,by omega⟩]
   have Nl:=Hi (BD Yx Yy);clear Yx Yy EW hw hll hA hlt hk;by_cases hgt:most < U
   ·have hgi:(most:Int) < (U:Int):=(by omega);have HG:=Hi hgt;clear hgt;go_wp2_with fail
    go_region_held3 (fun V=>V.cell? ⟨r,1,none⟩=some (.int .i64 (most:Int))) (go_keep)
     (first|(go_at_call 106;refine(DL _ ((Ad _ _).drew)).mono ?_;rintro e wA ⟨rfl,Cv⟩;have Ag:=Hi (HB2.trans ((show Bw w2 wA from((Ad _ w2).drew).trans Cv).mono HB2.size));clear Cv;have cA:wA.cell? ⟨r,1,none⟩=some (.int .i64 (most:Int)):=(by rw[AY _ _ _ _ _ _ (HR.below Ag).1];rfl)))
    all_goals
     go_wp2_with fail;go_ret;exact⟨by rw[Nl.1,Ac HG.out];rfl,v,by rw[Nl.2,Ac HG.out];exact HR.below Ag,A7.of_below Ag⟩
   ·have hgi:¬ (most:Int) < (U:Int):=(by omega);have HG:=Hi hgt;clear hgt;go_wp2_with fail
    go_region_held3 (fun V=>V.cell? ⟨r,1,none⟩=some (.int .i64 (most:Int))) (go_keep)
     (first|(go_at_call 106;refine(DL _ ((Ad _ _).drew)).mono ?_;rintro e wA ⟨rfl,Cv⟩;have Ag:=Hi ((show Bw w2 wA from((Ad _ w2).drew).trans Cv));clear Cv;have cA:wA.cell? ⟨r,1,none⟩=some (.int .i64 (most:Int)):=(by rw[AY _ _ _ _ _ _ (HR.below (HB2.trans (Ag.mono HB2.size))).1];rfl)))
    all_goals
     have BM:=Hi (HB2.trans (Ag.mono HB2.size));have hrf:=HR.below BM.out;have d0:wA.cell? ⟨r,0,none⟩=some v:=cr hrf.1;have df:=Cb _ _ 0 _ _ hrf.1;have Fg:=Hi (BD hrf.1 (AL HR2 (ub Ag) (fun _ _ f=>f)));clear hrf c1;go_wp2_with fail;go_ret;refine⟨by rw[Nl.1,Aa HG.out];rfl,.slice q2 F.length cap2,?_,(A7.of_below (F:=fun k=>k=r) BM).setCell (p:=⟨r,0,none⟩) (.inl rfl) _⟩;rw[Nl.2,Aa HG.out];refine⟨Bh _ _ 0 _ _ _ Fg.1,AL Fg.2 ((A7.refl (fun k=>k=r) wA).setCell (p:=⟨r,0,none⟩) (.inl rfl) _) (fun g hg e=>?_)⟩;rw[e] at hg;exact Ap.ne (Bi Fg.2 hg) ⟨_,_,Fg.1⟩ (by decide) rfl
end
end
namespace Mem
open Go.RowKit Go.Maps
open Wal Fil Man Prs Kp BH Hex Sha
theorem adQ{w:World}{r:Nat}{v:Value}{A:M}{most:Int}(h:F8 w r v A most)(hA:used A≤1000000000):
  Calls prog 77 #[.pointer (some ⟨r,0,none⟩)] w fun e w'=>e=.returned (.int .i64 (used A:Nat))∧Bw w w':=by
 obtain⟨q,cap,rfl⟩:=AA h.2;have c0:w.cell? ⟨r,0,none⟩=some (.slice q A.length cap):=cr h.1;have HU:=Hi (qA h.2 hA);clear h;go_enter func77,ntmps77;go_wp2_with fail;refine HU.mono ?_;rintro e w1⟨rfl,hb⟩;have HB:=Hi hb;clear hb;go_wp2_with fail;go_ret;exact⟨rfl,HB⟩
theorem aoR{w:World}{r:Nat}{v:Value}{A:M}{most:Int}(h:F8 w r v A most)(hA:A.length≤1000000)(name:T)(hdl:∀ d,Fil.get A name=some d→d.length≤1000000)(hf:∀ d,Fil.get A name=some d→(fileOf A9 A name).isSome=true):
  Calls prog 74 #[.pointer (some ⟨r,0,none⟩),.string (bs name)] w fun e w'=>∃ q cap,e=.returned (.tuple #[.slice q ((fileOf A9 A name).getD []).length cap,.bool (Fil.get A name).isSome,.bool false])∧AP w' w.heap.size (.slice q ((fileOf A9 A name).getD []).length cap) ((fileOf A9 A name).getD [])∧(q=none→cap=0)∧Bw w w':=by
 have HG:=Hi (adw h hA name);have QM:∀ d,Fil.get A name=some d→fileOf A9 A name=A9.Cn name d:=fun d hd=>by unfold fileOf;rw[hd];rfl
 have hfn:Fil.get A name=none→fileOf A9 A name=none:=fun hd=>by unfold fileOf;rw[hd];rfl
 clear h;cases hx:Fil.get A name with
 |none=>
  rw[hx] at HG;rw[hfn hx];clear hx hf QM hfn hdl;go_enter func74,ntmps74;go_wp2_with fail;refine HG.mono ?_;rintro e w1⟨rfl,hb⟩;have HB:=Hi hb;clear hb;go_wp2_with fail;exact Dt (v:=.tuple #[.slice none 0 0,.bool false,.bool false]) (by simp[results,results74,go_sem]) rfl ⟨none,0,rfl,PQ _ _,fun _=>rfl,HB⟩
 |some d=>
  rw[hx] at HG;have h1:=hf d hx;rw[QM d hx] at h1 ⊢;obtain⟨l,hl⟩:=JD.1 h1;rw[hl];have HE:=Hi (fun(W:World)=>aoQ name d l hl W (hdl d hx));clear hx hf QM hfn hdl h1 hl;go_enter func74,ntmps74;go_wp2_with fail;refine HG.mono ?_;rintro e w1⟨rfl,hb⟩;have HB:=Hi hb;clear hb;go_wp2_with fail;refine(HE _).mono ?_;rintro e w2⟨q,cap,rfl,hr,hq,hb2⟩;have HR:=Hi (Da hr HB.size);have HB2:=Hi (HB.trans (hb2.mono HB.size));clear hb2 hr;go_wp2_with fail;exact Dt (v:=.tuple #[.slice q l.length cap,.bool true,.bool false]) (by simp[results,results74,go_sem]) rfl ⟨q,cap,rfl,HR,hq,HB2⟩
theorem adR{K:Kind}(hK:K.Bf)(l:M):Eb (E5 K l)≤l.length*65560:=by
 induction l using OU with
 |h0=>exact Ar _
 |h1 l p ih=>
  rw[bY];have e:∀ a b:List Af,Eb (a++b)=Eb a+Eb b:=fun a b=>by unfold Eb;rw[C8,Ht]
  rw[e,Aj,Ii];have h2:Eb [IC K (l++[p]) (K.nm p.1)]≤65560:=by
   show 8+(K.nm p.1).length+((Bc (AR K (l++[p]) (K.nm p.1))).getD []).length+0≤_
   rw[hK.len];cases hc:Bc (AR K (l++[p]) (K.nm p.1)) with
   |none=>show 8+17+0+0≤_;decide
   |some d=>
    have:=VE hc
    show 8+17+d.length+0≤_
    omega
  omega
def qI(w:World)(xb:Nat)(A l:M)(i:Value)(wr:World):Prop:=
 ∃ (k:Nat) (vx:Value),k≤l.length∧i=.int .i64 (k:Int)∧F8 wr xb vx (made A (E5 A9 (l.take k))) (1099511627776:Nat)∧Fits A9 (l.take k)∧Bw w wr
theorem aoS{w:World}{r n cap:Nat}{a:Option Addr}{v:Value}{A l:M}(h:F8 w r v A (Br n))(hu:Up A)(hno:∀ k,Fil.get A (A9.nm k)=none)(hn:n≤16384)(hA:used A≤Br n)(hk:Av w a l)(hl:l.length≤20)(hkl:∀ x∈l,x.1.length≤1000000)(hsm:∀ j name,Small (AR A9 (l.take j) name)):
  Calls prog 29 #[.pointer (some ⟨r,0,none⟩),.slice a l.length cap] w fun e w'=>e=.returned (.int .i64 (EG A9 n A l).1)∧∃ v',F8 w' r v' (EG A9 n A l).2 (Br n)∧A7 (fun k=>k=r) w w':=by
 obtain⟨vq,vc,rfl⟩:=AA h.2;have au4:=SC hn;have HR:=Hi h;have HU:=Hi hu;have Dc:=Hi hno;have HK:=Hi hk;have FQ:=Hi hkl;have K8:=Hi hsm
 have DL:=Hi (show ∀ k,used (made A (E5 A9 (l.take k)))≤2000000 from fun k=>by
  have h1:=PG hu (E5 A9 (l.take k));have h2:=adR J3 (l.take k);have h3:(l.take k).length≤20:=by rw[Aw];omega
  have h4:=Kj 65560 h3;omega)
 have qJ:w.cell? ⟨r,0,none⟩=some (.slice vq A.length vc):=cr h.1;have aoT:=Ae h.1
 have HX0:=Hi (show F8 (w.alloc (.cells #[.slice vq A.length vc,.int .i64 1099511627776] 144)) w.heap.size (.slice vq A.length vc) (made A (E5 A9 (l.take 0))) (1099511627776:Nat) from by
  rw[FJ];exact⟨Aq w _,(h.below (Am w _)).2⟩)
 have HB0:=Hi (Am w (.cells #[.slice vq A.length vc,.int .i64 1099511627776] 144));clear h hu hno hk hkl hsm;go_enter func29,ntmps29;go_wp2_with fail;have Hq:=Hi (show qI w w.heap.size A l (.int .i64 0) (w.alloc (.cells #[.slice vq A.length vc,.int .i64 1099511627776] 144)) from⟨0,.slice vq A.length vc,Ar _,rfl,HX0,by rw[FJ];exact pR,HB0⟩);generalize w.alloc (.cells #[.slice vq A.length vc,.int .i64 1099511627776] 144)=V0 at*;clear HX0 HB0 qJ
 go_loopw [6] (fun i wr=>qI w w.heap.size A l i wr) (fun i _=>l.length -(intOf i).toNat)
 case atStart=>exact Hq.out
 case round=>
  obtain⟨k,vx,hk,rfl,hx,hft,hb⟩:=hrel;have HX:=Hi hx;have I7:=Hi hft;have HB:=Hi hb;clear hft hb Hq;by_cases hlt:k < l.length
  ·obtain⟨q,hix,hp,-⟩:=(HK.below HB).index cap k hlt;have hxk:=FQ _ (BF hlt);have Bo:=Hi (BS hlt);have M5:=Hi (fun(hF:Fits A9 l)=>hF k hlt);obtain⟨x,hxe⟩:=ex (l[k]);rw[hxe] at hp hxk Bo M5;have c0:=hp.key;have c1:=hp.val;have HPX:=Hi hp;have HN:=Hi (fun(W:World)=>qG x.1 W (by omega));have hgs:=bZ HU (K:=A9) (l.take k) (A9.nm x.1);rw[Dc.out] at hgs;have hfo:=dP HU Dc (fun p _=>rfl) I7 x.1
   have EO:=Hi (fun(W:World) (hW:Bw wr W)=>aoR (HX.below hW) (by have:=Ml (made A (E5 A9 (l.take k)));have:=DL k;omega) (A9.nm x.1) (fun d hd=>by
    rw[hgs] at hd;split at hd
    ·injection hd with hd
     rw[←hd];cases hc:Bc (AR A9 (l.take k) (A9.nm x.1)) with
     |none=>exact Ar _
     |some d=>exact Ah (VE hc) (by decide)
    ·cases hd) (fun d hd=>by
    rw[hgs] at hd;rw[hfo];split at hd
    ·rename_i hin
     rw[Ac hin];rfl
    ·cases hd))
   rw[acM HU Dc (fun p _=>rfl) I7 x.1] at EO;clear hgs hfo hp hxe hx;generalize awi:A9.nm x.1=name at*;have IK:=Hi awi;clear awi;have YB:=Hi (NU (K:=A9) (l.take k) name);have K9:=Hi (show AR A9 (l.take (k+1)) name=put x.1 x.2 (AR A9 (l.take k) name) from by rw[Bo.out,Js,Ac IK.out]);have GV:=Hi (K8 (k+1) name);have hgl:(AR A9 (l.take k) name).length≤20:=by
    have h1:=dh A9 (l.take k) name;rw[Aw] at h1;omega
   generalize AR A9 (l.take k) name=G at*;generalize (Fil.get (made A (E5 A9 (l.take k))) name).isSome=isb at*;obtain⟨xk,xv⟩:=x;simp only at*;go_wp2_with fail;refine(HN _).mono ?_;rintro e w1⟨rfl,hb1⟩;have HB1:=Hi hb1;clear hb1;go_wp2_with fail;refine(EO _ HB1).mono ?_;rintro e w2⟨q2,c2,rfl,hr2,hq2,hb2⟩;have HB2:=Hi (HB1.trans (hb2.mono HB1.size));have HR2:=Hi (Da hr2 (Ar _));clear hr2 hb2;have c0:w2.cell? q=some (.string (bs xk)):=(HB2.cell (Bz c0)).trans c0;have c1:w2.cell? ⟨q.block,q.off+1,none⟩=some (.string (bs xv)):=(HB2.cell (p:=⟨q.block,q.off+1,none⟩) (Bz c1)).trans c1;have HW:=Hi (aoP (w:=w2) (cap:=c2) (⟨xk,xv,false⟩:Af) rfl HR2 YB (by omega));rw[show Af.on G (⟨xk,xv,false⟩:Af)=put xk xv G from rfl] at HW;go_wp2_with fail;refine HW.mono ?_;rintro e w3⟨v3,rfl,hr3,hb3⟩;obtain⟨q3,c3,rfl,hq3,hc3⟩:=Dl hr3;have HB3:=Hi (HB2.trans (hb3.mono HB2.size));have hsn:=GV.out;rw[K9.out] at hsn;have HD:=Hi (aoO (cap:=c3) (Av.BU hr3) (BN.LM (YB.put xk xv)) (by have:=hsn.1;omega) hsn.2)
   have Yi:=Hi (show Fits A9 l→(Bc (put xk xv G)).isSome=true from fun hF=>by
    have h1:=M5 hF
    first
    |(rw[IK.out,K9.out] at h1;exact h1)
    |(rw[K9.out] at h1;exact h1))
   have II:=Hi (show E5 A9 (l.take (k+1))=E5 A9 (l.take k)++[⟨name,(Bc (put xk xv G)).getD [],false⟩] from by
    rw[Bo.out,bY,←Bo.out]
    congr 1
    unfold IC;rw[show A9.nm ((xk,xv):T×T).1=name from IK.out,K9.out])
   have OX:=Hi (show Fits A9 (l.take (k+1))↔Fits A9 (l.take k)∧(Bc (put xk xv G)).isSome=true from by
    rw[Bo.out,Fits.XZ,←Bo.out,show A9.nm ((xk,xv):T×T).1=name from IK.out,K9.out])
   clear hr3 hb3 hsn hq3 hc3 M5 HW c0 c1;generalize put xk xv G=G2 at*;by_cases hcs:(Bc G2).isSome=true
   ·rw[Ac hcs] at HD;obtain⟨d,hd⟩:=JD.1 hcs;rw[hd] at HD II;simp only[Option.getD_some] at HD II;have hdl:=VE hd;have MR:=Hi (OX.2 ⟨I7,hcs⟩);have hnl:name.length=17:=by rw[←IK.out];exact J3.len _
    have LH:=Hi (show Af.may ⟨name,d,false⟩=true from by
     have h1:=nL J3 MR (p:=(xk,xv)) (by rw[Bo.out];simp);have h2:IC A9 (l.take (k+1)) (A9.nm ((xk,xv):T×T).1)=⟨name,d,false⟩:=by
      unfold IC;rw[show A9.nm ((xk,xv):T×T).1=name from IK.out,K9.out,hd];rfl
     rw[h2] at h1;exact h1)
    clear hcs hd Yi;go_wp2_with fail;refine HD.mono ?_;rintro e w4⟨rfl,hb4⟩;have Ay:=Hi (HB3.trans (hb4.mono HB3.size));have Bj:=Am w4 (.cells #[.string (bs name),.string (bs d),.bool false] 65);have hna:=Aq w4 (.cells #[.string (bs name),.string (bs d),.bool false] 65);have Ag:=Hi (Ay.trans (Bj.mono Ay.size));have HCM:=Hi (adP (most:=1099511627776) (cap:=1) (HX.below Ag) (HU.made _) (yP (c:=⟨name,d,false⟩) hna) (by omega) (by have:=DL k;omega) (by simp) (by show 8+name.length+d.length+0≤_;omega));have hns:Qi 1099511627776 (made A (E5 A9 (l.take k))) [⟨name,d,false⟩]=made A (E5 A9 (l.take (k+1))):=by
     unfold Qi;have h1:=DL (k+1);rw[II.out,Zv] at h1;rw[Ac ⟨by simp[LH.out],by omega⟩,II.out,Zv]
    rw[hns] at HCM;have hbw:=HB.trans (Ag.mono HB.size);have BM:=Hi hbw;clear hb4 Bj hna hns hbw;generalize U3 1099511627776 (made A (E5 A9 (l.take k))) [⟨name,d,false⟩]=cc at*;go_wp2_with fail;refine HCM.mono ?_;rintro e w5⟨rfl,v5,hx5,Et⟩;have Ca:=Hi (show qI w w.heap.size A l (.int .i64 ((k:Int)+1)) w5 from⟨k+1,v5,by omega,by go_num,hx5,MR,Bu BM Et (fun i e=>Nat.le_of_eq e.symm) BM.size⟩);clear hx5 Et;go_wp2_with fail;go_roundw
    case rel=>exact Ca.out
    case measure=>
     show l.length -((k:Int)+1).toNat < l.length -((k:Int)).toNat
     omega
   ·rw[Aa hcs] at HD
    have Qb:=Hi (show EG A9 n A l=(5,A) from by
     unfold EG;rw[Aa (fun hF=>hcs (Yi hF))])
    generalize (Bc G2).getD []=dd at*;clear hcs Yi OX;go_wp2_with fail;refine HD.mono ?_;rintro e w4⟨rfl,hb4⟩;have Ay:=Hi (HB.trans ((HB3.trans (hb4.mono HB3.size)).mono HB.size));clear hb4;go_wp2_with fail;go_ret;rw[Qb.out];exact⟨rfl,_,HR.below Ay,A7.of_below Ay⟩
  ·obtain rfl:k=l.length:=(by omega);have hft:=I7.out;rw[Ck] at hft hx;have EJ:=DL l.length;rw[Ck] at EJ;have Gm:=Hi (nM (A:=A) J3 (n:=n) hft);rw[←acO HU.out,←cz HU.out] at Gm;have U4:=Hi (fun(W:World) (hW:Bw wr W)=>adQ (hx.below hW) (by omega));have Mg:=Hi hx;obtain⟨xq,xc,rfl⟩:=AA hx.2;have hrf:=HR.below HB.out;have c1:wr.cell? ⟨r,1,none⟩=some (.int .i64 (Br n:Int)):=cr hrf.1;clear hft hx hrf HX;generalize hF:made A (E5 A9 l)=F at*;obtain⟨U,YC⟩:=ex (used F);rw[YC] at U4 Gm EJ;clear hF YC;by_cases hgt:Br n < U
   ·have hgi:(Br n:Int) < (U:Int):=(by omega);rw[Ac hgt] at Gm;clear hgt;go_wp2_with fail
    go_region_held3 (fun V=>V.cell? ⟨r,1,none⟩=some (.int .i64 (Br n:Int))) (go_keep)
     (first|(go_at_call 77;refine(U4 _ ((Ad _ _).drew)).mono ?_;rintro e wA ⟨rfl,Cv⟩;have Ag:=Hi (HB.trans ((show Bw wr wA from((Ad _ wr).drew).trans Cv).mono HB.size));clear Cv;have cA:wA.cell? ⟨r,1,none⟩=some (.int .i64 (Br n:Int)):=(by rw[AY _ _ _ _ _ _ (HR.below Ag).1];rfl)))
    all_goals
     go_wp2_with fail;go_ret;rw[Gm.out];exact⟨rfl,_,HR.below Ag,A7.of_below Ag⟩
   ·have hgi:¬ (Br n:Int) < (U:Int):=(by omega);rw[Aa hgt] at Gm;clear hgt;go_wp2_with fail
    go_region_held3 (fun V=>V.cell? ⟨r,1,none⟩=some (.int .i64 (Br n:Int))) (go_keep)
     (first|(go_at_call 77;refine(U4 _ ((Ad _ _).drew)).mono ?_;rintro e wA ⟨rfl,Cv⟩;have Ag:=Hi (show Bw wr wA from((Ad _ wr).drew).trans Cv);clear Cv;have cA:wA.cell? ⟨r,1,none⟩=some (.int .i64 (Br n:Int)):=(by rw[AY _ _ _ _ _ _ (HR.below (HB.trans (Ag.mono HB.size))).1];rfl)))
    all_goals
     have BM:=Hi (HB.trans (Ag.mono HB.size));have hrf:=HR.below BM.out;have hxa:=Mg.below Ag.out;have d0:wA.cell? ⟨r,0,none⟩=some (.slice vq A.length vc):=cr hrf.1;have df:=Cb _ _ 0 _ _ hrf.1;have x0:wA.cell? ⟨w.heap.size,0,none⟩=some (.slice xq F.length xc):=cr hxa.1;have Fg:=Hi (BD hrf.1 hxa.2);clear hrf c1 hxa;go_wp2_with fail;go_ret;rw[Gm.out];refine⟨rfl,.slice xq F.length xc,?_,(A7.of_below (F:=fun k=>k=r) BM).setCell (p:=⟨r,0,none⟩) (.inl rfl) _⟩;refine⟨Bh _ _ 0 _ _ _ Fg.1,AL Fg.2 ((A7.refl (fun k=>k=r) wA).setCell (p:=⟨r,0,none⟩) (.inl rfl) _) (fun g hg e=>?_)⟩;rw[e] at hg;exact Ap.ne (Bi Fg.2 hg) ⟨_,_,Fg.1⟩ (by decide) rfl
end Mem
namespace Man
open Go.RowKit Go.Maps Wal Fil
section
variable {B:Nat}{w0 w w':World}{b y n N:Nat}{A A':M}
def L9(w w':World):Prop:=∀ (base:Nat) (v:Value) (l:List T),AQ w base v l→AQ w' base v l
theorem L9.below(hb:Bw w w'):L9 w w':=fun _ _ _ h=>Bp h hb
theorem L9.trans{w1 w2 w3:World}(h:L9 w1 w2)(k:L9 w2 w3):L9 w1 w3:=fun a v l r=>k a v l (h a v l r)
theorem L9.upd{bl:Nat→Prop}(hu:A7 (FB w bl) w w'):L9 w w':=fun _ _ _ h=>AL h hu (fun _ hg e=>e.not (Bi h hg) (by decide))
end
end Man
namespace Man
open Go.RowKit Go.Maps Wal Fil
structure Bl(B:Nat)(w0 W:World)(b y n N:Nat)(A:M)(L:List (Nat×Obj)):Prop where
 x:PI B w0 W b y n N A (fun k=>∃ o,(k,o)∈L)
 at_:∀ k o,(k,o)∈L→W.heap[k]?=some o
section
variable {B:Nat}{w0 w w':World}{b y n N:Nat}{A A':M}{L:List (Nat×Obj)}
theorem Bl.of(h:yQ B w0 w b y n N A):Bl B w0 w b y n N A []:=by
 obtain⟨h1,h2,bl,h3,h4⟩:=h;exact⟨⟨h1,h2,fun k hk=>by obtain⟨o,ho⟩:=hk;simp at ho,bl,h3,fun k hk=>⟨h4 k hk,fun⟨o,ho⟩=>by simp at ho⟩⟩,fun k o h=>by simp at h⟩
theorem Bl.Ao(h:Bl B w0 w b y n N A L):Below B w0 w:=h.x.1
theorem Bl.step(h:Bl B w0 w b y n N A L)(hb:Bw w w'):Bl B w0 w' b y n N A L:=
 ⟨h.x.step hb,fun k o ho=>(hb.block k (BZ.1 (h.at_ k o ho)).1).trans (h.at_ k o ho)⟩
theorem Bl.new(h:Bl B w0 w b y n N A L)(o:Obj):Bl B w0 (w.alloc o) b y n N A ((w.heap.size,o) :: L):=by
 obtain⟨⟨h1,h2,hx,bl,h3,h4⟩,ha⟩:=h;have hb:=Am w o;have hs:(w.alloc o).heap.size=w.heap.size+1:=Ai _ _;refine⟨⟨h1.trans (hb.mono h2),Ah h2 hb.size,fun k ⟨o',ho⟩=>?_,fun k=>bl k∧k < w.heap.size,h3.shrink.below hb,fun k hk=>⟨(h4 k hk.1).1,fun⟨o',ho⟩=>?_⟩⟩,fun k o' ho=>?_⟩
 ·rcases AZ.1 ho with e|e
  ·cases e;omega
  ·have:=hx k ⟨o',e⟩;omega
 ·rcases AZ.1 ho with e|e
  ·cases e;have:=hk.2;omega
  ·exact(h4 k hk.1).2 ⟨o',e⟩
 ·rcases AZ.1 ho with e|e
  ·cases e;exact Aq w o
  ·exact(hb.block k (BZ.1 (ha k o' e)).1).trans (ha k o' e)
theorem Bl.cell(h:Bl B w0 w b y n N A L){k:Nat}{cs:Array Value}{t:TypeId}(hm:(k,.cells cs t)∈L)(i:Nat):w.cell? ⟨k,i,none⟩=cs[i]? :=AY w k i cs t _ (h.at_ _ _ hm)
theorem Bl.pick(h:Bl B w0 w b y n N A L):∃ bl,PH w b y bl n N A∧(∀ k,bl k→k < w.heap.size)∧∀ {N':Nat} {A':M} {w':World},Goes w b y bl n N' A' w'→Bl B w0 w' b y n N' A' L∧L9 w w':=by
 obtain⟨⟨h1,h2,hx,bl,h3,h4⟩,ha⟩:=h;refine⟨_,h3.shrink,fun k hk=>hk.2,fun {N' A' w'} ⟨Bv,g1,g2,g3⟩=>?_⟩;obtain⟨k1,k2⟩:=PI.turn h1 h2 hx (fun k hk=>h4 k hk.1) g1 g2 g3;exact⟨⟨k1,fun k o ho=>(k2 k ⟨o,ho⟩).trans (ha k o ho)⟩,L9.upd g2⟩
theorem U5(h:Bl B w0 w b y n N A L):Up A∧Fil.Good A∧used A≤Br n:=by
 obtain⟨bl,h1,h3,h2⟩:=h.pick;exact⟨h1.up.1,h1.up.2.1,h1.up.2.2.1⟩
end
end Man
namespace Man
open Go.RowKit Go.Maps Wal Fil
theorem Qj{w:World}{base:Nat}(hb:base≤w.heap.size)(l:List T)(hl:l.length≤1000)(cs:Array Value)(hc:cs=(strCells l).toArray){g n:Nat}(hg:w.heap.size=g)(hn:l.length=n):AQ (w.alloc (.cells cs 9)) base (.slice (some ⟨g,0,none⟩) n n) l:=by
 subst hc hg hn;have:=World.ownsRow_lit (base:=base) (e:=9) (size:=1) w (strCells l).toArray l.length hb (by unfold maxLen;omega) (by simp[strCells]);exact this
end Man
namespace Man
open Go.RowKit Go.Maps
abbrev T:=List UInt8
end Man
namespace Man
open Go.RowKit Go.Maps Wal Fil
theorem aoV{l:List T}{x:T}{k:Nat}(hk:k < l.length)(h:∀ j,(hj:j < l.length)→j < k→l[j] < x)(hx:¬ l[k] < x):
  l.takeWhile (fun y=>decide (y < x))=l.take k∧l.dropWhile (fun y=>decide (y < x))=l.drop k:=by
 induction l generalizing k with
 |nil=>simp at hk
 |cons y l ih=>
  cases k with
  |zero=>
   have:¬ y < x:=hx;rw[List.takeWhile_cons_of_neg (by simpa using this),List.dropWhile_cons_of_neg (by simpa using this)];exact⟨rfl,rfl⟩
  |succ k=>
   have h0:y < x:=h 0 (by simp) (by omega);obtain⟨g1,g2⟩:=ih (k:=k) (by simpa using hk) (fun j hj hjk=>h (j+1) (by simpa using hj) (by omega)) hx;rw[List.takeWhile_cons_of_pos (by simpa using h0),List.dropWhile_cons_of_pos (by simpa using h0),g1,g2];exact⟨rfl,rfl⟩
theorem aoW{l:List T}{x:T}(h:∀ j,(hj:j < l.length)→l[j] < x):l.takeWhile (fun y=>decide (y < x))=l∧l.dropWhile (fun y=>decide (y < x))=[]:=by
 induction l with
 |nil=>exact⟨rfl,rfl⟩
 |cons y l ih=>
  have h0:y < x:=h 0 (by simp);obtain⟨g1,g2⟩:=ih (fun j hj=>h (j+1) (by simpa using hj));rw[List.takeWhile_cons_of_pos (by simpa using h0),List.dropWhile_cons_of_pos (by simpa using h0),g1,g2];exact⟨rfl,rfl⟩
theorem adS{l:List T}{x:T}{k:Nat}(hk:k≤l.length)(h:∀ j,(hj:j < l.length)→j < k→l[j] < x)(hx:∀ hk:k < l.length,¬ l[k] < x):
  Gp l x=if(∃ hk:k < l.length,l[k]=x) then l else l.take k++[x]++l.drop k:=by
 unfold Gp;by_cases hlt:k < l.length
 ·obtain⟨g1,g2⟩:=aoV hlt h (hx hlt);rw[g1,g2,List.head?_drop,BP hlt];by_cases he:l[k]=x
  ·rw[Ac (by rw[he]),Ac ⟨hlt,he⟩,Ja]
  ·rw[Aa (by simpa using he),Aa (fun⟨_,e⟩=>he e)];simp
 ·obtain rfl:k=l.length:=by omega
  obtain⟨g1,g2⟩:=aoW (fun j hj=>h j hj hj);rw[g1,g2,Aa (by simp),Aa (fun⟨e,_⟩=>hlt e)];simp
def P6(q:Option Addr)(cap k:Nat):Option Addr:=if cap=k then q else q.map (·.add k)
theorem aoX(P:Program)(W:World)(t e:TypeId)(i:TypeInfo)(hu:P.underlying t=some (.slice e))(hi:P.info? e=some i)(q:Option Addr)(n cap k:Nat)(hk:k≤n)(hc:n≤cap):
  (Instr.slice t (.slice q n cap) none (some (.int .i64 (k:Int))) none).run P W=.ok (.slice q k cap) W:=by
 cases q<;>simp[Instr.slice,ER hu,Instr.sliceBounds,sizeOf,typeInfo,hi,go_sem]<;>omega
theorem aoY(P:Program)(W:World)(t e:TypeId)(i:TypeInfo)(hu:P.underlying t=some (.slice e))(hi:P.info? e=some i)(hs:i.size=1)(q:Option Addr)(n cap k:Nat)(hk:k≤n):
  (Instr.slice t (.slice q n cap) (some (.int .i64 (k:Int))) none none).run P W=.ok (.slice (P6 q cap k) (n -k) (cap -k)) W:=by
 cases q
 ·simp[Instr.slice,ER hu,Instr.sliceBounds,sizeOf,typeInfo,hi,go_sem,P6];exact fun h=>absurd h (by omega)
 ·simp[Instr.slice,ER hu,Instr.sliceBounds,sizeOf,typeInfo,hi,hs,go_sem,P6];exact fun h=>absurd h (by omega)
theorem adT{w:World}{q:Option Addr}{l:List T}(h:BB w q l)(k:Nat):BB w q (l.take k):=fun i hi=>by
 rw[Aw] at hi;obtain⟨p,hp,hc⟩:=h i (by omega);exact⟨p,hp,by rw[hc,List.getElem_take]⟩
theorem adU{w:World}{q:Option Addr}{l:List T}(h:BB w q l){cap k:Nat}(hk:k≤l.length)(hc:l.length≤cap):BB w (P6 q cap k) (l.drop k):=fun i hi=>by
 rw[BA] at hi;obtain⟨p,hp,hcl⟩:=h (k+i) (by omega);refine⟨p.add k,?_,?_⟩
 ·unfold P6;rw[Aa (by omega),hp];rfl
 ·rw[Addr.add_add,hcl,List.getElem_drop]
theorem adV{w:World}{base Oy:Nat}{v:Value}{l:List T}(h:AQ w base v l)(hb:Oy≤base):AQ w Oy v l:=by
 refine⟨h.1,?_⟩;rcases h.2 with h2|⟨g,cap,cur,e0,hbb,h3⟩
 ·exact .inl h2
 ·exact .inr ⟨g,cap,cur,e0,Ah hb hbb,h3⟩
section
variable {w w':World}
theorem aoZ{base:Nat}{v:Value}{l:List T}(x:T)(h:AQ w base v l)(hb:base≤w.heap.size)(hl:l.length≤100000):
  Calls prog 210 #[v,.string (bs x)] w fun e w'=>∃ v',e=.returned v'∧AQ w' base v' (Gp l x)∧Bw w w':=by
 obtain⟨q,cap,rfl⟩:=AA h;have htx:=CP h;have hlc:l.length≤cap:=by
  rcases h.parts with⟨e,e2⟩|⟨_,cap',e,_,hc,_⟩
  ·rw[e2];exact Ar _
  ·injection e with _ _ e;rw[e];exact hc
 have hqc:q=none→cap=0:=fun e=>by
  rcases h.parts with⟨e1,_⟩|⟨_,cap',e1,_⟩
  ·injection e1
  ·injection e1 with e1;rw[e1] at e;cases e
 obtain⟨i0,hi0,hz0,hz1,hz2⟩:=Cz gM;have PZ:∀ (W:World) (k:Nat),k≤l.length→(Instr.slice 27 (.slice q l.length cap) none (some (.int .i64 (k:Int))) none).run prog W=.ok (.slice q k cap) W:=fun W k hk=>aoX prog W _ 9 i0 underlying27 hi0 q l.length cap k hk hlc
 have hsb:∀ (W:World) (k:Nat),k≤l.length→(Instr.slice 27 (.slice q l.length cap) (some (.int .i64 (k:Int))) none none).run prog W=.ok (.slice (P6 q cap k) (l.length -k) (cap -k)) W:=fun W k hk=>aoY prog W _ 9 i0 underlying27 hi0 hz1 q l.length cap k hk
 have HSF:=Hi PZ;have MM:=Hi hsb;have HLC:=Hi hlc;have eT:=Hi hqc;clear PZ hsb hlc hqc;have H:=Hi h;clear h;go_enter func210,ntmps210;go_wp2_with fail
 go_loop [5] (fun i=>∃ k:Nat,k≤l.length∧i=.int .i64 (k:Int)∧∀ j,(hj:j < l.length)→j < k→l[j] < x) (fun i=>l.length -(intOf i).toNat)
 case atStart=>exact⟨0,Ar _,rfl,fun j _ e=>by omega⟩
 case round=>
  obtain⟨k,hk,rfl,asD⟩:=hrel;have Eh:=Hi asD;clear asD;by_cases hlt:k < l.length
  ·obtain⟨qk,hq1,hq2⟩:=htx.index cap k hlt;obtain⟨X,hX⟩:=ex (l[k]);rw[hX] at hq2;have HX:=Hi hX;clear hX;by_cases eU:X < x
   ·have hbl:Op.bytesLess X x=true:=(by rw[Go.Proofs.bytesLess_eq];simpa using eU);go_wp2_with fail;refine⟨⟨k+1,by omega,by go_num,fun j hj hjk=>?_⟩,by simp[intOf];omega⟩;by_cases e:j=k
    ·subst e;rw[HX.out];exact eU
    ·exact Eh j hj (by omega)
   ·have hbl:Op.bytesLess X x=false:=(by rw[Go.Proofs.bytesLess_eq];simpa using eU);have ay8:=adS (l:=l) (x:=x) hk Eh (fun _=>by rw[HX.out];exact eU);by_cases eX:X=x
    ·have HP:=Hi (show Gp l x=l by rw[ay8,Ac ⟨hlt,by rw[HX.out,eX]⟩]);subst eX;clear ay8;go_wp2_with fail;go_ret;exact⟨_,rfl,by rw[HP.out];exact H.out,Ad _ _⟩
    ·have HP:=Hi (show Gp l x=l.take k++[x]++l.drop k by rw[ay8,Aa (fun⟨_,e⟩=>eX (by rw[←HX.out,e]))]);have as7:(X == x)=false:=(by simpa using eX);clear ay8;have PZ:=fun W=>HSF W k hk
     have hsb:=fun W=>MM W k hk
     go_wp2_with (first
      |(at_builtin;refine aA rfl _ _ rfl w.heap.size (.slice none 0 0) [] (l.take k) rfl (by unfold AQ;rw[GD];exact DJ _ _ _ _) q cap (by rw[Aw,FM hk];rfl) (adT htx k) eT (by rw[Aw,FN];omega) (Ab _) ?_;intro v1 w1 ho1 hg1 Pg;rw[DI] at ho1;unfold AQ at ho1;rw[Aw,FM hk] at ho1;obtain⟨q1,Qg,rfl⟩:=AA ho1;have Cq:=Hi ho1;have HB1:=Hi (((Ad _ w).grown hg1 (Ab _) (fun j e=>by cases e)));clear ho1 hg1 Pg)
      |(at_builtin;refine wpList_append_own_at _ rfl _ _ 27 rfl w.heap.size 9 i0 _ 1 16 underlying27 hi0 hz0 hz1 hz2 rfl (by decide) (.slice q1 k Qg) k (strCells (l.take k)) rfl (Cq.alloc _) ⟨w1.heap.size,0,none⟩ 1 1 [.string (bs x)] rfl rfl (cell_one_new _ _ _) (by simp[Value.oneCell']) (by unfold maxLen;omega) (by omega) (by rw[Ai];have:=HB1.size;omega) ?_;intro v2 w2 ho2 hg2 _ Pf;obtain⟨g2,cap2,rfl⟩:=ownsRow_succ ho2;have KT:=Hi ho2;have HB2:=Hi ((HB1.alloc HB1.size (.cells #[.string (bs x)] 9)).grown hg2 (by rw[Ai];have:=HB1.size;omega) (fun j hj=>CJ Cq hj));clear ho2 hg2 Pf)
      |(at_builtin;refine aA rfl _ _ rfl w.heap.size (.slice (some ⟨g2,0,none⟩) (k+1) cap2) (l.take k++[x]) (l.drop k) rfl (by unfold AQ;rw[Aj,Aw,FM hk,Mi];exact KT.out) (P6 q cap k) (cap -k) (by rw[BA];rfl) ((adU htx hk HLC).below HB2) (fun e=>by have:=eT.out;unfold P6 at e;split at e;omega;cases q with|none=>have:=this rfl;omega|some _=>cases e) (by rw[Aj,Aw,BA,Ii];omega) HB2.size ?_;intro v3 w3 ho3 hg3 YD;have K7:=Hi ho3;have HB3:=Hi (HB2.grown hg3 HB2.size (fun j hj=>CJ KT hj));clear ho3 hg3 YD))
     go_ret;exact⟨_,rfl,by rw[HP.out];exact adV K7 hb,HB3⟩
  ·have HP:=Hi (show Gp l x=l.take k++[x]++l.drop k by rw[adS (l:=l) (x:=x) hk Eh (fun e=>absurd e hlt),Aa (fun⟨e,_⟩=>hlt e)]);have PZ:=fun W=>HSF W k hk
   have hsb:=fun W=>MM W k hk
   go_wp2_with (first
    |(at_builtin;refine aA rfl _ _ rfl w.heap.size (.slice none 0 0) [] (l.take k) rfl (by unfold AQ;rw[GD];exact DJ _ _ _ _) q cap (by rw[Aw,FM hk];rfl) (adT htx k) eT (by rw[Aw,FN];omega) (Ab _) ?_;intro v1 w1 ho1 hg1 Pg;rw[DI] at ho1;unfold AQ at ho1;rw[Aw,FM hk] at ho1;obtain⟨q1,Qg,rfl⟩:=AA ho1;have Cq:=Hi ho1;have HB1:=Hi (((Ad _ w).grown hg1 (Ab _) (fun j e=>by cases e)));clear ho1 hg1 Pg)
    |(at_builtin;refine wpList_append_own_at _ rfl _ _ 27 rfl w.heap.size 9 i0 _ 1 16 underlying27 hi0 hz0 hz1 hz2 rfl (by decide) (.slice q1 k Qg) k (strCells (l.take k)) rfl (Cq.alloc _) ⟨w1.heap.size,0,none⟩ 1 1 [.string (bs x)] rfl rfl (cell_one_new _ _ _) (by simp[Value.oneCell']) (by unfold maxLen;omega) (by omega) (by rw[Ai];have:=HB1.size;omega) ?_;intro v2 w2 ho2 hg2 _ Pf;obtain⟨g2,cap2,rfl⟩:=ownsRow_succ ho2;have KT:=Hi ho2;have HB2:=Hi ((HB1.alloc HB1.size (.cells #[.string (bs x)] 9)).grown hg2 (by rw[Ai];have:=HB1.size;omega) (fun j hj=>CJ Cq hj));clear ho2 hg2 Pf)
    |(at_builtin;refine aA rfl _ _ rfl w.heap.size (.slice (some ⟨g2,0,none⟩) (k+1) cap2) (l.take k++[x]) (l.drop k) rfl (by unfold AQ;rw[Aj,Aw,FM hk,Mi];exact KT.out) (P6 q cap k) (cap -k) (by rw[BA];rfl) ((adU htx hk HLC).below HB2) (fun e=>by have:=eT.out;unfold P6 at e;split at e;omega;cases q with|none=>have:=this rfl;omega|some _=>cases e) (by rw[Aj,Aw,BA,Ii];omega) HB2.size ?_;intro v3 w3 ho3 hg3 YD;have K7:=Hi ho3;have HB3:=Hi (HB2.grown hg3 HB2.size (fun j hj=>CJ KT hj));clear ho3 hg3 YD))
   go_ret;exact⟨_,rfl,by rw[HP.out];exact adV K7 hb,HB3⟩
theorem ap0(l:List T)(x:T):(Gp l x).length≤l.length+1:=by
 induction l with
 |nil=>simp[Gp]
 |cons y l ih=>
  rw[kV];split
  ·simpa using ih
  ·split<;>simp
theorem qK{q:Option Addr}{cap:Nat}{l:List T}(h:BB w q l)(hl:l.length≤50000):
  Calls prog 166 #[.slice q l.length cap] w fun e w'=>∃ v',e=.returned v'∧AQ w' w.heap.size v' (kW l)∧Bw w w':=by
 have H:=Hi h;clear h;go_enter func166,ntmps166;go_wp2_with fail
 go_loopw [3,4] (fun ov i wr=>∃ (k:Nat) (o:List T),k≤l.length∧i=.int .i64 (k:Int)∧o=(l.take k).foldl Gp []∧o.length≤k∧AQ wr w.heap.size ov o∧Bw w wr) (fun _ i _=>l.length -(intOf i).toNat)
 case atStart=>exact⟨0,[],Ar _,rfl,rfl,Ab _,by unfold AQ;rw[GD];exact DJ _ _ _ _,Ad _ _⟩
 case round=>
  obtain⟨k,o,hk,rfl,ho,hok,ast,hb⟩:=hrel;have HO:=Hi ho;have HR:=Hi ast;have HB:=Hi hb;clear ho ast hb;by_cases hlt:k < l.length
  ·obtain⟨qk,hq1,hq2⟩:=(H.below HB).index cap k hlt;obtain⟨X,hX⟩:=ex (l[k]);rw[hX] at hq2;have HX:=Hi hX;clear hX;go_wp2_with fail;refine(aoZ X HR HB.size (by omega)).mono ?_;rintro e w1⟨v1,rfl,ho1,hb1⟩;have Cq:=Hi ho1;have HB1:=Hi (HB.trans (hb1.mono HB.size));clear ho1 hb1;go_wp2_with fail;refine⟨⟨k+1,Gp o X,by omega,by go_num,?_,?_,Cq,HB1⟩,by simp[intOf];omega⟩
   ·rw[BS hlt,List.foldl_append,←HO.out,HX.out];rfl
   ·have:=ap0 o X;omega
  ·obtain rfl:k=l.length:=(by omega);go_wp2_with fail;go_ret;refine⟨_,rfl,?_,HB⟩;have e:=HO.out;rw[Ck] at e;unfold kW;rw[←e];exact HR.out
end
end Man
end Go.Proofs.YtmbbhdebddbhoaaGreat
