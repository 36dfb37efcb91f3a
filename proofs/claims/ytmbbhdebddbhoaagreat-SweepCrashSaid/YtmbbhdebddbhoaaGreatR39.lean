/- RPut ManE -/
import Derived.Test.YtmbbhdebddbhoaaGreatR38
set_option maxHeartbeats 8000000
set_option maxRecDepth 100000
set_option linter.all false
namespace Go.Proofs.YtmbbhdebddbhoaaGreat
open Tryz
section
open Go.RowKit Go.Maps
open Fil Man
section
variable {w w':World}
def YB(most:Nat)(A:M)(l:List Aj):Int:=if l.all Aj.may=false then 2 else if most < used (made A l) then 4 else 0
def VL(most:Nat)(A:M)(l:List Aj):M:=if l.all Aj.may=true∧used (made A l)≤most then made A l else A
theorem alS{r most cap:Nat}{a:Option Addr}{v:Value}{A:M}{l:List Aj}(h:GL w r v A (most:Int))(hu:Up A)(hl:DW w a l)(aC8:most≤2000000000000)(hA:used A≤3000000)(EB:l.length≤100000)(hw:Fx l≤900000):
  Calls prog 33 #[.pointer (some ⟨r,0,none⟩),.slice a l.length cap] w fun e w'=>e=.returned (.int .i64 (YB most A l))∧∃ v',GL w' r v' (VL most A l) (most:Int)∧A7 (fun k=>k=r) w w':=by
 have I9:=Rn A;have GD:=VQ hu l;have Cb:∀ c∈l,c.name.length≤maxLen∧c.data.length≤maxLen:=fun c hc=>by
  have:=anU hc;unfold maxLen;omega
 have HR:=Hi h;have HL:=Hi hl;have FQ:=Hi Cb;clear h hl Cb;go_enter func33,ntmps33;go_wp2_with fail
 go_loopw [5] (fun i wr=>∃ k:Nat,k≤l.length∧i=.int .i64 (k:Int)∧(l.take k).all Aj.may=true∧Bw w wr) (fun i _=>l.length -(intOf i).toNat)
 case atStart=>exact⟨0,AB _,rfl,rfl,Af _ _⟩
 case round=>
  obtain⟨k,hk,rfl,AY,hb⟩:=hrel;have Fy:=Hi AY;have HB:=Hi hb;clear AY;by_cases hlt:k < l.length
  ·obtain⟨p,Hg,hp,_⟩:=(HL.below hb).index cap k hlt;obtain⟨p0,p1,p2⟩:=hp.cells;obtain⟨o1,o2⟩:=FQ _ (Ci hlt);have HM:=Hi (amf l[k].name l[k].data l[k].gone wr o1 o2);obtain⟨mv,DZ⟩:=ex (Aj.may l[k]);rw[show(⟨l[k].name,l[k].data,l[k].gone⟩:Aj)=l[k] from rfl,DZ] at HM;have QL:=Hi DZ;have Ms:=Ci hlt;cases mv with
   |true=>
    have HN:=Hi (show(l.take (k+1)).all Aj.may=true by rw[Cw hlt,List.all_append,Fy.out,Bool.true_and];simp[QL.out]);clear hb hp Ms DZ o1 o2;generalize l[k]=c at*;go_wp2_with fail;refine HM.mono ?_;rintro e w2⟨rfl,A8⟩;have Ag:=Hi (HB.trans (A8.mono HB.size));clear A8;go_wp2_with fail;go_roundw
    case rel=>exact⟨k+1,by omega,by go_num,HN,Ag⟩
    case measure=>simp[intOf];omega
   |false=>
    have Qf:l.all Aj.may=false:=by
     rw[Bool.eq_false_iff];intro e;rw[Nz] at e;rw[e _ Ms] at DZ;cases DZ
    have HC:=Hi (show YB most A l=2 by unfold YB;rw[Ab Qf]);have HX:=Hi (show VL most A l=A by unfold VL;rw[Aa (by rw[Qf];simp)]);clear hb hp Ms DZ o1 o2 Qf;generalize l[k]=c at*;go_wp2_with fail;refine HM.mono ?_;rintro e w2⟨rfl,A8⟩;have Ag:=Hi (HB.trans (A8.mono HB.size));clear A8;go_wp2_with fail;go_ret;exact⟨by rw[HC.out];rfl,v,by rw[HX.out];exact HR.below Ag,A7.of_below Ag⟩
  ·obtain rfl:k=l.length:=(by omega);have AY:=Fy.out;rw[CY] at AY;have HW:=Hi (amz (cap:=cap) (HR.below hb) hu (HL.below hb) (by omega) (by omega));have Ru:=Hi AY;clear hb AY Fy;go_wp2_with fail;refine HW.mono ?_;rintro e w2⟨v2,rfl,Cy,A8⟩;obtain⟨q2,cap2,rfl⟩:=Bg Cy;have Ag:=Hi (HB.trans (A8.mono HB.size));have BI:=Hi Cy;have F4:=Hi (fun(W:World) (hW:Bw w2 W)=>acQ (Bh Cy (ub hW) (fun _ _ f=>f)) (by omega));have Fv:=HR.below Ag.out;have c1:w2.cell? ⟨r,1,none⟩=some (.int .i64 (most:Int)):=cr Fv.1;have HRF:=Hi Fv;obtain⟨F,hF⟩:=ex (made A l);rw[hF] at F4 BI ⊢;have Y1:=Hi hF;obtain⟨U,hU⟩:=ex (used F);rw[hU] at F4;rw[hF,hU] at GD;have gV:=Hi hU;clear Cy A8 Fv hU hF;have jh:YB most A l=if most < U then 4 else 0:=by
    unfold YB;rw[Aa (by rw[Ru.out];simp),Y1.out,gV.out]
   have jI:VL most A l=if most < U then A else F:=by
    unfold VL;rw[Y1.out,gV.out];by_cases e:most < U
    ·rw[Ab e,Aa (by omega)]
    ·rw[Aa e,Ab ⟨Ru,by omega⟩]
   have Rx:=Hi (Cc jh jI);clear jh jI I9 hw EB hA hlt hk;by_cases Gy:most < U
   ·have Qa:(most:Int) < (U:Int):=(by omega);have HG:=Hi Gy;clear Gy;go_wp2_with fail
    go_region_held3 (fun V=>V.cell? ⟨r,1,none⟩=some (.int .i64 (most:Int))) (go_keep)
     (first|(go_at_call 106;refine(F4 _ ((Af _ _).drew)).mono ?_;rintro e wA ⟨rfl,Dr⟩;have Ao:=Hi (Ag.trans ((show Bw w2 wA from((Af _ w2).drew).trans Dr).mono Ag.size));clear Dr;have cA:wA.cell? ⟨r,1,none⟩=some (.int .i64 (most:Int)):=(by rw[BA _ _ _ _ _ _ (HR.below Ao).1];rfl)))
    all_goals
     go_wp2_with fail;go_ret;exact⟨by rw[Rx.1,Ab HG.out];rfl,v,by rw[Rx.2,Ab HG.out];exact HR.below Ao,A7.of_below Ao⟩
   ·have Qa:¬ (most:Int) < (U:Int):=(by omega);have HG:=Hi Gy;clear Gy;go_wp2_with fail
    go_region_held3 (fun V=>V.cell? ⟨r,1,none⟩=some (.int .i64 (most:Int))) (go_keep)
     (first|(go_at_call 106;refine(F4 _ ((Af _ _).drew)).mono ?_;rintro e wA ⟨rfl,Dr⟩;have Ao:=Hi ((show Bw w2 wA from((Af _ w2).drew).trans Dr));clear Dr;have cA:wA.cell? ⟨r,1,none⟩=some (.int .i64 (most:Int)):=(by rw[BA _ _ _ _ _ _ (HR.below (Ag.trans (Ao.mono Ag.size))).1];rfl)))
    all_goals
     have CL:=Hi (Ag.trans (Ao.mono Ag.size));have Fv:=HR.below CL.out;have d0:wA.cell? ⟨r,0,none⟩=some v:=cr Fv.1;have df:=CJ _ _ 0 _ _ Fv.1;have Hd:=Hi (Cc Fv.1 (Bh BI (ub Ao) (fun _ _ f=>f)));clear Fv c1;go_wp2_with fail;go_ret;refine⟨by rw[Rx.1,Aa HG.out];rfl,.slice q2 F.length cap2,?_,(A7.of_below (F:=fun k=>k=r) CL).setCell (p:=⟨r,0,none⟩) (.inl rfl) _⟩;rw[Rx.2,Aa HG.out];refine⟨BU _ _ 0 _ _ _ Hd.1,Bh Hd.2 ((A7.refl (fun k=>k=r) wA).setCell (p:=⟨r,0,none⟩) (.inl rfl) _) (fun g hg e=>?_)⟩;rw[e] at hg;exact AA.ne (BQ Hd.2 hg) ⟨_,_,Hd.1⟩ (by decide) rfl
end
end
namespace Mem
open Go.RowKit Go.Maps
open Wal Fil Man Prs Kp Cm Hex Sha
theorem amy{w:World}{r:Nat}{v:Value}{A:M}{most:Int}(h:GL w r v A most)(hA:used A≤1000000000):
  Calls prog 77 #[.pointer (some ⟨r,0,none⟩)] w fun e w'=>e=.returned (.int .i64 (used A:Nat))∧Bw w w':=by
 obtain⟨q,cap,rfl⟩:=Bg h.2;have c0:w.cell? ⟨r,0,none⟩=some (.slice q A.length cap):=cr h.1;have HU:=Hi (acQ h.2 hA);clear h;go_enter func77,ntmps77;go_wp2_with fail;refine HU.mono ?_;rintro e w1⟨rfl,hb⟩;have HB:=Hi hb;clear hb;go_wp2_with fail;go_ret;exact⟨rfl,HB⟩
theorem ay8{w:World}{r:Nat}{v:Value}{A:M}{most:Int}(h:GL w r v A most)(hA:A.length≤1000000)(name:T)(K9:∀ d,Fil.get A name=some d→d.length≤1000000)(hf:∀ d,Fil.get A name=some d→(fileOf Ae A name).isSome=true):
  Calls prog 74 #[.pointer (some ⟨r,0,none⟩),.string (bs name)] w fun e w'=>∃ q cap,e=.returned (.tuple #[.slice q ((fileOf Ae A name).getD []).length cap,.bool (Fil.get A name).isSome,.bool false])∧Bo w' w.heap.size (.slice q ((fileOf Ae A name).getD []).length cap) ((fileOf Ae A name).getD [])∧(q=none→cap=0)∧Bw w w':=by
 have HG:=Hi (am9 h hA name);have X8:∀ d,Fil.get A name=some d→fileOf Ae A name=Ae.Df name d:=fun d hd=>by unfold fileOf;rw[hd];rfl
 have OW:Fil.get A name=none→fileOf Ae A name=none:=fun hd=>by unfold fileOf;rw[hd];rfl
 clear h;cases hx:Fil.get A name with
 |none=>
  rw[hx] at HG;rw[OW hx];clear hx hf X8 OW K9;go_enter func74,ntmps74;go_wp2_with fail;refine HG.mono ?_;rintro e w1⟨rfl,hb⟩;have HB:=Hi hb;clear hb;go_wp2_with fail;exact El (v:=.tuple #[.slice none 0 0,.bool false,.bool false]) (by simp[results,results74,go_sem]) rfl ⟨none,0,rfl,VN _ _,fun _=>rfl,HB⟩
 |some d=>
  rw[hx] at HG;have h1:=hf d hx;rw[X8 d hx] at h1 ⊢;obtain⟨l,hl⟩:=MN.1 h1;rw[hl];have HE:=Hi (fun(W:World)=>ay3 name d l hl W (K9 d hx));clear hx hf X8 OW K9 h1 hl;go_enter func74,ntmps74;go_wp2_with fail;refine HG.mono ?_;rintro e w1⟨rfl,hb⟩;have HB:=Hi hb;clear hb;go_wp2_with fail;refine(HE _).mono ?_;rintro e w2⟨q,cap,rfl,hr,hq,A8⟩;have HR:=Hi (E9 hr HB.size);have Ag:=Hi (HB.trans (A8.mono HB.size));clear A8 hr;go_wp2_with fail;exact El (v:=.tuple #[.slice q l.length cap,.bool true,.bool false]) (by simp[results,results74,go_sem]) rfl ⟨q,cap,rfl,HR,hq,Ag⟩
theorem anV{K:Kind}(hK:K.BM)(l:M):Fx (Fj K l)≤l.length*65560:=by
 induction l using Uo with
 |h0=>exact AB _
 |h1 l p ih=>
  rw[uk];have e:∀ a b:List Aj,Fx (a++b)=Fx a+Fx b:=fun a b=>by unfold Fx;rw[CF,JH]
  rw[e,Au,Kq];have h2:Fx [LP K (l++[p]) (K.nm p.1)]≤65560:=by
   show 8+(K.nm p.1).length+((BG (Bv K (l++[p]) (K.nm p.1))).getD []).length+0≤_
   rw[hK.len];cases hc:BG (Bv K (l++[p]) (K.nm p.1)) with
   |none=>show 8+17+0+0≤_;decide
   |some d=>
    have:=aX hc
    show 8+17+d.length+0≤_
    omega
  omega
def y5(w:World)(xb:Nat)(A l:M)(i:Value)(wr:World):Prop:=
 ∃ (k:Nat) (vx:Value),k≤l.length∧i=.int .i64 (k:Int)∧GL wr xb vx (made A (Fj Ae (l.take k))) (1099511627776:Nat)∧Fits Ae (l.take k)∧Bw w wr
theorem ayh{w:World}{r n cap:Nat}{a:Option Addr}{v:Value}{A l:M}(h:GL w r v A (C8 n))(hu:Up A)(CO:∀ k,Fil.get A (Ae.nm k)=none)(hn:n≤16384)(hA:used A≤C8 n)(hk:AO w a l)(hl:l.length≤20)(Db:∀ x∈l,x.1.length≤1000000)(Fg:∀ j name,Small (Bv Ae (l.take j) name)):
  Calls prog 29 #[.pointer (some ⟨r,0,none⟩),.slice a l.length cap] w fun e w'=>e=.returned (.int .i64 (Gl Ae n A l).1)∧∃ v',GL w' r v' (Gl Ae n A l).2 (C8 n)∧A7 (fun k=>k=r) w w':=by
 obtain⟨vq,vc,rfl⟩:=Bg h.2;have Im:=ZJ hn;have HR:=Hi h;have HU:=Hi hu;have Eb:=Hi CO;have HK:=Hi hk;have Ih:=Hi Db;have NR:=Hi Fg
 have F4:=Hi (show ∀ k,used (made A (Fj Ae (l.take k)))≤2000000 from fun k=>by
  have h1:=VQ hu (Fj Ae (l.take k));have h2:=anV MI (l.take k);have h3:(l.take k).length≤20:=by rw[AL];omega
  have h4:=NC 65560 h3;omega)
 have yP:w.cell? ⟨r,0,none⟩=some (.slice vq A.length vc):=cr h.1;have auT:=Ai h.1
 have Yq:=Hi (show GL (w.alloc (.cells #[.slice vq A.length vc,.int .i64 1099511627776] 144)) w.heap.size (.slice vq A.length vc) (made A (Fj Ae (l.take 0))) (1099511627776:Nat) from by
  rw[GZ];exact⟨AJ w _,(h.below (Aw w _)).2⟩)
 have Bc:=Hi (Aw w (.cells #[.slice vq A.length vc,.int .i64 1099511627776] 144));clear h hu CO hk Db Fg;go_enter func29,ntmps29;go_wp2_with fail;have JO:=Hi (show y5 w w.heap.size A l (.int .i64 0) (w.alloc (.cells #[.slice vq A.length vc,.int .i64 1099511627776] 144)) from⟨0,.slice vq A.length vc,AB _,rfl,Yq,by rw[GZ];exact zq,Bc⟩);generalize w.alloc (.cells #[.slice vq A.length vc,.int .i64 1099511627776] 144)=V0 at*;clear Yq Bc yP
 go_loopw [6] (fun i wr=>y5 w w.heap.size A l i wr) (fun i _=>l.length -(intOf i).toNat)
 case atStart=>exact JO.out
 case round=>
  obtain⟨k,vx,hk,rfl,hx,BO,hb⟩:=hrel;have HX:=Hi hx;have Ky:=Hi BO;have HB:=Hi hb;clear BO hb JO;by_cases hlt:k < l.length
  ·obtain⟨q,Cu,hp,-⟩:=(HK.below HB).index cap k hlt;have ku:=Ih _ (Ci hlt);have BN:=Hi (Cw hlt);have Py:=Hi (fun(hF:Fits Ae l)=>hF k hlt);obtain⟨x,ko⟩:=ex (l[k]);rw[ko] at hp ku BN Py;have c0:=hp.key;have c1:=hp.val;have HPX:=Hi hp;have HN:=Hi (fun(W:World)=>acF x.1 W (by omega));have Qb:=pz HU (K:=Ae) (l.take k) (Ae.nm x.1);rw[Eb.out] at Qb;have OX:=oM HU Eb (fun p _=>rfl) Ky x.1
   have Gr:=Hi (fun(W:World) (hW:Bw wr W)=>ay8 (HX.below hW) (by have:=Rn (made A (Fj Ae (l.take k)));have:=F4 k;omega) (Ae.nm x.1) (fun d hd=>by
    rw[Qb] at hd;split at hd
    ·injection hd with hd
     rw[←hd];cases hc:BG (Bv Ae (l.take k) (Ae.nm x.1)) with
     |none=>exact AB _
     |some d=>exact Ap (aX hc) (by decide)
    ·cases hd) (fun d hd=>by
    rw[Qb] at hd;rw[OX];split at hd
    ·rename_i Be
     rw[Ab Be];rfl
    ·cases hd))
   rw[agx HU Eb (fun p _=>rfl) Ky x.1] at Gr;clear Qb OX hp ko hx;generalize SC:Ae.nm x.1=name at*;have Li:=Hi SC;clear SC;have fT:=Hi (Sb (K:=Ae) (l.take k) name);have NH:=Hi (show Bv Ae (l.take (k+1)) name=put x.1 x.2 (Bv Ae (l.take k) name) from by rw[BN.out,Nf,Ab Li.out]);have JS:=Hi (NR (k+1) name);have O6:(Bv Ae (l.take k) name).length≤20:=by
    have h1:=pI Ae (l.take k) name;rw[AL] at h1;omega
   generalize Bv Ae (l.take k) name=G at*;generalize (Fil.get (made A (Fj Ae (l.take k))) name).isSome=isb at*;obtain⟨xk,xv⟩:=x;simp only at*;go_wp2_with fail;refine(HN _).mono ?_;rintro e w1⟨rfl,Ad⟩;have HB1:=Hi Ad;clear Ad;go_wp2_with fail;refine(Gr _ HB1).mono ?_;rintro e w2⟨q2,c2,rfl,Cy,CV,A8⟩;have Ag:=Hi (HB1.trans (A8.mono HB1.size));have BI:=Hi (E9 Cy (AB _));clear Cy A8;have c0:w2.cell? q=some (.string (bs xk)):=(Ag.cell (BS c0)).trans c0;have c1:w2.cell? ⟨q.block,q.off+1,none⟩=some (.string (bs xv)):=(Ag.cell (p:=⟨q.block,q.off+1,none⟩) (BS c1)).trans c1;have HW:=Hi (ayz (w:=w2) (cap:=c2) (⟨xk,xv,false⟩:Aj) rfl BI fT (by omega));rw[show Aj.on G (⟨xk,xv,false⟩:Aj)=put xk xv G from rfl] at HW;go_wp2_with fail;refine HW.mono ?_;rintro e w3⟨v3,rfl,Qh,Ak⟩;obtain⟨q3,c3,rfl,LF,Js⟩:=Es Qh;have Am:=Hi (Ag.trans (Ak.mono Ag.size));have Vy:=JS.out;rw[NH.out] at Vy;have HD:=Hi (axO (cap:=c3) (AO.CG Qh) (Cr.Qt (fT.put xk xv)) (by have:=Vy.1;omega) Vy.2)
   have fO:=Hi (show Fits Ae l→(BG (put xk xv G)).isSome=true from fun hF=>by
    have h1:=Py hF
    first
    |(rw[Li.out,NH.out] at h1;exact h1)
    |(rw[NH.out] at h1;exact h1))
   have Ll:=Hi (show Fj Ae (l.take (k+1))=Fj Ae (l.take k)++[⟨name,(BG (put xk xv G)).getD [],false⟩] from by
    rw[BN.out,uk,←BN.out]
    congr 1
    unfold LP;rw[show Ae.nm ((xk,xv):T×T).1=name from Li.out,NH.out])
   have Tv:=Hi (show Fits Ae (l.take (k+1))↔Fits Ae (l.take k)∧(BG (put xk xv G)).isSome=true from by
    rw[BN.out,Fits.kP,←BN.out,show Ae.nm ((xk,xv):T×T).1=name from Li.out,NH.out])
   clear Qh Ak Vy LF Js Py HW c0 c1;generalize put xk xv G=G2 at*;by_cases Dv:(BG G2).isSome=true
   ·rw[Ab Dv] at HD;obtain⟨d,hd⟩:=MN.1 Dv;rw[hd] at HD Ll;simp only[Option.getD_some] at HD Ll;have K9:=aX hd;have QG:=Hi (Tv.2 ⟨Ky,Dv⟩);have Ee:name.length=17:=by rw[←Li.out];exact MI.len _
    have Ot:=Hi (show Aj.may ⟨name,d,false⟩=true from by
     have h1:=acp MI QG (p:=(xk,xv)) (by rw[BN.out];simp);have h2:LP Ae (l.take (k+1)) (Ae.nm ((xk,xv):T×T).1)=⟨name,d,false⟩:=by
      unfold LP;rw[show Ae.nm ((xk,xv):T×T).1=name from Li.out,NH.out,hd];rfl
     rw[h2] at h1;exact h1)
    clear Dv hd fO;go_wp2_with fail;refine HD.mono ?_;rintro e w4⟨rfl,Ar⟩;have AZ:=Hi (Am.trans (Ar.mono Am.size));have BP:=Aw w4 (.cells #[.string (bs name),.string (bs d),.bool false] 65);have Qf:=AJ w4 (.cells #[.string (bs name),.string (bs d),.bool false] 65);have Ao:=Hi (AZ.trans (BP.mono AZ.size));have Rw:=Hi (alS (most:=1099511627776) (cap:=1) (HX.below Ao) (HU.made _) (afs (c:=⟨name,d,false⟩) Qf) (by omega) (by have:=F4 k;omega) (by simp) (by show 8+name.length+d.length+0≤_;omega));have jK:VL 1099511627776 (made A (Fj Ae (l.take k))) [⟨name,d,false⟩]=made A (Fj Ae (l.take (k+1))):=by
     unfold VL;have h1:=F4 (k+1);rw[Ll.out,rZ] at h1;rw[Ab ⟨by simp[Ot.out],by omega⟩,Ll.out,rZ]
    rw[jK] at Rw;have D7:=HB.trans (Ao.mono HB.size);have CL:=Hi D7;clear Ar BP Qf jK D7;generalize YB 1099511627776 (made A (Fj Ae (l.take k))) [⟨name,d,false⟩]=cc at*;go_wp2_with fail;refine Rw.mono ?_;rintro e w5⟨rfl,v5,dA,FX⟩;have CU:=Hi (show y5 w w.heap.size A l (.int .i64 ((k:Int)+1)) w5 from⟨k+1,v5,by omega,by go_num,dA,QG,Ca CL FX (fun i e=>Nat.le_of_eq e.symm) CL.size⟩);clear dA FX;go_wp2_with fail;go_roundw
    case rel=>exact CU.out
    case measure=>
     show l.length -((k:Int)+1).toNat < l.length -((k:Int)).toNat
     omega
   ·rw[Aa Dv] at HD
    have UH:=Hi (show Gl Ae n A l=(5,A) from by
     unfold Gl;rw[Aa (fun hF=>Dv (fO hF))])
    generalize (BG G2).getD []=dd at*;clear Dv fO Tv;go_wp2_with fail;refine HD.mono ?_;rintro e w4⟨rfl,Ar⟩;have AZ:=Hi (HB.trans ((Am.trans (Ar.mono Am.size)).mono HB.size));clear Ar;go_wp2_with fail;go_ret;rw[UH.out];exact⟨rfl,_,HR.below AZ,A7.of_below AZ⟩
  ·obtain rfl:k=l.length:=(by omega);have BO:=Ky.out;rw[CY] at BO hx;have GD:=F4 l.length;rw[CY] at GD;have J4:=Hi (acw (A:=A) MI (n:=n) BO);rw[←anJ HU.out,←tN HU.out] at J4;have Yn:=Hi (fun(W:World) (hW:Bw wr W)=>amy (hx.below hW) (by omega));have QT:=Hi hx;obtain⟨xq,xc,rfl⟩:=Bg hx.2;have Fv:=HR.below HB.out;have c1:wr.cell? ⟨r,1,none⟩=some (.int .i64 (C8 n:Int)):=cr Fv.1;clear BO hx Fv HX;generalize hF:made A (Fj Ae l)=F at*;obtain⟨U,iW⟩:=ex (used F);rw[iW] at Yn J4 GD;clear hF iW;by_cases Gy:C8 n < U
   ·have Qa:(C8 n:Int) < (U:Int):=(by omega);rw[Ab Gy] at J4;clear Gy;go_wp2_with fail
    go_region_held3 (fun V=>V.cell? ⟨r,1,none⟩=some (.int .i64 (C8 n:Int))) (go_keep)
     (first|(go_at_call 77;refine(Yn _ ((Af _ _).drew)).mono ?_;rintro e wA ⟨rfl,Dr⟩;have Ao:=Hi (HB.trans ((show Bw wr wA from((Af _ wr).drew).trans Dr).mono HB.size));clear Dr;have cA:wA.cell? ⟨r,1,none⟩=some (.int .i64 (C8 n:Int)):=(by rw[BA _ _ _ _ _ _ (HR.below Ao).1];rfl)))
    all_goals
     go_wp2_with fail;go_ret;rw[J4.out];exact⟨rfl,_,HR.below Ao,A7.of_below Ao⟩
   ·have Qa:¬ (C8 n:Int) < (U:Int):=(by omega);rw[Aa Gy] at J4;clear Gy;go_wp2_with fail
    go_region_held3 (fun V=>V.cell? ⟨r,1,none⟩=some (.int .i64 (C8 n:Int))) (go_keep)
     (first|(go_at_call 77;refine(Yn _ ((Af _ _).drew)).mono ?_;rintro e wA ⟨rfl,Dr⟩;have Ao:=Hi (show Bw wr wA from((Af _ wr).drew).trans Dr);clear Dr;have cA:wA.cell? ⟨r,1,none⟩=some (.int .i64 (C8 n:Int)):=(by rw[BA _ _ _ _ _ _ (HR.below (HB.trans (Ao.mono HB.size))).1];rfl)))
    all_goals
     have CL:=Hi (HB.trans (Ao.mono HB.size));have Fv:=HR.below CL.out;have Oe:=QT.below Ao.out;have d0:wA.cell? ⟨r,0,none⟩=some (.slice vq A.length vc):=cr Fv.1;have df:=CJ _ _ 0 _ _ Fv.1;have x0:wA.cell? ⟨w.heap.size,0,none⟩=some (.slice xq F.length xc):=cr Oe.1;have Hd:=Hi (Cc Fv.1 Oe.2);clear Fv c1 Oe;go_wp2_with fail;go_ret;rw[J4.out];refine⟨rfl,.slice xq F.length xc,?_,(A7.of_below (F:=fun k=>k=r) CL).setCell (p:=⟨r,0,none⟩) (.inl rfl) _⟩;refine⟨BU _ _ 0 _ _ _ Hd.1,Bh Hd.2 ((A7.refl (fun k=>k=r) wA).setCell (p:=⟨r,0,none⟩) (.inl rfl) _) (fun g hg e=>?_)⟩;rw[e] at hg;exact AA.ne (BQ Hd.2 hg) ⟨_,_,Hd.1⟩ (by decide) rfl
end Mem
namespace Man
open Go.RowKit Go.Maps Wal Fil
section
variable {B:Nat}{w0 w w':World}{b y n N:Nat}{A A':M}
def Oz(w w':World):Prop:=∀ (base:Nat) (v:Value) (l:List T),Bp w base v l→Bp w' base v l
theorem Oz.below(hb:Bw w w'):Oz w w':=fun _ _ _ h=>C9 h hb
theorem Oz.trans{w1 w2 w3:World}(h:Oz w1 w2)(k:Oz w2 w3):Oz w1 w3:=fun a v l r=>k a v l (h a v l r)
theorem Oz.upd{bl:Nat→Prop}(hu:A7 (Gt w bl) w w'):Oz w w':=fun _ _ _ h=>Bh h hu (fun _ hg e=>e.not (BQ h hg) (by decide))
end
end Man
namespace Man
open Go.RowKit Go.Maps Wal Fil
structure D9(B:Nat)(w0 W:World)(b y n N:Nat)(A:M)(L:List (Nat×Obj)):Prop where
 x:UR B w0 W b y n N A (fun k=>∃ o,(k,o)∈L)
 at_:∀ k o,(k,o)∈L→W.heap[k]?=some o
section
variable {B:Nat}{w0 w w':World}{b y n N:Nat}{A A':M}{L:List (Nat×Obj)}
theorem D9.of(h:MyF B w0 w b y n N A):D9 B w0 w b y n N A []:=by
 obtain⟨h1,h2,bl,h3,h4⟩:=h;exact⟨⟨h1,h2,fun k hk=>by obtain⟨o,ho⟩:=hk;simp at ho,bl,h3,fun k hk=>⟨h4 k hk,fun⟨o,ho⟩=>by simp at ho⟩⟩,fun k o h=>by simp at h⟩
theorem D9.Ay(h:D9 B w0 w b y n N A L):Below B w0 w:=h.x.1
theorem D9.step(h:D9 B w0 w b y n N A L)(hb:Bw w w'):D9 B w0 w' b y n N A L:=
 ⟨h.x.step hb,fun k o ho=>(hb.block k (CR.1 (h.at_ k o ho)).1).trans (h.at_ k o ho)⟩
theorem D9.new(h:D9 B w0 w b y n N A L)(o:Obj):D9 B w0 (w.alloc o) b y n N A ((w.heap.size,o) :: L):=by
 obtain⟨⟨h1,h2,hx,bl,h3,h4⟩,ha⟩:=h;have hb:=Aw w o;have hs:(w.alloc o).heap.size=w.heap.size+1:=Aq _ _;refine⟨⟨h1.trans (hb.mono h2),Ap h2 hb.size,fun k ⟨o',ho⟩=>?_,fun k=>bl k∧k < w.heap.size,h3.shrink.below hb,fun k hk=>⟨(h4 k hk.1).1,fun⟨o',ho⟩=>?_⟩⟩,fun k o' ho=>?_⟩
 ·rcases Bt.1 ho with e|e
  ·cases e;omega
  ·have:=hx k ⟨o',e⟩;omega
 ·rcases Bt.1 ho with e|e
  ·cases e;have:=hk.2;omega
  ·exact(h4 k hk.1).2 ⟨o',e⟩
 ·rcases Bt.1 ho with e|e
  ·cases e;exact AJ w o
  ·exact(hb.block k (CR.1 (ha k o' e)).1).trans (ha k o' e)
theorem D9.cell(h:D9 B w0 w b y n N A L){k:Nat}{cs:Array Value}{t:TypeId}(hm:(k,.cells cs t)∈L)(i:Nat):w.cell? ⟨k,i,none⟩=cs[i]? :=BA w k i cs t _ (h.at_ _ _ hm)
theorem D9.pick(h:D9 B w0 w b y n N A L):∃ bl,Rt w b y bl n N A∧(∀ k,bl k→k < w.heap.size)∧∀ {N':Nat} {A':M} {w':World},Goes w b y bl n N' A' w'→D9 B w0 w' b y n N' A' L∧Oz w w':=by
 obtain⟨⟨h1,h2,hx,bl,h3,h4⟩,ha⟩:=h;refine⟨_,h3.shrink,fun k hk=>hk.2,fun {N' A' w'} ⟨Bu,g1,g2,g3⟩=>?_⟩;obtain⟨k1,k2⟩:=UR.turn h1 h2 hx (fun k hk=>h4 k hk.1) g1 g2 g3;exact⟨⟨k1,fun k o ho=>(k2 k ⟨o,ho⟩).trans (ha k o ho)⟩,Oz.upd g2⟩
theorem dH(h:D9 B w0 w b y n N A L):Up A∧Fil.Good A∧used A≤C8 n:=by
 obtain⟨bl,h1,h3,h2⟩:=h.pick;exact⟨h1.up.1,h1.up.2.1,h1.up.2.2.1⟩
end
end Man
namespace Man
open Go.RowKit Go.Maps Wal Fil
theorem VI{w:World}{base:Nat}(hb:base≤w.heap.size)(l:List T)(hl:l.length≤1000)(cs:Array Value)(hc:cs=(strCells l).toArray){g n:Nat}(hg:w.heap.size=g)(hn:l.length=n):Bp (w.alloc (.cells cs 9)) base (.slice (some ⟨g,0,none⟩) n n) l:=by
 subst hc hg hn;have:=World.ownsRow_lit (base:=base) (e:=9) (size:=1) w (strCells l).toArray l.length hb (by unfold maxLen;omega) (by simp[strCells]);exact this
end Man
namespace Man
open Go.RowKit Go.Maps
abbrev T:=List UInt8
end Man
namespace Man
open Go.RowKit Go.Maps Wal Fil
theorem axk{l:List T}{x:T}{k:Nat}(hk:k < l.length)(h:∀ j,(hj:j < l.length)→j < k→l[j] < x)(hx:¬ l[k] < x):
  l.takeWhile (fun y=>decide (y < x))=l.take k∧l.dropWhile (fun y=>decide (y < x))=l.drop k:=by
 induction l generalizing k with
 |nil=>simp at hk
 |cons y l ih=>
  cases k with
  |zero=>
   have:¬ y < x:=hx;rw[List.takeWhile_cons_of_neg (by simpa using this),List.dropWhile_cons_of_neg (by simpa using this)];exact⟨rfl,rfl⟩
  |succ k=>
   have h0:y < x:=h 0 (by simp) (by omega);obtain⟨g1,g2⟩:=ih (k:=k) (by simpa using hk) (fun j hj Xb=>h (j+1) (by simpa using hj) (by omega)) hx;rw[List.takeWhile_cons_of_pos (by simpa using h0),List.dropWhile_cons_of_pos (by simpa using h0),g1,g2];exact⟨rfl,rfl⟩
theorem axj{l:List T}{x:T}(h:∀ j,(hj:j < l.length)→l[j] < x):l.takeWhile (fun y=>decide (y < x))=l∧l.dropWhile (fun y=>decide (y < x))=[]:=by
 induction l with
 |nil=>exact⟨rfl,rfl⟩
 |cons y l ih=>
  have h0:y < x:=h 0 (by simp);obtain⟨g1,g2⟩:=ih (fun j hj=>h (j+1) (by simpa using hj));rw[List.takeWhile_cons_of_pos (by simpa using h0),List.dropWhile_cons_of_pos (by simpa using h0),g1,g2];exact⟨rfl,rfl⟩
theorem alK{l:List T}{x:T}{k:Nat}(hk:k≤l.length)(h:∀ j,(hj:j < l.length)→j < k→l[j] < x)(hx:∀ hk:k < l.length,¬ l[k] < x):
  Jg l x=if(∃ hk:k < l.length,l[k]=x) then l else l.take k++[x]++l.drop k:=by
 unfold Jg;by_cases hlt:k < l.length
 ·obtain⟨g1,g2⟩:=axk hlt h (hx hlt);rw[g1,g2,List.head?_drop,Cn hlt];by_cases he:l[k]=x
  ·rw[Ab (by rw[he]),Ab ⟨hlt,he⟩,M4]
  ·rw[Aa (by simpa using he),Aa (fun⟨_,e⟩=>he e)];simp
 ·obtain rfl:k=l.length:=by omega
  obtain⟨g1,g2⟩:=axj (fun j hj=>h j hj hj);rw[g1,g2,Aa (by simp),Aa (fun⟨e,_⟩=>hlt e)];simp
def TI(q:Option Addr)(cap k:Nat):Option Addr:=if cap=k then q else q.map (·.add k)
theorem ayW(P:Program)(W:World)(t e:TypeId)(i:TypeInfo)(hu:P.underlying t=some (.slice e))(hi:P.info? e=some i)(q:Option Addr)(n cap k:Nat)(hk:k≤n)(hc:n≤cap):
  (Instr.slice t (.slice q n cap) none (some (.int .i64 (k:Int))) none).run P W=.ok (.slice q k cap) W:=by
 cases q<;>simp[Instr.slice,Gp hu,Instr.sliceBounds,sizeOf,typeInfo,hi,go_sem]<;>omega
theorem ayV(P:Program)(W:World)(t e:TypeId)(i:TypeInfo)(hu:P.underlying t=some (.slice e))(hi:P.info? e=some i)(hs:i.size=1)(q:Option Addr)(n cap k:Nat)(hk:k≤n):
  (Instr.slice t (.slice q n cap) (some (.int .i64 (k:Int))) none none).run P W=.ok (.slice (TI q cap k) (n -k) (cap -k)) W:=by
 cases q
 ·simp[Instr.slice,Gp hu,Instr.sliceBounds,sizeOf,typeInfo,hi,go_sem,TI];exact fun h=>absurd h (by omega)
 ·simp[Instr.slice,Gp hu,Instr.sliceBounds,sizeOf,typeInfo,hi,hs,go_sem,TI];exact fun h=>absurd h (by omega)
theorem anl{w:World}{q:Option Addr}{l:List T}(h:Cg w q l)(k:Nat):Cg w q (l.take k):=fun i hi=>by
 rw[AL] at hi;obtain⟨p,hp,hc⟩:=h i (by omega);exact⟨p,hp,by rw[hc,List.getElem_take]⟩
theorem anj{w:World}{q:Option Addr}{l:List T}(h:Cg w q l){cap k:Nat}(hk:k≤l.length)(hc:l.length≤cap):Cg w (TI q cap k) (l.drop k):=fun i hi=>by
 rw[Ce] at hi;obtain⟨p,hp,BH⟩:=h (k+i) (by omega);refine⟨p.add k,?_,?_⟩
 ·unfold TI;rw[Aa (by omega),hp];rfl
 ·rw[Addr.add_add,BH,List.getElem_drop]
theorem amm{w:World}{base TJ:Nat}{v:Value}{l:List T}(h:Bp w base v l)(hb:TJ≤base):Bp w TJ v l:=by
 refine⟨h.1,?_⟩;rcases h.2 with h2|⟨g,cap,cur,e0,GR,h3⟩
 ·exact .inl h2
 ·exact .inr ⟨g,cap,cur,e0,Ap hb GR,h3⟩
section
variable {w w':World}
theorem axu{base:Nat}{v:Value}{l:List T}(x:T)(h:Bp w base v l)(hb:base≤w.heap.size)(hl:l.length≤100000):
  Calls prog 210 #[v,.string (bs x)] w fun e w'=>∃ v',e=.returned v'∧Bp w' base v' (Jg l x)∧Bw w w':=by
 obtain⟨q,cap,rfl⟩:=Bg h;have Gj:=Ea h;have jB:l.length≤cap:=by
  rcases h.parts with⟨e,e2⟩|⟨_,cap',e,_,hc,_⟩
  ·rw[e2];exact AB _
  ·injection e with _ _ e;rw[e];exact hc
 have Gz:q=none→cap=0:=fun e=>by
  rcases h.parts with⟨e1,_⟩|⟨_,cap',e1,_⟩
  ·injection e1
  ·injection e1 with e1;rw[e1] at e;cases e
 obtain⟨i0,Ba,AQ,AU,AV⟩:=Du ad2;have Vx:∀ (W:World) (k:Nat),k≤l.length→(Instr.slice 27 (.slice q l.length cap) none (some (.int .i64 (k:Int))) none).run prog W=.ok (.slice q k cap) W:=fun W k hk=>ayW prog W _ 9 i0 underlying27 Ba q l.length cap k hk jB
 have Od:∀ (W:World) (k:Nat),k≤l.length→(Instr.slice 27 (.slice q l.length cap) (some (.int .i64 (k:Int))) none none).run prog W=.ok (.slice (TI q cap k) (l.length -k) (cap -k)) W:=fun W k hk=>ayV prog W _ 9 i0 underlying27 Ba AU q l.length cap k hk
 have HSF:=Hi Vx;have QO:=Hi Od;have HLC:=Hi jB;have ng:=Hi Gz;clear Vx Od jB Gz;have H:=Hi h;clear h;go_enter func210,ntmps210;go_wp2_with fail
 go_loop [5] (fun i=>∃ k:Nat,k≤l.length∧i=.int .i64 (k:Int)∧∀ j,(hj:j < l.length)→j < k→l[j] < x) (fun i=>l.length -(intOf i).toNat)
 case atStart=>exact⟨0,AB _,rfl,fun j _ e=>by omega⟩
 case round=>
  obtain⟨k,hk,rfl,AY⟩:=hrel;have Fy:=Hi AY;clear AY;by_cases hlt:k < l.length
  ·obtain⟨qk,Ef,CV⟩:=Gj.index cap k hlt;obtain⟨X,hX⟩:=ex (l[k]);rw[hX] at CV;have HX:=Hi hX;clear hX;by_cases qd:X < x
   ·have De:Op.bytesLess X x=true:=(by rw[Go.Proofs.bytesLess_eq];simpa using qd);go_wp2_with fail;refine⟨⟨k+1,by omega,by go_num,fun j hj Xb=>?_⟩,by simp[intOf];omega⟩;by_cases e:j=k
    ·subst e;rw[HX.out];exact qd
    ·exact Fy j hj (by omega)
   ·have De:Op.bytesLess X x=false:=(by rw[Go.Proofs.bytesLess_eq];simpa using qd);have di:=alK (l:=l) (x:=x) hk Fy (fun _=>by rw[HX.out];exact qd);by_cases qc:X=x
    ·have HP:=Hi (show Jg l x=l by rw[di,Ab ⟨hlt,by rw[HX.out,qc]⟩]);subst qc;clear di;go_wp2_with fail;go_ret;exact⟨_,rfl,by rw[HP.out];exact H.out,Af _ _⟩
    ·have HP:=Hi (show Jg l x=l.take k++[x]++l.drop k by rw[di,Aa (fun⟨_,e⟩=>qc (by rw[←HX.out,e]))]);have aBu:(X == x)=false:=(by simpa using qc);clear di;have Vx:=fun W=>HSF W k hk
     have Od:=fun W=>QO W k hk
     go_wp2_with (first
      |(at_builtin;refine uQ rfl _ _ rfl w.heap.size (.slice none 0 0) [] (l.take k) rfl (by unfold Bp;rw[JE];exact EI _ _ _ _) q cap (by rw[AL,H8 hk];rfl) (anl Gj k) ng (by rw[AL,Ig];omega) (Ac _) ?_;intro v1 w1 Dj Mk Vf;rw[Eu] at Dj;unfold Bp at Dj;rw[AL,H8 hk] at Dj;obtain⟨q1,UX,rfl⟩:=Bg Dj;have DN:=Hi Dj;have HB1:=Hi (((Af _ w).grown Mk (Ac _) (fun j e=>by cases e)));clear Dj Mk Vf)
      |(at_builtin;refine wpList_append_own_at _ rfl _ _ 27 rfl w.heap.size 9 i0 _ 1 16 underlying27 Ba AQ AU AV rfl (by decide) (.slice q1 k UX) k (strCells (l.take k)) rfl (DN.alloc _) ⟨w1.heap.size,0,none⟩ 1 1 [.string (bs x)] rfl rfl (cell_one_new _ _ _) (by simp[Value.oneCell']) (by unfold maxLen;omega) (by omega) (by rw[Aq];have:=HB1.size;omega) ?_;intro v2 w2 Dc DV _ Vg;obtain⟨g2,cap2,rfl⟩:=ownsRow_succ Dc;have Ou:=Hi Dc;have Ag:=Hi ((HB1.alloc HB1.size (.cells #[.string (bs x)] 9)).grown DV (by rw[Aq];have:=HB1.size;omega) (fun j hj=>DC DN hj));clear Dc DV Vg)
      |(at_builtin;refine uQ rfl _ _ rfl w.heap.size (.slice (some ⟨g2,0,none⟩) (k+1) cap2) (l.take k++[x]) (l.drop k) rfl (by unfold Bp;rw[Au,AL,H8 hk,Rl];exact Ou.out) (TI q cap k) (cap -k) (by rw[Ce];rfl) ((anj Gj hk HLC).below Ag) (fun e=>by have:=ng.out;unfold TI at e;split at e;omega;cases q with|none=>have:=this rfl;omega|some _=>cases e) (by rw[Au,AL,Ce,Kq];omega) Ag.size ?_;intro v3 w3 KV X9 j5;have NL:=Hi KV;have Am:=Hi (Ag.grown X9 Ag.size (fun j hj=>DC Ou hj));clear KV X9 j5))
     go_ret;exact⟨_,rfl,by rw[HP.out];exact amm NL hb,Am⟩
  ·have HP:=Hi (show Jg l x=l.take k++[x]++l.drop k by rw[alK (l:=l) (x:=x) hk Fy (fun e=>absurd e hlt),Aa (fun⟨e,_⟩=>hlt e)]);have Vx:=fun W=>HSF W k hk
   have Od:=fun W=>QO W k hk
   go_wp2_with (first
    |(at_builtin;refine uQ rfl _ _ rfl w.heap.size (.slice none 0 0) [] (l.take k) rfl (by unfold Bp;rw[JE];exact EI _ _ _ _) q cap (by rw[AL,H8 hk];rfl) (anl Gj k) ng (by rw[AL,Ig];omega) (Ac _) ?_;intro v1 w1 Dj Mk Vf;rw[Eu] at Dj;unfold Bp at Dj;rw[AL,H8 hk] at Dj;obtain⟨q1,UX,rfl⟩:=Bg Dj;have DN:=Hi Dj;have HB1:=Hi (((Af _ w).grown Mk (Ac _) (fun j e=>by cases e)));clear Dj Mk Vf)
    |(at_builtin;refine wpList_append_own_at _ rfl _ _ 27 rfl w.heap.size 9 i0 _ 1 16 underlying27 Ba AQ AU AV rfl (by decide) (.slice q1 k UX) k (strCells (l.take k)) rfl (DN.alloc _) ⟨w1.heap.size,0,none⟩ 1 1 [.string (bs x)] rfl rfl (cell_one_new _ _ _) (by simp[Value.oneCell']) (by unfold maxLen;omega) (by omega) (by rw[Aq];have:=HB1.size;omega) ?_;intro v2 w2 Dc DV _ Vg;obtain⟨g2,cap2,rfl⟩:=ownsRow_succ Dc;have Ou:=Hi Dc;have Ag:=Hi ((HB1.alloc HB1.size (.cells #[.string (bs x)] 9)).grown DV (by rw[Aq];have:=HB1.size;omega) (fun j hj=>DC DN hj));clear Dc DV Vg)
    |(at_builtin;refine uQ rfl _ _ rfl w.heap.size (.slice (some ⟨g2,0,none⟩) (k+1) cap2) (l.take k++[x]) (l.drop k) rfl (by unfold Bp;rw[Au,AL,H8 hk,Rl];exact Ou.out) (TI q cap k) (cap -k) (by rw[Ce];rfl) ((anj Gj hk HLC).below Ag) (fun e=>by have:=ng.out;unfold TI at e;split at e;omega;cases q with|none=>have:=this rfl;omega|some _=>cases e) (by rw[Au,AL,Ce,Kq];omega) Ag.size ?_;intro v3 w3 KV X9 j5;have NL:=Hi KV;have Am:=Hi (Ag.grown X9 Ag.size (fun j hj=>DC Ou hj));clear KV X9 j5))
   go_ret;exact⟨_,rfl,by rw[HP.out];exact amm NL hb,Am⟩
theorem axw(l:List T)(x:T):(Jg l x).length≤l.length+1:=by
 induction l with
 |nil=>simp[Jg]
 |cons y l ih=>
  rw[acr];split
  ·simpa using ih
  ·split<;>simp
theorem acC{q:Option Addr}{cap:Nat}{l:List T}(h:Cg w q l)(hl:l.length≤50000):
  Calls prog 166 #[.slice q l.length cap] w fun e w'=>∃ v',e=.returned v'∧Bp w' w.heap.size v' (acD l)∧Bw w w':=by
 have H:=Hi h;clear h;go_enter func166,ntmps166;go_wp2_with fail
 go_loopw [3,4] (fun ov i wr=>∃ (k:Nat) (o:List T),k≤l.length∧i=.int .i64 (k:Int)∧o=(l.take k).foldl Jg []∧o.length≤k∧Bp wr w.heap.size ov o∧Bw w wr) (fun _ i _=>l.length -(intOf i).toNat)
 case atStart=>exact⟨0,[],AB _,rfl,rfl,Ac _,by unfold Bp;rw[JE];exact EI _ _ _ _,Af _ _⟩
 case round=>
  obtain⟨k,o,hk,rfl,ho,Cb,Ah,hb⟩:=hrel;have HO:=Hi ho;have HR:=Hi Ah;have HB:=Hi hb;clear ho Ah hb;by_cases hlt:k < l.length
  ·obtain⟨qk,Ef,CV⟩:=(H.below HB).index cap k hlt;obtain⟨X,hX⟩:=ex (l[k]);rw[hX] at CV;have HX:=Hi hX;clear hX;go_wp2_with fail;refine(axu X HR HB.size (by omega)).mono ?_;rintro e w1⟨v1,rfl,Dj,Ad⟩;have DN:=Hi Dj;have HB1:=Hi (HB.trans (Ad.mono HB.size));clear Dj Ad;go_wp2_with fail;refine⟨⟨k+1,Jg o X,by omega,by go_num,?_,?_,DN,HB1⟩,by simp[intOf];omega⟩
   ·rw[Cw hlt,List.foldl_append,←HO.out,HX.out];rfl
   ·have:=axw o X;omega
  ·obtain rfl:k=l.length:=(by omega);go_wp2_with fail;go_ret;refine⟨_,rfl,?_,HB⟩;have e:=HO.out;rw[CY] at e;unfold acD;rw[←e];exact HR.out
end
end Man
end Go.Proofs.YtmbbhdebddbhoaaGreat
