/- MemP MemQ DepN -/
import Derived.Test.YtmbbhdebddbhoaaGreatR29
set_option maxHeartbeats 8000000
set_option maxRecDepth 100000
set_option linter.all false
namespace Go.Proofs.YtmbbhdebddbhoaaGreat
open Tryz
namespace Mem
open Go.RowKit Go.Maps
open Wal Fil Man Prs Kp Cm Hex Sha Al
section
variable {w w':World}{base m:Nat}{L:List (T×M)}{f:T→Nat}
theorem Dy.sO(h:Dy w base m L f){x:T×M}(hx:x∈L)(hn:x.1.length≤maxLen):
  (Instr.lookup 145 (.map (some m)) (.string (bs x.1)) true).run prog w=.ok (.tuple #[.pointer (some ⟨f x.1,0,none⟩),.bool true]) w:=by
 obtain⟨kv,h1,h2⟩:=h.map;rw[h2.Zu underlying9 underlying145 (oC w) x.1 hn,ZL (h1.map (·.1) |>.nodup_iff.2 h.VH) h1,(XK h.VH).2 (Bz.2 ⟨x,hx,rfl⟩)];rfl
theorem Dy.sP(h:Dy w base m L f){t:T}(hx:t∉L.map (·.1))(hn:t.length≤maxLen):
  (Instr.lookup 145 (.map (some m)) (.string (bs t)) true).run prog w=.ok (.tuple #[.pointer none,.bool false]) w:=by
 obtain⟨kv,h1,h2⟩:=h.map;have:Dh kv t=none:=by
  cases hs:Dh kv t with
  |none=>rfl
  |some v=>exact absurd ((Dy.keys h1).mem_iff.1 (Bz.2 ⟨_,lh hs,rfl⟩)) hx
 rw[h2.Zu underlying9 underlying145 (oC w) t hn,this];rfl
end
theorem axt(pb:Nat)(pr p:T×T)(W:World)(hk:W.heap[pb]?=some (.cells #[.string (bs pr.1),.string (bs pr.2)] 75)):
  Calls prog 70 #[.agg #[.string (bs p.1),.string (bs p.2)],.pointer (some ⟨pb,0,none⟩)] W fun e W'=>e=.returned (.bool (p.1 == pr.1))∧Bw W W':=by
 have hk1:W.cell? ⟨pb,0,none⟩=some (.string (bs pr.1)):=cr hk;have Kg:=BS hk1;go_enter func70,ntmps70;go_wp2_with fail;go_ret;exact⟨by simp,Aw W _⟩
theorem axs(pb:Nat)(pr:T×T):VW (fun W=>W.heap[pb]?=some (.cells #[.string (bs pr.1),.string (bs pr.2)] 75)) (.func (.func 70) #[] #[.pointer (some ⟨pb,0,none⟩)]) (fun p=>p.1 == pr.1):=
 ⟨_,_,_,rfl,enters_of func70 (by kernel_rfl) rfl,fun W p h=>axt pb pr p W h⟩
theorem pI(K:Kind)(l:M)(name:T):(Bv K l name).length≤l.length:=by
 induction l using Uo with
 |h0=>exact Ac _
 |h1 l p ih=>
  rw[Nf,Au,Kq];split
  ·rw[(ZF (v:=p.2) (Sb l name) p.1).length_eq,Br];have:(del p.1 (Bv K l name)).length≤(Bv K l name).length:=NB _ _;omega
  ·omega
theorem axG{w:World}{base b2 fb:Nat}{q:Option Addr}{c:Nat}{l:M}{pr:T×T}{pb:Nat}{ev:Array Value}(hr:Bo w b2 (.slice q l.length c) l)(A8:base≤b2)(_:w.heap[pb]?=some (.cells #[.string (bs pr.1),.string (bs pr.2)] 75))(he:w.heap[fb]?=some (.cells ev 152))
  (hq:q=none→c=0)(hc:l.length≤c)(Lx:base≤w.heap.size)(hl:l.length≤1000):
  Calls prog 71 #[.slice (some ⟨w.heap.size+1,0,none⟩) 2 2] ((w.alloc (.cells #[.string (bs pr.1),.string (bs pr.2)] 75)).alloc (.cells #[.slice q l.length c,.slice (some ⟨w.heap.size,0,none⟩) 1 1] 22)).drew fun e w'=>
   ∃ q' c',e=.returned (.slice q' (Kn [l,[pr]]).length c')∧Bo w' base (.slice q' (Kn [l,[pr]]).length c') (Kn [l,[pr]])∧Bw w w'∧w'.cell? ⟨fb,0,none⟩=w.cell? ⟨fb,0,none⟩∧w'.frozen? ⟨fb,0,none⟩=false:=by
 have BP:=Aw w (.cells #[.string (bs pr.1),.string (bs pr.2)] 75);have hsz:=Aq w (.cells #[.string (bs pr.1),.string (bs pr.2)] 75);have DI:=AJ w (.cells #[.string (bs pr.1),.string (bs pr.2)] 75);have GR:=Aw (w.alloc (.cells #[.string (bs pr.1),.string (bs pr.2)] 75)) (.cells #[.slice q l.length c,.slice (some ⟨w.heap.size,0,none⟩) 1 1] 22);have EP:=AJ (w.alloc (.cells #[.string (bs pr.1),.string (bs pr.2)] 75)) (.cells #[.slice q l.length c,.slice (some ⟨w.heap.size,0,none⟩) 1 1] 22);rw[hsz] at EP;have jG:=(GR.block _ (by rw[hsz];omega)).trans DI;have D7:=BP.trans (GR.mono BP.size);generalize (w.alloc (.cells #[.string (bs pr.1),.string (bs pr.2)] 75)).alloc (.cells #[.slice q l.length c,.slice (some ⟨w.heap.size,0,none⟩) 1 1] 22)=U at*;have WZ:Bw w U.drew:=D7.drew;have e1:U.drew.heap[w.heap.size]?=some (.cells #[.string (bs pr.1),.string (bs pr.2)] 75):=jG;have e2:U.drew.heap[w.heap.size+1]?=some (.cells #[.slice q l.length c,.slice (some ⟨w.heap.size,0,none⟩) 1 1] 22):=EP;have ab8:y9 U.drew (some ⟨w.heap.size+1,0,none⟩) [l,[pr]]:=by
  intro i hi;have Ja:i < 2:=hi;refine⟨_,rfl,?_⟩;rw[add_plain]
  match i,Ja with
  |0,_=>exact⟨q,c,cr e2,(AO.CG hr).below WZ,hq,hc⟩
  |1,_=>
   refine⟨some ⟨w.heap.size,0,none⟩,1,cr e2,?_,(fun e=>by cases e),Ac _⟩;intro j hj;obtain rfl:j=0:=(by simpa using hj);refine⟨_,rfl,?_,?_⟩
   ·rw[add_plain,BA _ _ _ _ _ _ e1];rfl
   ·rw[add_plain]
    show U.drew.cell? ⟨w.heap.size,0+0*2+1,none⟩=_
    rw[BA _ _ _ _ _ _ e1];rfl
 refine(al3 (cap:=2) ab8 (by simp;omega) (by simp)).mono ?_;rintro e w'⟨v,rfl,h1,h2,h3⟩;obtain⟨q',c',rfl,-,-⟩:=Es h1;have J9:=WZ.trans (h2.mono WZ.size);have he':=(J9.block fb (Ai he)).trans he;refine⟨q',c',rfl,⟨h1.1,?_⟩,J9,J9.cell (p:=⟨fb,0,none⟩) (Ai he),CJ w' fb 0 _ _ he'⟩;rcases h1.2 with h|⟨g,cap,cur,k1,k2,k3⟩
 ·exact .inl h
 ·refine .inr ⟨g,cap,cur,k1,?_,k3⟩;have:=h3 g (by rw[k1];rfl);have:=WZ.size;omega
theorem setRow_setRow(L:List (T×M))(name:T)(a b:M):setRow (setRow L name a) name b=setRow L name b:=by
 unfold setRow;rw[List.map_map];refine QB fun x _=>?_
 show(if(if x.1=name then(x.1,a) else x).1=name then((if x.1=name then(x.1,a) else x).1,b) else(if x.1=name then(x.1,a) else x))=_
 by_cases h:x.1=name
 ·simp[h]
 ·simp[h]
theorem as3(t:T)(l:M):OH [(t,l)]=Mh l:=by
 unfold OH CQ;simp[rowOf]
theorem Dy.avz{w w':World}{base m m2:Nat}{L:List (T×M)}{f:T→Nat}(h:Dy w base m L f){o:Obj}(hb:Bw w (w.alloc o))(hg:(w.alloc o).grownBy w' (some m2))(hm:m2=w.heap.size:=by rfl):Dy w' base m L f:=by
 subst hm;exact h.below (hb.grown hg (by rw[Aq];omega) (fun k e=>by rw[←G7 e];exact Ac _))
def PF(w:World)(base m:Nat)(k:Nat):Prop:=base≤k∧(k=m∨AA w k 152)
def Small(l:M):Prop:=l.length≤1000∧rowLen (flat l)≤1000000000
theorem awv{w:World}{base m mc pc p y:Nat}{A:M}{L:List (T×M)}{f:T→Nat}{lt:M}{pr:T×T}
  (hE:Dy w base m L f)(hS:Ec Ae lt L)(SB:w.heap[mc]?=some (.cells #[.map (some m)] 145))(Zb:w.heap[pc]?=some (.cells #[.pointer (some ⟨p,0,none⟩)] 36))
  (hm:Fb w p y)(hg:Man.ND w y A)(CO:∀ k,Fil.get A (Ae.nm k)=none)(Lx:base≤w.heap.size)(hk:pr.1.length≤1000000)(hl:lt.length≤1000)(Fg:∀ name,Small (Bv Ae (lt++[pr]) name))(OO:base≤m):
  Calls prog 65 #[.agg #[.string (bs pr.1),.string (bs pr.2)],.pointer (some ⟨mc,0,none⟩),.pointer (some ⟨pc,0,none⟩)] w fun e w'=>
   e=.returned (.int .i64 (if(BG (Bv Ae (lt++[pr]) (Ae.nm pr.1))).isSome=true then 0 else 5))∧∃ L' f',Dy w' base m L' f'∧Ec Ae (lt++[pr]) L'∧A7 (PF w base m) w w':=by
 have HE:=Hi hE;have HS:=Hi hS;have HM:=Hi hm;have HG:=Hi hg;have Eb:=Hi CO;have NR:=Hi Fg;have auZ:=Fg;have yM:w.cell? ⟨mc,0,none⟩=some (.map (some m)):=cr SB;have cpc:w.cell? ⟨pc,0,none⟩=some (.pointer (some ⟨p,0,none⟩)):=cr Zb;have ay:=Hi SB;have aC:=Hi Zb;have IC:=Hi (fun(W:World)=>sF pr.1 W hk);have Ee:(Ae.nm pr.1).length=17:=kI pr.1;have TB:=Hi (AJ w (.cells #[.string (bs pr.1),.string (bs pr.2)] 75));have Ao:=Hi (Aw w (.cells #[.string (bs pr.1),.string (bs pr.2)] 75));have Z7:=Ai SB;have dh:=Ai Zb;obtain⟨res,ab6⟩:∃ r:Int,(if(BG (Bv Ae (lt++[pr]) (Ae.nm pr.1))).isSome=true then 0 else 5)=r:=⟨_,rfl⟩;rw[ab6];have Ex:=Hi ab6;clear hE hS hm hg CO Fg SB Zb ab6;go_enter func65,ntmps65;go_wp2_with fail;refine(IC _).mono ?_;rintro e w1⟨rfl,Ad⟩;have Ud:Bw w w1:=Ao.trans (Ad.mono Ao.size);have ajy:=(Ad.block _ (Ai TB)).trans TB.out;have aB:=Hi ajy;have aft:w1.cell? ⟨mc,0,none⟩=some (.map (some m)):=(Ud.cell (p:=⟨mc,0,none⟩) Z7).trans yM;have aBe:w1.cell? ⟨pc,0,none⟩=some (.pointer (some ⟨p,0,none⟩)):=(Ud.cell (p:=⟨pc,0,none⟩) dh).trans cpc;have HB1:=Hi Ud;have FB:=Hi (HE.below Ud);obtain⟨pb,Qg⟩:=ex (w.heap.size);rw[Qg] at aB;clear Ad Ud ajy TB Ao yM cpc;have JS:=Hi (auZ (Ae.nm pr.1));by_cases Be:Ae.nm pr.1∈L.map (·.1)
 case' pos=>
  obtain⟨⟨t,l1⟩,hx,FH⟩:=Bz.1 Be;have FH:t=Ae.nm pr.1:=FH;subst FH;have KQ:=FB.sO hx (by rw[Ee];decide);have Qd:l1=Bv Ae lt (Ae.nm pr.1):=HS.rows _ hx;have Ey:=Hi (show Up l1 from by rw[Qd];exact Sb _ _);have NH:=Hi (show Bv Ae (lt++[pr]) (Ae.nm pr.1)=put pr.1 pr.2 l1 from by rw[Nf,Ab rfl,Qd])
  have Pv:=Hi (show Kp.Ec Ae (lt++[pr]) (setRow L (Ae.nm pr.1) (put pr.1 pr.2 l1)) from by
   rw[Qd];exact HS.more Be)
  obtain⟨w5,hw5⟩:∃ w5,w5=w1:=⟨_,rfl⟩;subst hw5;obtain⟨L1,Ng⟩:∃ L1,L1=L:=⟨_,rfl⟩;subst Ng;obtain⟨f1,U4⟩:∃ f1,f1=f:=⟨_,rfl⟩;subst U4;have Tp:=FB;have gJ:=aB;have Ww:=Hi (A7.of_below (F:=PF w base m) HB1);have Tx:=Hi hx
  have RF:=Hi (show PF w base m (f1 (Ae.nm pr.1))∨w.heap.size≤f1 (Ae.nm pr.1) from by
   obtain⟨v,h1,_,h2⟩:=HE.RU _ hx;exact .inl ⟨h2,.inr ⟨_,_,h1⟩⟩)
  have F7:l1.length≤1000:=by
   rw[Qd];exact Ap (pI _ _ _) hl
  obtain⟨v5,KJ,Ah,-⟩:=Tp.RU _ hx;obtain⟨q3,c3,rfl,LF,-⟩:=Es Ah;have c1:w5.cell? ⟨f1 (Ae.nm pr.1),0,none⟩=some (.slice q3 l1.length c3):=cr KJ;have Px:=Hi KJ;have XZ:=Hi (ZC (AO.CG Ah) LF (Ap F7 (by decide)));clear hx Be HS HE FB aB IC KJ Ah Qd;generalize Ae.nm pr.1=name at*;obtain⟨fb,OU⟩:=ex (f1 name);have Tq:=Hi OU;rw[OU] at KQ c1 Px RF;clear OU;go_wp2_with fail
 case' neg=>
  have KQ:=FB.sP Be (by rw[Ee];decide);have gG:=Hi Be;have Gr:=Hi (sG (HM.below HB1) (TQ HG HB1) (Ae.nm pr.1) (by rw[Ee];decide));unfold OB at Gr;have OX:fileOf Ae A (Ae.nm pr.1)=none:=by unfold fileOf;rw[Eb.out];rfl
  rw[Eb.out,OX] at Gr;simp only[Option.getD_none,Ig,Option.isSome_none] at Gr;obtain⟨l1,Qd⟩:∃ l1:M,l1=[]:=⟨_,rfl⟩;have F7:l1.length≤1000:=by rw[Qd];exact AB _
  have Ey:=Hi (show Up l1 from by rw[Qd];exact Up.nil)
  have NH:=Hi (show Bv Ae (lt++[pr]) (Ae.nm pr.1)=put pr.1 pr.2 l1 from by
   rw[Nf,Ab rfl,Qd,iH (fun e=>Be ((HS.names _).2 e))])
  have fF:=Hi (show Kp.Ec Ae (lt++[pr]) ((Ae.nm pr.1,put pr.1 pr.2 l1) :: L) from by
   rw[Qd];exact HS.new Be)
  have Si:L.length≤1000:=Ap (tF HS) hl;clear Be HS IC OX;generalize Ae.nm pr.1=name at*;go_wp2_with fail;refine Gr.mono ?_;rintro e w2⟨q3,c3,rfl,Ah,LF,A8⟩;have ajB:Value.slice q3 0 c3=.slice q3 l1.length c3:=by rw[Qd];rfl
  have SG:Bo w2 w1.heap.size (.slice q3 l1.length c3) l1:=by rw[Qd];exact Ah
  rw[ajB];have Ar:Bw w1 (w2.alloc (.cells #[.slice q3 l1.length c3] 152)):=A8.alloc A8.size _;have bH:=HB1.trans (Ar.mono HB1.size);have YQ:=AJ w2 (.cells #[.slice q3 l1.length c3] 152);have aj4:w.heap.size≤w2.heap.size:=Ap HB1.size A8.size;have Hl:Bo (w2.alloc (.cells #[.slice q3 l1.length c3] 152)) base (.slice q3 l1.length c3) l1:=E9 (C9 SG (Aw w2 _)) (Ap Lx HB1.size);have aBd:(w2.alloc (.cells #[.slice q3 l1.length c3] 152)).cell? ⟨mc,0,none⟩=some (.map (some m)):=(Ar.cell (p:=⟨mc,0,none⟩) (BS aft)).trans aft
  obtain⟨w5,ab9,bz,Ml⟩:=(FB.below Ar).insert (name:=name) (l:=l1) (b:=w2.heap.size) gG (by rw[Ee];decide) ⟨_,YQ,Hl,Ap Lx aj4⟩ (fun x hx e=>by
   obtain⟨v,h1,_⟩:=FB.RU x hx;have h2:=Ai h1;have h3:=A8.size;omega) (by unfold maxLen;omega)
  have FX:A7 (fun k=>k=m) (w2.alloc (.cells #[.slice q3 l1.length c3] 152)) w5:=A7.of_grownBy (F:=fun k=>k=m) Ml (fun k e=>(G7 e).symm)
  have aam:∀ {b:Nat} {cs:Array Value} {t:TypeId},(w2.alloc (.cells #[.slice q3 l1.length c3] 152)).heap[b]?=some (.cells cs t)→w5.heap[b]?=some (.cells cs t):=fun {b cs t} h=>(FX.block b (Ai h) (fun e=>by
   rw[e] at h;exact(FB.below Ar).Cv ⟨_,_,h⟩)).trans h
  have gJ:=Hi (aam ((Ar.block _ (Ai aB)).trans aB));have Px:=Hi (aam YQ);have Ww:=Hi ((A7.of_below (F:=PF w base m) bH).trans FX (fun i e=>.inl ⟨by rw[e];exact OO,.inl e⟩))
  have jR:=Bh Hl FX (fun j hj e=>by
   have h:=BQ Hl hj;rw[e] at h;exact(FB.below Ar).Cv h)
  have c1:w5.cell? ⟨w2.heap.size,0,none⟩=some (.slice q3 l1.length c3):=cr Px.out;have XZ:=Hi (ZC (AO.CG jR) LF (Ap F7 (by decide)))
  have Pv:=Hi (show Kp.Ec Ae (lt++[pr]) (setRow ((name,l1) :: L) name (put pr.1 pr.2 l1)) from by
   rw[amE gG.out];exact fF.out)
  have Tp:=Hi bz;have Tq:=Hi (show(fun t=>if t=name then w2.heap.size else f t) name=w2.heap.size from Ab rfl);generalize (fun t=>if t=name then w2.heap.size else f t)=f1 at*;obtain⟨L1,Ng⟩:=ex ((name,l1) :: L);have Tx:=Hi (show(name,l1)∈L1 from by rw[←Ng];simp);rw[Ng] at Tp Pv;have RF:=Hi (show PF w base m w2.heap.size∨w.heap.size≤w2.heap.size from .inr aj4);obtain⟨fb,OU⟩:=ex (w2.heap.size);rw[OU] at c1 Px Tq ab9 RF;clear A8 Ar bH YQ bz Ml FX aam Ah SG jR Hl Ng fF FB aB Gr Qd ajB HE KQ;go_wp2_with fail
 all_goals
  refine XZ.mono ?_;rintro e w6⟨v6,rfl,Jy,Cx⟩;obtain⟨q6,c6,rfl,jN,-⟩:=Es Jy;have ajz:=(Cx.block _ (Ai gJ)).trans gJ.out;have mU:=Hi ajz
  have RA:=Hi (acm Jy (axs pb pr) (fun W hW=>(hW.block _ (Ai mU) (fun e=>by
    have:=DC Jy e;have:=Ai gJ;omega)).trans mU) (Ap F7 (by decide)))
  have Lj:=Hi Jy;have Fz:=Hi Cx;clear Jy Cx ajz XZ;go_wp2_with fail;refine RA.mono ?_;rintro e w7⟨v7,rfl,Vu,VA,-⟩;have Ez:Bw w5 w7:=Ca Fz VA (fun i e=>DC Lj e) Fz.size
  have qY:=(VA.block _ (Ai mU) (fun e=>by
    have:=DC Lj e;have:=Ai gJ;omega)).trans mU.out
  obtain⟨q7,c7,rfl,hq7,bK⟩:=Es Vu;have U3:=(Ez.block _ (Ai Px)).trans Px.out;have c17:w7.cell? ⟨fb,0,none⟩=some (.slice q3 l1.length c3):=cr U3;have bN:=CJ w7 fb 0 _ _ U3;have Dt:=(Tp.below Ez).set Tx (E9 Vu (Ap Lx (Ww.size)));rw[Tq.out] at Dt;have ak2:=Ww.trans (A7.of_below (F:=PF w base m) Ez) (fun _ f=>.inl f);have LM:=ak2.setCell (p:=⟨fb,0,none⟩) RF (.slice q7 (l1.filter fun p=>!(p.1 == pr.1)).length c7);have abp:=(A7.refl (fun k=>k=fb) w7).setCell (p:=⟨fb,0,none⟩) (.inl rfl) (.slice q7 (l1.filter fun p=>!(p.1 == pr.1)).length c7);have Ki:∀ k,k=fb→¬ AA w7 k 75:=fun k e hb=>by
   obtain⟨cs,fr,hb⟩:=hb;rw[e,U3] at hb;injection hb with hb
   injection hb with _ hb
   exact absurd hb (by decide)
  have cZ:=(abp.block pb (Ai qY) (fun e=>Ki _ e ⟨_,_,qY⟩)).trans qY;have Ua:=Bh Vu abp (fun k hk e=>Ki k e (BQ Vu hk));have X7:=BU w7 fb 0 _ _ (.slice q7 (l1.filter fun p=>!(p.1 == pr.1)).length c7) U3;obtain⟨l8,KO⟩:∃ l8,l1.filter (fun p=>!(p.1 == pr.1))=l8:=⟨_,rfl⟩;rw[KO] at Dt LM cZ Ua X7 bK;have Wn:=Hi (show Kn [l8,[pr]]=put pr.1 pr.2 l1 from by rw[←KO];exact al5 Ey pr);rw[KO];have aur:l8.length≤1000:=by rw[←KO];exact Ap (NB _ _) F7
  clear KO ak2 abp Ki Vu VA Ez qY;go_wp2_with fail;have afA:(w7.setCell ⟨fb,0,none⟩ (.slice q7 l8.length c7)).cell? ⟨pb,0,none⟩=some (.string (bs pr.1)):=cr cZ;have afB:(w7.setCell ⟨fb,0,none⟩ (.slice q7 l8.length c7)).cell? ⟨pb,1,none⟩=some (.string (bs pr.2)):=cr cZ;have yH:(w7.setCell ⟨fb,0,none⟩ (.slice q7 l8.length c7)).cell? ⟨fb,0,none⟩=some (.slice q7 l8.length c7):=cr X7;obtain⟨w8,hw8⟩:=ex (w7.setCell ⟨fb,0,none⟩ (.slice q7 l8.length c7));rw[hw8] at Dt LM cZ Ua X7 afA afB yH ⊢;clear hw8 c17 bN U3;have wM:=Hi (axG (base:=base) (fb:=fb) Ua (Ap Lx Ww.size) cZ X7 hq7 bK (by have:=Ww.size;have:=LM.size;omega) aur);rw[Wn.out] at wM;have aqu:(w8.alloc (.cells #[.string (bs pr.1),.string (bs pr.2)] 75)).cell? ⟨fb,0,none⟩=some (.slice q7 l8.length c7):=((Aw w8 _).cell (p:=⟨fb,0,none⟩) (Ai X7)).trans yH;refine ZT ?_
  go_region_law
   (first
    |(go_simp;go_at_call 71;refine wM.mono ?_;rintro e w9 ⟨q9,c9,rfl,P8,Ff,c19,bO⟩;go_wp2_with fail))
  all_goals
   dsimp only[XD];have ail:=(Ff.block _ (Ai X7)).trans X7;have aiS:(name,l8)∈setRow L1 name l8:=Bz.2 ⟨_,Tx,Ab rfl⟩;have jT:=(Dt.below Ff).set aiS P8;rw[Tq.out,setRow_setRow] at jT;have hu9:=(LM.trans (A7.of_below (F:=PF w base m) Ff) (fun _ f=>.inl f)).setCell (p:=⟨fb,0,none⟩) RF (.slice q9 (put pr.1 pr.2 l1).length c9);have aik:=BU w9 fb 0 _ _ (.slice q9 (put pr.1 pr.2 l1).length c9) ail;have aiR:(name,put pr.1 pr.2 l1)∈setRow L1 name (put pr.1 pr.2 l1):=Bz.2 ⟨_,Tx,Ab rfl⟩;have qZ:=jT.RU _ aiR;rw[Tq.out] at qZ;obtain⟨IW,jY⟩:=ex (w9.setCell ⟨fb,0,none⟩ (.slice q9 (put pr.1 pr.2 l1).length c9));rw[jY] at jT hu9 aik qZ ⊢;have HPE:=Hi qZ;have nA:=Hi jT;have aK:=Hi hu9;clear jY P8 Ff c19 bO ail aiS hu9 aiR qZ jT Dt LM cZ Ua X7 afA afB yH aqu wM aik;have KR:=@run_makeMap prog;have WX:base≤IW.heap.size:=Ap Lx aK.size;have qi:=Aw IW (.map #[] 0);obtain⟨VR,aCi,ahk,aay⟩:=(Dy.made IW base (fun _=>fb) WX).insert (name:=name) (l:=put pr.1 pr.2 l1) (b:=fb) (by simp) (by rw[Ee];decide) (HPE.below qi) (fun x hx=>by simp at hx) (by unfold maxLen;decide);have abo:A7 (PF w base m) IW VR:=(A7.of_below (F:=PF w base m) qi).trans (A7.of_grownBy (F:=fun k=>k=IW.heap.size) aay (fun k e=>(G7 e).symm)) (fun i e=>.inr (by rw[e];exact Ac _));have aCn:=abo.size
   have J2:=Hi (ac4 ahk (fun x hx=>by
    obtain rfl:x=(name,put pr.1 pr.2 l1):=(by simpa using hx);have hs:=NR name;rw[NH.out] at hs;exact⟨Cr.Qt (Ey.put _ _),Ap hs.1 (by decide),hs.2⟩) (fun x hx=>by
    obtain rfl:x=(name,put pr.1 pr.2 l1):=by simpa using hx
    show name.length≤1000
    rw[Ee];decide) (by simp))
   have hne:put pr.1 pr.2 l1≠[]:=List.ne_nil_of_mem ((SV Ey).2 (.inl rfl));have OX:OH [(name,put pr.1 pr.2 l1)]=(BG (put pr.1 pr.2 l1)).isSome:=(by rw[as3];unfold Mh;simp[hne]);unfold Yt at J2;rw[OX] at J2;have gT:=Hi (aK.trans abo (fun _ f=>.inl f));have aeE:=Hi (show Dy VR base m (setRow L1 name (put pr.1 pr.2 l1)) f1 from nA.avz qi aay);have nu:=Hi (show(if(BG (put pr.1 pr.2 l1)).isSome=true then(0:Int) else 5)=res from by rw[←NH.out];exact Ex.out);clear Ex;clear qi ahk aay abo hne OX HPE nA aK;generalize (K7 [(name,put pr.1 pr.2 l1)])=chs at*;cases Dv:(BG (put pr.1 pr.2 l1)).isSome with
   |true=>
    have hr0:res=0:=(by rw[←nu.out,Ab Dv]);subst hr0;clear nu;simp only[Dv,if_true] at J2;go_wp2_with fail;refine J2.mono ?_;rintro e uM⟨q12,c12,rfl,-,QW⟩;have fw:=Hi QW;clear QW;go_wp2_with fail;go_ret;exact⟨rfl,_,f1,aeE.below fw,Pv,gT.trans (A7.of_below (F:=PF w base m) fw) (fun _ f=>.inl f)⟩
   |false=>
    have Mx:res=5:=(by rw[←nu.out,Aa (by rw[Dv];simp)]);subst Mx;clear nu;simp only[Dv,Bool.false_eq_true,if_false] at J2;go_wp2_with fail;refine J2.mono ?_;rintro e uM⟨rfl,QW⟩;have fw:=Hi QW;clear QW;go_wp2_with fail;go_ret;exact⟨rfl,_,f1,aeE.below fw,Pv,gT.trans (A7.of_below (F:=PF w base m) fw) (fun _ f=>.inl f)⟩
def xY(w:World)(p:Nat)(l:M)(i:Value)(wr:World):Prop:=
 ∃ (k:Nat) (L:List (T×M)) (f:T→Nat),k≤l.length∧i=.int .i64 (k:Int)∧Dy wr w.heap.size (w.heap.size+1) L f∧Kp.Ec Ae (l.take k) L∧Bw w wr∧Fits Ae (l.take k)∧
  wr.heap[w.heap.size]?=some (.cells #[.pointer (some ⟨p,0,none⟩)] 36)∧wr.heap[w.heap.size+1+1]?=some (.cells #[.map (some (w.heap.size+1))] 145)
theorem als{wr w':World}{base m:Nat}{L:List (T×M)}{f:T→Nat}(h:Dy wr base m L f)(hu:A7 (PF wr base m) wr w'){b:Nat}{cs:Array Value}{t:TypeId}(hb:wr.heap[b]?=some (.cells cs t))(ht:t≠152):w'.heap[b]?=some (.cells cs t):=
 (hu.block b (Ai hb) (fun hf=>by
  rcases hf.2 with e|⟨c2,f2,e⟩
  ·rw[e] at hb;exact h.Cv ⟨_,_,hb⟩
  ·rw[hb] at e;injection e with e
   injection e with _ e
   exact ht e)).trans hb
theorem aww{w:World}{p y:Nat}{A:M}{q:Option Addr}{cap:Nat}{l:M}{Q:Int→World→Prop}(hm:Fb w p y)(hg:Man.ND w y A)(CO:∀ k,Fil.get A (Ae.nm k)=none)(hk:AO w q l)(hl:l.length≤1000)(Db:∀ x∈l,x.1.length≤1000000)(Fg:∀ j name,Small (Bv Ae (l.take j) name))
  (hf:∀ W,Bw w W→Calls prog 140 #[.pointer (some ⟨y,0,none⟩)] W fun e w'=>e=.returned (.int .i64 0)∧W=w')
  (h5:¬ Fits Ae l→∀ w',Bw w w'→Q 5 w')
  (hc:Fits Ae l→∀ W q c,Bw w W→DW W q (ET Ae l)→Calls prog 32 #[.pointer (some ⟨y,0,none⟩),.slice q (ET Ae l).length c] W fun e w'=>∃ c,e=.returned (.int .i64 c)∧Q c w'):
  Calls prog 28 #[.pointer (some ⟨p,0,none⟩),.slice q l.length cap] w fun e w'=>∃ c,e=.returned (.int .i64 c)∧Q c w':=by
 have HF:=Hi hf;have H5:=Hi h5;have HC:=Hi hc;have HM:=Hi hm;have HG:=Hi hg;have HK:=Hi hk;have Eb:=Hi CO;have Ih:=Hi Db;have NR:=Hi Fg;have dh:=hm.lt;clear hf h5 hc hm hg hk CO Db Fg;go_enter func28,ntmps28;go_wp2_with fail;have Bq:=Aw w (.cells #[.pointer (some ⟨p,0,none⟩)] 36);refine(akY (P:=fun W w'=>W=w') (HM.below Bq) (HF _ Bq)).mono ?_;rintro e w1⟨rfl,FY⟩;subst FY;have KR:=@run_makeMap prog;go_wp2_with fail;have LK:=Aq w (.cells #[.pointer (some ⟨p,0,none⟩)] 36);have Mt:=AJ w (.cells #[.pointer (some ⟨p,0,none⟩)] 36);have Z8:=Dy.made (w.alloc (.cells #[.pointer (some ⟨p,0,none⟩)] 36)) w.heap.size (fun _=>0) Bq.size;have Ad:=Bq.alloc Bq.size (.map #[] 0);have DI:=((Aw (w.alloc (.cells #[.pointer (some ⟨p,0,none⟩)] 36)) (.map #[] 0)).block _ (Ai Mt)).trans Mt;rw[LK] at Z8;have SH:=Aq (w.alloc (.cells #[.pointer (some ⟨p,0,none⟩)] 36)) (.map #[] 0);rw[LK] at SH;generalize (w.alloc (.cells #[.pointer (some ⟨p,0,none⟩)] 36)).alloc (.map #[] 0)=V1 at*;have EP:=AJ V1 (.cells #[.map (some (w.heap.size+1))] 145);have qj:=Aw V1 (.cells #[.map (some (w.heap.size+1))] 145);rw[SH] at EP
 have JO:=Hi (show xY w p l (.int .i64 0) (V1.alloc (.cells #[.map (some (w.heap.size+1))] 145)) from
  ⟨0,[],_,AB _,rfl,Z8.below qj,by rw[GZ];exact Ec.nil,Ad.trans (qj.mono Ad.size),by rw[GZ];exact fun j hj=>by simp at hj,(qj.block _ (Ai DI)).trans DI,EP⟩)
 generalize V1.alloc (.cells #[.map (some (w.heap.size+1))] 145)=V2 at*;clear Bq Ad Mt DI Z8 LK SH EP qj
 go_loopw [22] (fun i wr=>xY w p l i wr) (fun i _=>l.length -(intOf i).toNat)
 case atStart=>exact JO.out
 case round=>
  obtain⟨k,L,f,hk,rfl,he,Gh,hb,BO,Zb,SB⟩:=hrel;have HE:=Hi he;have Wp:=Hi Gh;have HB:=Hi hb;have Ky:=Hi BO;have aC:=Hi Zb;have ay:=Hi SB;clear he Gh hb BO Zb SB JO;by_cases hlt:k < l.length
  ·obtain⟨a,Cu,ha,-⟩:=(HK.below HB).index cap k hlt;have c0:=ha.key;have c1:=ha.val;have hkx:=Ih _ (Ci hlt);have BN:=Hi (Cw hlt)
   have Py:=Hi (show Fits Ae l→(BG (Bv Ae (l.take k++[l[k]]) (Ae.nm l[k].1))).isSome=true from fun h=>by
    have:=h k hlt;rwa[Cw hlt] at this)
   generalize l[k]=x at*;have BP:=Aw wr (.cells #[.string (bs x.1),.string (bs x.2)] 75);have D7:=HB.trans (BP.mono HB.size);have aaW:=(BP.block _ (Ai aC)).trans aC.out;have aaH:=(BP.block _ (Ai ay)).trans ay.out;have ap6:=Hi aaW;have aoQ:=Hi aaH;have CL:=Hi D7;have MR:=Hi (HE.below BP);have HP:=Hi (awv (pr:=x) MR Wp aaH aaW (HM.below D7) (TQ HG D7) Eb D7.size hkx (by rw[AL];omega) (fun name=>by rw[←BN.out];exact NR (k+1) name) (Nat.le_succ _));clear BP D7 aaW aaH ha aC ay HE;have KJ:∀ args w,(callFunc 65 args).run prog w=.ok (.enter 65 args) w:=enters_of func65 (by kernel_rfl) rfl;have Tv:=Hi (@Fits.kP Ae (l.take k) x);generalize Jt:(BG (Bv Ae (l.take k++[x]) (Ae.nm x.1))).isSome=cc at*;cases cc with
   |true=>
    simp only[if_true] at HP;go_wp2_with fail;refine HP.mono ?_;rintro e w3⟨rfl,L',f',qE,ry,CP⟩;have CU:=Hi (show xY w p l (.int .i64 ((k:Int)+1)) w3 from⟨k+1,L',f',by omega,by go_num,qE,by rw[BN.out];exact ry,Ca CL CP (fun i hi=>hi.1) CL.size,by rw[BN.out];exact Tv.2 ⟨Ky,by trivial⟩,als MR CP ap6 (by decide),als MR CP aoQ (by decide)⟩);clear qE ry CP;go_wp2_with fail;go_roundw
    case rel=>exact CU.out
    case measure=>
     show l.length -((k:Int)+1).toNat < l.length -((k:Int)).toNat
     omega
   |false=>
    simp only[Bool.false_eq_true,if_false] at HP;have UH:=Hi (show ¬ Fits Ae l from fun h=>by have:=Py h;cases this);go_wp2_with fail;refine HP.mono ?_;rintro e w3⟨rfl,L',f',qE,ry,CP⟩;have HQ:=Hi (H5 UH w3 (Ca CL CP (fun i hi=>hi.1) CL.size));clear qE ry CP;go_wp2_with fail;go_ret;exact⟨5,rfl,HQ⟩
  ·obtain rfl:k=l.length:=(by omega);have aiv:Fits Ae l:=(by have:=Ky.out;rwa[CY] at this);have Gh:=Wp.out;rw[CY] at Gh;have yM:wr.cell? ⟨w.heap.size+1+1,0,none⟩=some (.map (some (w.heap.size+1))):=cr ay.out;have Si:L.length≤100000:=Ap (tF Gh) (by omega)
   have J2:=Hi (ac4 HE (fun z hz=>by
    have h1:=NR l.length z.1;rw[CY] at h1;rw[Gh.rows z hz];exact⟨Cr.Qt (Sb _ _),Ap h1.1 (by decide),h1.2⟩) (fun z hz=>by
    obtain⟨r,_,hr⟩:=Bz.1 ((Gh.names z.1).1 (Gm hz));rw[←hr,kI];decide) Si)
   unfold Yt at J2;have e1:=Gh.ib;have e2:=Gh.fits aiv;simp only[Ab e2,e1] at J2;clear Gh e1 e2;go_wp2_with fail;refine J2.mono ?_;rintro e w8⟨q8,c8,rfl,Ua,II⟩;have NF:=Hi (HB.trans (II.mono HB.size));have Fa:=Hi (HC aiv w8 q8 c8 NF (DW.CG Ua));have aC7:=(HM.below NF).cell;have aCb:w8.cell? ⟨w.heap.size,0,none⟩=some (.pointer (some ⟨p,0,none⟩)):=by
    have h:=(II.block _ (Ai aC)).trans aC.out;rw[BA _ _ _ _ _ _ h];rfl
   generalize (ET Ae l).length=dn at*;clear Ua II;go_wp2_with fail;refine Fa.mono ?_;rintro e w9⟨cc,rfl,Vt⟩;go_wp2_with fail;go_ret;exact⟨cc,rfl,Vt⟩
end Mem
namespace Dep
open Go.RowKit Go.Maps Go.Shelf
open Wal Fil Man Prs Kp Cm Hex Sha Al Mem
attribute [local go_sem] Om
attribute [local go_sem ↓] nS
theorem ZM:strCells []=[]:=by unfold strCells;rfl
theorem ang{W:World}{B n:Nat}{v:Value}{cs:List Value}{k:List T}(h:W.ownsRow B 9 1 v n cs){q:Option Addr}{cap:Nat}(hk:Cg W q k)(hq:q=none→cap=0)(hn:n+k.length≤1000000000)(hb:B≤W.heap.size):
  ∃ v' w2,(Yy #[27,27] 27 #[v,.slice q k.length cap]).run prog W=.ok v' w2∧w2.ownsRow B 9 1 v' (n+k.length) (cs++strCells k)∧W.grownBy w2 v.ownBlock:=by
 obtain⟨i0,Ba,AQ,AU,AV⟩:=Du Ta;cases q with
 |none=>
  obtain rfl:k=[]:=by
   cases k with
   |nil=>rfl
   |cons y k=>
    obtain⟨p,hp,_⟩:=hk 0 (by simp);cases hp
  rw[hq rfl];refine⟨v,W,run_append_owned_none (P:=prog) (w:=W) B 27 27 9 i0 1 underlying27 Ba v n cs h,?_,World.grownBy.refl W _⟩;rw[ZM,EH];exact h
 |some ad=>
  obtain⟨v',w2,h1,h2,h3,_,_⟩:=run_append_own_at (P:=prog) W B 27 27 9 i0 _ 1 16 underlying27 Ba AQ AU AV rfl (by decide) v n cs h ad k.length cap (strCells k) (by rw[strCells_length,Nat.mul_one]) (fun j u hj=>by
   have Ju:j < k.length:=by
    have:=(Uw.1 hj).1;rwa[strCells_length] at this
   rw[XL k j Ju] at hj;obtain⟨p,hp,hc⟩:=hk j Ju;cases hp;rw[hc,←hj]) (ad1 _) (by unfold maxLen;omega) (by omega) hb
  exact⟨v',w2,h1,h2,h3⟩
def GH(K:Kind)(A:M)(ks:List T):List T:=ks.flatMap fun t=>Dx ((fileOf K A t).getD [])
theorem amw(K:Kind)(A:M)(ks:List T)(t:T):GH K A (ks++[t])=GH K A ks++Dx ((fileOf K A t).getD []):=by
 unfold GH;rw[NA];simp
theorem abN(l:M):(Dx l).length≤l.length:=by
 unfold Dx;have:=Un (l.map (·.1));rwa[Cf] at this
theorem amx{K:Kind}(A:M)(ks:List T):(GH K A ks).length≤(Jh K A ks).length:=by
 induction ks using Uo with
 |h0=>exact Ac _
 |h1 ks t ih=>
  rw[amw,kY,Au,Au];have:=abN ((fileOf K A t).getD []);omega
theorem ayw{K:Kind}{A:M}(hu:Up A):AX (GH K A (JB K A))=Bj K A:=by
 unfold Bj Dx;rw[←tY hu];refine Qw (Iq _) (Iq _) fun t=>?_
 rw[Eg,Eg,Bz];unfold GH Jh;rw[MM];constructor
 ·rintro⟨n,hn,h⟩;unfold Dx at h;rw[Eg,Bz] at h;obtain⟨p,hp,e⟩:=h;exact⟨p,MM.2 ⟨n,hn,hp⟩,e⟩
 ·rintro⟨p,hp,e⟩;obtain⟨n,hn,hp⟩:=MM.1 hp;exact⟨n,hn,by unfold Dx;rw[Eg,Bz];exact⟨p,hp,e⟩⟩
def JT(K:Kind)(A:M)(w:World)(oc B:Nat)(ks:List T)(W:World):Prop:=
 ∃ v,Fe 9 27 1 w oc B W (GH K A ks).length (strCells (GH K A ks)) v∧(ks=[]→v=.slice none 0 0)
theorem abJ(K:Kind)(A:M)(w:World)(oc:Nat):Yr w oc (JT K A w oc) where
 below:=fun B ks W W' ⟨v,h1,h2⟩ hb=>⟨v,h1.below hb,h2⟩
 raise:=fun B B' W ⟨v,h1,h2⟩ hb hs=>by
  have e:=h2 rfl;subst e;have e2:GH K A []=[]:=rfl;rw[e2,ZM] at h1;exact⟨_,by rw[e2,ZM];exact Fe.raise h1 hb hs,fun _=>rfl⟩
 put:=fun B ks W k o o' ⟨v,h1,h2⟩ ho hc hk=>⟨v,h1.put ho hc hk,h2⟩
theorem ag4{w:World}{q:Option Addr}{cap:Nat}{l:M}(h:AO w q l)(hq:q=none→cap=0)(hl:l.length≤1000000):
  Calls prog 41 #[.slice q l.length cap] w fun e w'=>∃ v,e=.returned v∧Man.Bp w' w.heap.size v (Dx l)∧Bw w w':=by
 have HK:=Hi (dL h hq hl);clear h hq;go_enter func41,ntmps41;go_wp2_with fail;refine HK.mono ?_;rintro e w1⟨v,rfl,hr,hb⟩;have HR:=Hi hr;have HB:=Hi hb;obtain⟨q,c,rfl⟩:=Bg hr;clear hr hb;go_wp2_with fail;go_ret;exact⟨_,rfl,HR,HB⟩
theorem ayx{w W V:World}{Bx p:Nat}{A:M}{pre:List J6}{x:J6}{qv:Option Addr}{cv:Nat}(hO:Fe 9 27 1 w w.heap.size x.B W (GH A9 A (pre.map (·.name))).length (strCells (GH A9 A (pre.map (·.name)))) (.slice qv (GH A9 A (pre.map (·.name))).length cv))
  (hS:MO w w.heap.size Bx x.B (.pointer (some ⟨p,0,none⟩)) 37 x.q x.c (A.map (·.1)) W)(hG:∀ z∈pre,z.B=x.B∧z.q=x.q∧z.c=x.c)(hT:∃ ts,pre.map (·.name)++x.name :: ts=JB A9 A)(hV:Bw W V){kq:Option Addr}{kc:Nat}{kr:List T}
  (Ch:Man.Bp V W.heap.size (.slice kq kr.length kc) kr)(hlen:(GH A9 A (pre.map (·.name))).length+kr.length≤1000000)(R3:kr=Dx ((fileOf A9 A x.name).getD []):=by rfl):
  ∃ q7 c7 w7,(Yy #[27,27] 27 #[.slice qv (GH A9 A (pre.map (·.name))).length cv,.slice kq kr.length kc]).run prog V=.ok (.slice q7 ((GH A9 A (pre.map (·.name))).length+kr.length) c7) w7∧
   V.cell? ⟨w.heap.size,0,none⟩=some (.slice qv (GH A9 A (pre.map (·.name))).length cv)∧w7.cell? ⟨w.heap.size,0,none⟩=some (.slice qv (GH A9 A (pre.map (·.name))).length cv)∧w7.frozen? ⟨w.heap.size,0,none⟩=false∧
   Rq w w.heap.size Bx (.pointer (some ⟨p,0,none⟩)) 37 A9 A (JT A9 A w w.heap.size) (pre++[x]) (w7.setCell ⟨w.heap.size,0,none⟩ (.slice q7 ((GH A9 A (pre.map (·.name))).length+kr.length) c7))∧
   KeepsOthers W (w7.setCell ⟨w.heap.size,0,none⟩ (.slice q7 ((GH A9 A (pre.map (·.name))).length+kr.length) c7)):=by
 have PZ:=hO.below hV;have bW:kq=none→kc=0:=fun e=>by
  rcases Ch.2 with⟨e1,_⟩|⟨g,cap,cur,e1,_⟩
  ·injection e1
  ·rw[e] at e1;injection e1 with e1;cases e1
 obtain⟨v7,w7,U9,Oa,IK⟩:=ang (W:=V) PZ.row (Ea Ch) bW (by omega) PZ.size;obtain⟨q7,c7,rfl⟩:=Bg Oa;have Q7:=(IK.block w.heap.size (Ai PZ.box) (fun e=>(PZ.ne e.symm).1 rfl)).trans PZ.box;have qh:=hO.add hV IK Oa;refine⟨q7,c7,w7,U9,cr PZ.box,cr Q7,CJ w7 w.heap.size 0 _ _ Q7,?_,hO.keeps hV IK _⟩;refine yn hS hG hT (hO.turned hV IK _) ⟨.slice q7 ((GH A9 A (pre.map (·.name))).length+kr.length) c7,?_,fun e=>by simp at e⟩;rw[amw,Au,←R3,show strCells (GH A9 A (pre.map (·.name))++kr)=strCells (GH A9 A (pre.map (·.name)))++strCells kr by unfold strCells;rw[CF]];exact qh
theorem ag5{w:World}{p y:Nat}{A:M}(hm:GM w p y)(hf:Lf w y A)(hl:(Ed A9 A).length≤1000000):
  Calls prog 10 #[.pointer (some ⟨p,0,none⟩)] w fun e w'=>∃ v,e=.returned v∧Man.Bp w' w.heap.size v (Bj A9 A)∧Bw w w':=by
 refine(Di (n:=3)).1 ?_;have P6:prog.follows .mixedOrders=true:=by kernel_rfl
 have HM:=Hi hm;have HF:=Hi hf;have HE:=Hi (tY (K:=A9) hf.up);have HL:=Hi hl;clear hm hf hl;refine callsIn_of_wp_marks func10 rfl trivial ?_ rfl;simp only[ntmps10,JG,Br,Ig,Nat.reduceAdd,Nat.reduceSub,LX,LY,M3,LZ,Eu,GI]
 gi_wp2
 have Bq:=Aw w (.cells #[.slice none 0 0] 27);have Mv:Fe 9 27 1 w w.heap.size (w.heap.size+1) (w.alloc (.cells #[.slice none 0 0] 27)) 0 [] (.slice none 0 0):=⟨Bq,Ac _,Nat.lt_succ_self _,by rw[Aq];exact Ac _,AJ w _,EI _ _ _ _⟩;have Wo:=Hi Mv;refine⟨trivial,(Di.2 (afL p _)).mono ?_⟩;rintro e w2⟨rfl,Ns⟩;subst Ns
 gi_wp2
 have Hu:=Hi (AJ (w.alloc (.cells #[.slice none 0 0] 27)) (.cells #[.pointer (some ⟨p,0,none⟩)] 37));have A8:=Aw (w.alloc (.cells #[.slice none 0 0] 27)) (.cells #[.pointer (some ⟨p,0,none⟩)] 37);have DN:=Hi (Wo.below A8);have EZ:=Hi (Aq w (.cells #[.slice none 0 0] 27));obtain⟨Bx,K8⟩:=ex ((w.alloc (.cells #[.slice none 0 0] 27)).heap.size);rw[K8] at Hu EZ;rw[show w.heap.size+1=Bx from EZ.symm];obtain⟨U,hU⟩:=ex ((w.alloc (.cells #[.slice none 0 0] 27)).alloc (.cells #[.pointer (some ⟨p,0,none⟩)] 37));rw[hU] at Hu DN ⊢;clear Bq A8 Mv Wo K8 hU;refine adu (s:=4) (by omega) (gf:=111) (lb:=#[.pointer (some ⟨Bx,0,none⟩)]) rfl (enters_of func111 (by kernel_rfl) rfl) (e1:=fun x:J6=>.string (bs x.name)) (e2:=fun x:J6=>x.row)
  (Ia:=Rq w w.heap.size Bx (.pointer (some ⟨p,0,none⟩)) 37 A9 A (JT A9 A w w.heap.size)) (Iy:=VU w w.heap.size Bx (.pointer (some ⟨p,0,none⟩)) 37 A9 A (JT A9 A w w.heap.size))
  (fun xs=>yj (abJ _ _ _ _) DN.Ay.size xs) (fun xs x=>ym (abJ _ _ _ _) DN.Ay.size xs x)
  (afK 2 (by omega) HM HF w.heap.size Bx (abJ _ _ _ _) U) (.inl ⟨rfl,DN.Ay,Ac _,by have:=EZ.out;omega,Hu,w.heap.size+1,DN.size,.slice none 0 0,by rw[show GH A9 A []=[] from rfl,ZM];exact DN.out,fun _=>rfl⟩)
  ?assign ?body ?done
 case assign=>
  intro l x W K hK;simp only[np] at hK ⊢
  gi_wp2
  exact hK
 case body=>
  intro l2 pre x W hy;obtain⟨hS,hG,hT,⟨v,hO,-⟩,⟨q2,c2,Hm,hP,CV,-⟩⟩:=hy;have hlen:(GH A9 A (pre.map (·.name))).length+(Dx ((fileOf A9 A x.name).getD [])).length≤1000000:=by
   obtain⟨ts,Km⟩:=hT;have h1:=amo (K:=A9) (A:=A) (ks:=pre.map (·.name)++[x.name]) (ts:=ts);rw[Dp,List.singleton_append,Km,HE.out,kY,Au] at h1;have h2:=amx (K:=A9) A (pre.map (·.name));have h3:=abN ((fileOf A9 A x.name).getD []);have:=HL.out;omega
  have Gx:=(V7 (K:=A9) (A:=A) (name:=x.name)).1;have Jm:=Hi (fun(V:World) (hV:Bw W V)=>ag4 (w:=V) (hP.below hV) CV (by omega));obtain⟨qv,cv,rfl⟩:=Bg hO.row;have cb:W.cell? ⟨w.heap.size,0,none⟩=some (.slice qv (GH A9 A (pre.map (·.name))).length cv):=cr hO.box;have ai4:=Ai hO.box;have HO:=Hi hO;have HS:=Hi hS;have HG:=Hi hG;have HT:=Hi hT;simp only[np];rw[Hm];clear hP CV Hm
  gi_wp2
  have cbd:W.drew.cell? ⟨w.heap.size,0,none⟩=some (.slice qv (GH A9 A (pre.map (·.name))).length cv):=cb;have uY:=Hi (fun(V:World) (hV:Bw W V) (kq:Option Addr) (kc:Nat) (Ch:Man.Bp V W.heap.size (.slice kq (Dx ((fileOf A9 A x.name).getD [])).length kc) (Dx ((fileOf A9 A x.name).getD [])))=>ayx hO hS hG hT hV Ch hlen)
  gi_region_with_o (refine⟨trivial,(CallsIn.inRound l2 ((Di (n:=0)).2 (Jm _ (by first|exact Af _ _|exact(Af _ _).drew)))).mono ?_⟩;rintro e w4 ⟨kv,rfl,Ch,Ar⟩;obtain⟨kq,kc,rfl⟩:=Bg Ch;have Ar:Bw W w4:=(by first|exact Ar|exact((Af _ W).drew).trans (Ar.mono (Ac _)));obtain⟨q7,c7,w7,U9,LA,bK,bN,Gg,aiZ⟩:=uY w4 Ar kq kc Ch;have EL:=Hi Gg;have gu:=Hi aiZ;clear Gg aiZ Ch Ar;gi_wp2)
  all_goals
   exact⟨gu,EL⟩
 case done=>
  intro D xs W hD hS hI FM;obtain⟨B,v,hO,-⟩:=yl hI;rw[hS] at hO;obtain⟨q,c,rfl⟩:=Bg hO.row;have QN:=Hi (ayw (K:=A9) HF.up);have hRl:(GH A9 A (JB A9 A)).length≤1000000:=by
   have:=amx (K:=A9) A (JB A9 A);rw[HE.out] at this;exact Ap this HL.out
  have Ex:=Hi (za (w:=W) (base:=B) hO.row hRl);have HO:=Hi hO;have UB:=Hi FM;have HD:=Hi (show w.heap.size≤D from Ap (Ap (Nat.le_succ _) DN.size) hD);generalize GH A9 A (JB A9 A)=R at*;have cb:W.cell? ⟨w.heap.size,0,none⟩=some (.slice q R.length c):=cr hO.box;clear hS hI FM hD hO
  gi_wp2
  refine⟨trivial,(Di.2 Ex).mono ?_⟩;rintro e w5⟨rv,rfl,ED,Bf⟩;obtain⟨rq,rc,rfl⟩:=Bg ED;have Sk:=(Bf.block _ (Ai HO.box)).trans HO.box;have c5:w5.cell? ⟨w.heap.size,0,none⟩=some (.slice q R.length c):=cr Sk;have hf5:=CJ w5 w.heap.size 0 _ _ Sk;have Sv:=(Bf.block D (CR.1 UB).1).trans UB.out;have IQ:=(A7.refl (fun k=>k=w.heap.size) w5).setCell (p:=⟨w.heap.size,0,none⟩) (.inl rfl) (.slice rq (AX R).length rc);have jd:=BU w5 w.heap.size 0 _ _ (.slice rq (AX R).length rc) Sk
  have Jl:=Hi ((IQ.block D (CR.1 Sv).1 (fun e=>by
   rw[e,Sk] at Sv;cases Sv)).trans Sv)
  have hoc:=HO.lt
  have Jy:=Bh (E9 ED HO.Ay.size) IQ (fun k hk e=>by
   have h1:=DC ED hk;have h2:=Ai HO.box;omega)
  have Fz:=Hi ((HO.Ay.trans (Bf.mono HO.Ay.size)).setCell (p:=⟨w.heap.size,0,none⟩) (Ac _) (.slice rq (AX R).length rc));have Lj:=Hi Jy
  have fC:=Hi (show((w5.setCell ⟨w.heap.size,0,none⟩ (.slice rq (AX R).length rc)).putObj D (.deferred none)).cell? ⟨w.heap.size,0,none⟩=some (.slice rq (AX R).length rc) from by
   rw[BA _ _ _ _ _ _ (Um jd Jl rfl)];rfl)
  clear ED Bf Sk Sv IQ jd Jy
  gi_wp2
  refine⟨by simp,.inl ⟨_,_,rfl,run_takeDeferred Jl,?_⟩⟩;have hu:A7 (fun i=>i=D) (w5.setCell ⟨w.heap.size,0,none⟩ (.slice rq (AX R).length rc)) ((w5.setCell ⟨w.heap.size,0,none⟩ (.slice rq (AX R).length rc)).putObj D (.deferred none)):=A7.of_grownBy (F:=fun i=>i=D) (grownBy_putObj' _ D (.deferred none)) (fun i e=>by cases e;rfl);refine⟨_,(by simp[results,results10,go_sem,fC.out]),.slice rq (AX R).length rc,rfl,?_,Ca Fz hu (fun i e=>by rw[e];exact HD.out) Fz.size⟩;rw[←QN.out]
  exact Bh Lj hu (fun k hk e=>by
   obtain⟨cs,fz,h2⟩:=BQ Lj hk;rw[e,Jl.out] at h2;cases h2)
end Dep
end Go.Proofs.YtmbbhdebddbhoaaGreat
