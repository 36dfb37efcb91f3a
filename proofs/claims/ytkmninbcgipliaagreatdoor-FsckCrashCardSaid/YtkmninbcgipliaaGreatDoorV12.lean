/- MemP MemQ DepN BrW TkI TkS LinW LaySp RUnh LinR FckDoor BadW DepC DepE -/
import Derived.Test.YtkmninbcgipliaaGreatDoorV11
import Derived.Shelf.Strings.Split
import Derived.Test.YtkmninbcgipliaaGreatDoorRows
import Derived.LaidMore
import Derived.OpenShut
import Derived.Lay
import Derived.Stop.Joined
import Derived.HandedShaped
import Derived.Shelf.Vars
set_option maxHeartbeats 8000000
set_option maxRecDepth 100000
set_option linter.all false
namespace Go.Proofs.YtkmninbcgipliaaGreatDoor
open Go.Proofs.Tryz
open Go.RowKit
namespace Mem
open Go.Maps
open Av Ag Ar Bt Kp BI Hex BH Al
section
variable {w w':World}{base m:Nat}{L:List (T×M)}{f:T→Nat}
theorem EW.uK(h:EW w base m L f){x:T×M}(hx:x∈L)(hn:x.1.length≤maxLen):
  (Instr.lookup 175 (.map (some m)) (.string (bs x.1)) true).run prog w=.ok (.tuple #[.pointer (some ⟨f x.1,0,none⟩),.bool true]) w:=by
 obtain⟨kv,h1,h2⟩:=h.map;rw[h2.aB underlying9 underlying175 (zS w) x.1 hn,aQ (h1.map (·.1) |>.nodup_iff.2 h.WI) h1,(Yz h.WI).2 (Bz.2 ⟨x,hx,rfl⟩)];rfl
theorem EW.uL(h:EW w base m L f){t:T}(hx:t∉L.map (·.1))(hn:t.length≤maxLen):
  (Instr.lookup 175 (.map (some m)) (.string (bs t)) true).run prog w=.ok (.tuple #[.pointer none,.bool false]) w:=by
 obtain⟨kv,h1,h2⟩:=h.map;have:DU kv t=none:=by
  cases hs:DU kv t with
  |none=>rfl
  |some v=>exact absurd ((EW.keys h1).mem_iff.1 (Bz.2 ⟨_,vK hs,rfl⟩)) hx
 rw[h2.aB underlying9 underlying175 (zS w) t hn,this];rfl
end
theorem azb(pb:Nat)(pr p:T×T)(W:World)(hk:W.heap[pb]?=some (.cells #[.string (bs pr.1),.string (bs pr.2)] 51)):
  Calls prog 96 #[.agg #[.string (bs p.1),.string (bs p.2)],.pointer (some ⟨pb,0,none⟩)] W fun e W'=>e=.returned (.bool (p.1 == pr.1))∧Bw W W':=by
 have F4:W.cell? ⟨pb,0,none⟩=some (.string (bs pr.1)):=cr hk;have RO:=Cr F4
 go_in
 go_wp2;go_ret;exact⟨by simp,AU W _⟩
theorem aza(pb:Nat)(pr:T×T):gY (fun W=>W.heap[pb]?=some (.cells #[.string (bs pr.1),.string (bs pr.2)] 51)) (.func (.func 96) #[] #[.pointer (some ⟨pb,0,none⟩)]) (fun p=>p.1 == pr.1):=
 ⟨_,_,_,rfl,enters_of func96 (by kernel_rfl) rfl,fun W p h=>azb pb pr p W h⟩
theorem qP(K:Kind)(l:M)(name:T):(BM K l name).length≤l.length:=by
 induction l using Vi with
 |h0=>exact Ae _
 |h1 l p ih=>
  rw[NK,AA,Le];split
  ·rw[(aK (v:=p.2) (Tg l name) p.1).length_eq,BG];have:(del p.1 (BM K l name)).length≤(BM K l name).length:=M8 _ _;omega
  ·omega
theorem azo{w:World}{base b2 fb:Nat}{q:Option Addr}{c:Nat}{l:M}{pr:T×T}{pb:Nat}{ev:Array Value}(hr:BJ w b2 (.slice q l.length c) l)(Ac:base≤b2)(_:w.heap[pb]?=some (.cells #[.string (bs pr.1),.string (bs pr.2)] 51))(he:w.heap[fb]?=some (.cells ev 179))
  (hq:q=none→c=0)(hc:l.length≤c)(Mq:base≤w.heap.size)(hl:l.length≤1000):
  Calls prog 97 #[.slice (some ⟨w.heap.size+1,0,none⟩) 2 2] ((w.alloc (.cells #[.string (bs pr.1),.string (bs pr.2)] 51)).alloc (.cells #[.slice q l.length c,.slice (some ⟨w.heap.size,0,none⟩) 1 1] 30)).drew fun e w'=>
   ∃ q' c',e=.returned (.slice q' (L6 [l,[pr]]).length c')∧BJ w' base (.slice q' (L6 [l,[pr]]).length c') (L6 [l,[pr]])∧Bw w w'∧w'.cell? ⟨fb,0,none⟩=w.cell? ⟨fb,0,none⟩∧w'.frozen? ⟨fb,0,none⟩=false:=by
 have Ce:=AU w (.cells #[.string (bs pr.1),.string (bs pr.2)] 51);have BQ:=Ay w (.cells #[.string (bs pr.1),.string (bs pr.2)] 51);have FU:=AQ w (.cells #[.string (bs pr.1),.string (bs pr.2)] 51);have I5:=AU (w.alloc (.cells #[.string (bs pr.1),.string (bs pr.2)] 51)) (.cells #[.slice q l.length c,.slice (some ⟨w.heap.size,0,none⟩) 1 1] 30);have GM:=AQ (w.alloc (.cells #[.string (bs pr.1),.string (bs pr.2)] 51)) (.cells #[.slice q l.length c,.slice (some ⟨w.heap.size,0,none⟩) 1 1] 30);rw[BQ] at GM;have aw3:=(I5.block _ (by rw[BQ];omega)).trans FU;have Dk:=Ce.trans (I5.mono Ce.size);generalize (w.alloc (.cells #[.string (bs pr.1),.string (bs pr.2)] 51)).alloc (.cells #[.slice q l.length c,.slice (some ⟨w.heap.size,0,none⟩) 1 1] 30)=U at*;have dM:Bw w U.drew:=Dk.drew;have e1:U.drew.heap[w.heap.size]?=some (.cells #[.string (bs pr.1),.string (bs pr.2)] 51):=aw3;have e2:U.drew.heap[w.heap.size+1]?=some (.cells #[.slice q l.length c,.slice (some ⟨w.heap.size,0,none⟩) 1 1] 30):=GM;have abO:yS U.drew (some ⟨w.heap.size+1,0,none⟩) [l,[pr]]:=by
  intro i hi;have JG:i < 2:=hi;refine⟨_,rfl,?_⟩;rw[add_plain]
  match i,JG with
  |0,_=>exact⟨q,c,cr e2,(Bf.CX hr).below dM,hq,hc⟩
  |1,_=>
   refine⟨some ⟨w.heap.size,0,none⟩,1,cr e2,?_,(fun e=>by cases e),Ae _⟩;intro j hj;obtain rfl:j=0:=(by simpa using hj);refine⟨_,rfl,?_,?_⟩
   ·rw[add_plain,BL _ _ _ _ _ _ e1];rfl
   ·rw[add_plain]
    show U.drew.cell? ⟨w.heap.size,0+0*2+1,none⟩=_
    rw[BL _ _ _ _ _ _ e1];rfl
 refine(alN (cap:=2) abO (by simp;omega) (by simp)).mono ?_;rintro e w'⟨v,rfl,h1,h2,h3⟩;obtain⟨q',c',rfl,-,-⟩:=FH h1;have JE:=dM.trans (h2.mono dM.size);have he':=(JE.block fb (Ao he)).trans he;refine⟨q',c',rfl,⟨h1.1,?_⟩,JE,JE.cell (p:=⟨fb,0,none⟩) (Ao he),Dt w' fb 0 _ _ he'⟩;rcases h1.2 with h|⟨g,cap,cur,k1,k2,k3⟩
 ·exact .inl h
 ·refine .inr ⟨g,cap,cur,k1,?_,k3⟩;have:=h3 g (by rw[k1];rfl);have:=dM.size;omega
theorem setRow_setRow(L:List (T×M))(name:T)(a b:M):setRow (setRow L name a) name b=setRow L name b:=by
 unfold setRow;rw[Kq];refine P8 fun x _=>?_
 show(if(if x.1=name then(x.1,a) else x).1=name then((if x.1=name then(x.1,a) else x).1,b) else(if x.1=name then(x.1,a) else x))=_
 by_cases h:x.1=name
 ·simp[h]
 ·simp[h]
theorem at5(t:T)(l:M):PG [(t,l)]=N8 l:=by
 unfold PG Df;simp[rowOf]
theorem EW.ax9{w w':World}{base m m2:Nat}{L:List (T×M)}{f:T→Nat}(h:EW w base m L f){o:Obj}(hb:Bw w (w.alloc o))(hg:(w.alloc o).grownBy w' (some m2))(hm:m2=w.heap.size:=by rfl):EW w' base m L f:=by
 subst hm;exact h.below (hb.grown hg (by rw[Ay];omega) (fun k e=>by rw[←GQ e];exact Ae _))
def PF(w:World)(base m:Nat)(k:Nat):Prop:=base≤k∧(k=m∨Bb w k 179)
def Small(l:M):Prop:=l.length≤1000∧rowLen (flat l)≤1000000000
theorem ayb{w:World}{base m mc pc p y:Nat}{A:M}{L:List (T×M)}{f:T→Nat}{lt:M}{pr:T×T}
  (hE:EW w base m L f)(hS:Kp.EF Ah lt L)(UX:w.heap[mc]?=some (.cells #[.map (some m)] 175))(ZP:w.heap[pc]?=some (.cells #[.pointer (some ⟨p,0,none⟩)] 43))
  (hm:Gi w p y)(hg:Ar.Pb w y A)(D9:∀ k,Ag.get A (Ah.nm k)=none)(Mq:base≤w.heap.size)(hk:pr.1.length≤1000000)(hl:lt.length≤1000)(FL:∀ name,Small (BM Ah (lt++[pr]) name))(Wj:base≤m):
  Calls prog 93 #[.agg #[.string (bs pr.1),.string (bs pr.2)],.pointer (some ⟨mc,0,none⟩),.pointer (some ⟨pc,0,none⟩)] w fun e w'=>
   e=.returned (.int .i64 (if(BV (BM Ah (lt++[pr]) (Ah.nm pr.1))).isSome=true then 0 else 5))∧∃ L' f',EW w' base m L' f'∧Kp.EF Ah (lt++[pr]) L'∧A7 (PF w base m) w w':=by
 have HE:=Hi hE;have HS:=Hi hS;have HM:=Hi hm;have HG:=Hi hg;have DW:=Hi D9;have Oq:=Hi FL;have awm:=FL;have zz:w.cell? ⟨mc,0,none⟩=some (.map (some m)):=cr UX;have cpc:w.cell? ⟨pc,0,none⟩=some (.pointer (some ⟨p,0,none⟩)):=cr ZP;have iR:=Hi UX;have bK:=Hi ZP;have Ju:=Hi (fun(W:World)=>uA pr.1 W hk);have EI:(Ah.nm pr.1).length=17:=acE pr.1;have Uh:=Hi (AQ w (.cells #[.string (bs pr.1),.string (bs pr.2)] 51));have Aq:=Hi (AU w (.cells #[.string (bs pr.1),.string (bs pr.2)] 51));have eF:=Ao UX;have kY:=Ao ZP;obtain⟨res,abN⟩:∃ r:Int,(if(BV (BM Ah (lt++[pr]) (Ah.nm pr.1))).isSome=true then 0 else 5)=r:=⟨_,rfl⟩;rw[abN];have EZ:=Hi abN;clear hE hS hm hg D9 FL UX ZP abN
 go_in
 go_wp2_with fail;refine(Ju _).mono ?_;rintro e w1⟨rfl,Aj⟩;have lG:Bw w w1:=Aq.trans (Aj.mono Aq.size);have aka:=(Aj.block _ (Ao Uh)).trans Uh.out;have bJ:=Hi aka;have ag9:w1.cell? ⟨mc,0,none⟩=some (.map (some m)):=(lG.cell (p:=⟨mc,0,none⟩) eF).trans zz;have aDv:w1.cell? ⟨pc,0,none⟩=some (.pointer (some ⟨p,0,none⟩)):=(lG.cell (p:=⟨pc,0,none⟩) kY).trans cpc;have HB1:=Hi lG;have Jd:=Hi (HE.below lG);obtain⟨pb,QR⟩:=ex (w.heap.size);rw[QR] at bJ;clear Aj lG aka Uh Aq zz cpc;have KI:=Hi (awm (Ah.nm pr.1));by_cases D6:Ah.nm pr.1∈L.map (·.1)
 case' pos=>
  obtain⟨⟨t,l1⟩,hx,Ho⟩:=Bz.1 D6;have Ho:t=Ah.nm pr.1:=Ho;subst Ho;have NU:=Jd.uK hx (by rw[EI];decide);have QO:l1=BM Ah lt (Ah.nm pr.1):=HS.rows _ hx;have EM:=Hi (show Up l1 from by rw[QO];exact Tg _ _);have MO:=Hi (show BM Ah (lt++[pr]) (Ah.nm pr.1)=put pr.1 pr.2 l1 from by rw[NK,Ad rfl,QO])
  have Vu:=Hi (show Kp.EF Ah (lt++[pr]) (setRow L (Ah.nm pr.1) (put pr.1 pr.2 l1)) from by
   rw[QO];exact HS.more D6)
  obtain⟨w5,hw5⟩:∃ w5,w5=w1:=⟨_,rfl⟩;subst hw5;obtain⟨L1,jM⟩:∃ L1,L1=L:=⟨_,rfl⟩;subst jM;obtain⟨f1,XT⟩:∃ f1,f1=f:=⟨_,rfl⟩;subst XT;have nV:=Jd;have iX:=bJ;have Xe:=Hi (A7.of_below (F:=PF w base m) HB1);have Ue:=Hi hx
  have SK:=Hi (show PF w base m (f1 (Ah.nm pr.1))∨w.heap.size≤f1 (Ah.nm pr.1) from by
   obtain⟨v,h1,_,h2⟩:=HE.Xv _ hx;exact .inl ⟨h2,.inr ⟨_,_,h1⟩⟩)
  have Gm:l1.length≤1000:=by
   rw[QO];exact Aw (qP _ _ _) hl
  obtain⟨v5,NQ,Af,-⟩:=nV.Xv _ hx;obtain⟨q3,c3,rfl,TD,-⟩:=FH Af;have c1:w5.cell? ⟨f1 (Ah.nm pr.1),0,none⟩=some (.slice q3 l1.length c3):=cr NQ;have bz:=Hi NQ;have xy:=Hi (mh (Bf.CX Af) TD (Aw Gm (by decide)));clear hx D6 HS HE Jd bJ Ju NQ Af QO;generalize Ah.nm pr.1=name at*;obtain⟨fb,kF⟩:=ex (f1 name);have iF:=Hi kF;rw[kF] at NU c1 bz SK;clear kF;go_wp2_with fail
 case' neg=>
  have NU:=Jd.uL D6 (by rw[EI];decide);have HNI:=Hi D6;have FT:=Hi (acF (HM.below HB1) (XB HG HB1) (Ah.nm pr.1) (by rw[EI];decide));unfold Qx at FT;have PU:fileOf Ah A (Ah.nm pr.1)=none:=by unfold fileOf;rw[DW.out];rfl
  rw[DW.out,PU] at FT;simp only[Option.getD_none,Ht,Option.isSome_none] at FT;obtain⟨l1,QO⟩:∃ l1:M,l1=[]:=⟨_,rfl⟩;have Gm:l1.length≤1000:=by rw[QO];exact AV _
  have EM:=Hi (show Up l1 from by rw[QO];exact Up.nil)
  have MO:=Hi (show BM Ah (lt++[pr]) (Ah.nm pr.1)=put pr.1 pr.2 l1 from by
   rw[NK,Ad rfl,QO,jD (fun e=>D6 ((HS.names _).2 e))])
  have aep:=Hi (show Kp.EF Ah (lt++[pr]) ((Ah.nm pr.1,put pr.1 pr.2 l1) :: L) from by
   rw[QO];exact HS.new D6)
  have XF:L.length≤1000:=Aw (uV HS) hl;clear D6 HS Ju PU;generalize Ah.nm pr.1=name at*;go_wp2_with fail;refine FT.mono ?_;rintro e w2⟨q3,c3,rfl,Af,TD,Ac⟩;have akd:Value.slice q3 0 c3=.slice q3 l1.length c3:=by rw[QO];rfl
  have TE:BJ w2 w1.heap.size (.slice q3 l1.length c3) l1:=by rw[QO];exact Af
  rw[akd];have AB:Bw w1 (w2.alloc (.cells #[.slice q3 l1.length c3] 179)):=Ac.alloc Ac.size _;have aiB:=HB1.trans (AB.mono HB1.size);have ab0:=AQ w2 (.cells #[.slice q3 l1.length c3] 179);have ajH:w.heap.size≤w2.heap.size:=Aw HB1.size Ac.size;have I8:BJ (w2.alloc (.cells #[.slice q3 l1.length c3] 179)) base (.slice q3 l1.length c3) l1:=EA (Cg TE (AU w2 _)) (Aw Mq HB1.size);have aDu:(w2.alloc (.cells #[.slice q3 l1.length c3] 179)).cell? ⟨mc,0,none⟩=some (.map (some m)):=(AB.cell (p:=⟨mc,0,none⟩) (Cr ag9)).trans ag9
  obtain⟨w5,awh,hE5,PW⟩:=(Jd.below AB).insert (name:=name) (l:=l1) (b:=w2.heap.size) HNI (by rw[EI];decide) ⟨_,ab0,I8,Aw Mq ajH⟩ (fun x hx e=>by
   obtain⟨v,h1,_⟩:=Jd.Xv x hx;have h2:=Ao h1;have h3:=Ac.size;omega) (by unfold maxLen;omega)
  have LW:A7 (fun k=>k=m) (w2.alloc (.cells #[.slice q3 l1.length c3] 179)) w5:=A7.of_grownBy (F:=fun k=>k=m) PW (fun k e=>(GQ e).symm)
  have aaS:∀ {b:Nat} {cs:Array Value} {t:TypeId},(w2.alloc (.cells #[.slice q3 l1.length c3] 179)).heap[b]?=some (.cells cs t)→w5.heap[b]?=some (.cells cs t):=fun {b cs t} h=>(LW.block b (Ao h) (fun e=>by
   rw[e] at h;exact(Jd.below AB).Dl ⟨_,_,h⟩)).trans h
  have iX:=Hi (aaS ((AB.block _ (Ao bJ)).trans bJ));have bz:=Hi (aaS ab0);have Xe:=Hi ((A7.of_below (F:=PF w base m) aiB).trans LW (fun i e=>.inl ⟨by rw[e];exact Wj,.inl e⟩))
  have akk:=Bv I8 LW (fun j hj e=>by
   have h:=Cn I8 hj;rw[e] at h;exact(Jd.below AB).Dl h)
  have c1:w5.cell? ⟨w2.heap.size,0,none⟩=some (.slice q3 l1.length c3):=cr bz.out;have xy:=Hi (mh (Bf.CX akk) TD (Aw Gm (by decide)))
  have Vu:=Hi (show Kp.EF Ah (lt++[pr]) (setRow ((name,l1) :: L) name (put pr.1 pr.2 l1)) from by
   rw[aAB HNI.out];exact aep.out)
  have nV:=Hi hE5;have iF:=Hi (show(fun t=>if t=name then w2.heap.size else f t) name=w2.heap.size from Ad rfl);generalize (fun t=>if t=name then w2.heap.size else f t)=f1 at*;obtain⟨L1,jM⟩:=ex ((name,l1) :: L);have Ue:=Hi (show(name,l1)∈L1 from by rw[←jM];simp);rw[jM] at nV Vu;have SK:=Hi (show PF w base m w2.heap.size∨w.heap.size≤w2.heap.size from .inr ajH);obtain⟨fb,kF⟩:=ex (w2.heap.size);rw[kF] at c1 bz iF awh SK;clear Ac AB aiB ab0 hE5 PW LW aaS Af TE akk I8 jM aep Jd bJ FT QO akd HE NU;go_wp2_with fail
 all_goals
  refine xy.mono ?_;rintro e w6⟨v6,rfl,Kh,CS⟩;obtain⟨q6,c6,rfl,hq6,-⟩:=FH Kh;have akb:=(CS.block _ (Ao iX)).trans iX.out;have ow:=Hi akb
  have Vt:=Hi (amg Kh (aza pb pr) (fun W hW=>(hW.block _ (Ao ow) (fun e=>by
    have:=E9 Kh e;have:=Ao iX;omega)).trans ow) (Aw Gm (by decide)))
  have Hy:=Hi Kh;have EC:=Hi CS;clear Kh CS akb xy;go_wp2_with fail;refine Vt.mono ?_;rintro e w7⟨v7,rfl,l7,fq,-⟩;have FK:Bw w5 w7:=Cy EC fq (fun i e=>E9 Hy e) EC.size
  have sQ:=(fq.block _ (Ao ow) (fun e=>by
    have:=E9 Hy e;have:=Ao iX;omega)).trans ow.out
  obtain⟨q7,c7,rfl,hq7,XN⟩:=FH l7;have kE:=(FK.block _ (Ao bz)).trans bz.out;have c17:w7.cell? ⟨fb,0,none⟩=some (.slice q3 l1.length c3):=cr kE;have ZA:=Dt w7 fb 0 _ _ kE;have Jo:=(nV.below FK).set Ue (EA l7 (Aw Mq (Xe.size)));rw[iF.out] at Jo;have akC:=Xe.trans (A7.of_below (F:=PF w base m) FK) (fun _ f=>.inl f);have Q7:=akC.setCell (p:=⟨fb,0,none⟩) SK (.slice q7 (l1.filter fun p=>!(p.1 == pr.1)).length c7);have abZ:=(A7.refl (fun k=>k=fb) w7).setCell (p:=⟨fb,0,none⟩) (.inl rfl) (.slice q7 (l1.filter fun p=>!(p.1 == pr.1)).length c7);have KX:∀ k,k=fb→¬ Bb w7 k 51:=fun k e hb=>by
   obtain⟨cs,fr,hb⟩:=hb;rw[e,kE] at hb;injection hb with hb
   injection hb with _ hb
   exact absurd hb (by decide)
  have eT:=(abZ.block pb (Ao sQ) (fun e=>KX _ e ⟨_,_,sQ⟩)).trans sQ;have ZY:=Bv l7 abZ (fun k hk e=>KX k e (Cn l7 hk));have XR:=Cu w7 fb 0 _ _ (.slice q7 (l1.filter fun p=>!(p.1 == pr.1)).length c7) kE;obtain⟨l8,LH⟩:∃ l8,l1.filter (fun p=>!(p.1 == pr.1))=l8:=⟨_,rfl⟩;rw[LH] at Jo Q7 eT ZY XR XN;have X7:=Hi (show L6 [l8,[pr]]=put pr.1 pr.2 l1 from by rw[←LH];exact alP EM pr);rw[LH];have avP:l8.length≤1000:=by rw[←LH];exact Aw (M8 _ _) Gm
  clear LH akC abZ KX l7 fq FK sQ;go_wp2_with fail;have agh:(w7.setCell ⟨fb,0,none⟩ (.slice q7 l8.length c7)).cell? ⟨pb,0,none⟩=some (.string (bs pr.1)):=cr eT;have agi:(w7.setCell ⟨fb,0,none⟩ (.slice q7 l8.length c7)).cell? ⟨pb,1,none⟩=some (.string (bs pr.2)):=cr eT;have zw:(w7.setCell ⟨fb,0,none⟩ (.slice q7 l8.length c7)).cell? ⟨fb,0,none⟩=some (.slice q7 l8.length c7):=cr XR;obtain⟨w8,hw8⟩:=ex (w7.setCell ⟨fb,0,none⟩ (.slice q7 l8.length c7));rw[hw8] at Jo Q7 eT ZY XR agh agi zw ⊢;clear hw8 c17 ZA kE;have xU:=Hi (azo (base:=base) (fb:=fb) ZY (Aw Mq Xe.size) eT XR hq7 XN (by have:=Xe.size;have:=Q7.size;omega) avP);rw[X7.out] at xU;have arq:(w8.alloc (.cells #[.string (bs pr.1),.string (bs pr.2)] 51)).cell? ⟨fb,0,none⟩=some (.slice q7 l8.length c7):=((AU w8 _).cell (p:=⟨fb,0,none⟩) (Ao XR)).trans zw;refine aW ?_
  go_region_law
   (first
    |(go_simp;go_at_call 97;refine xU.mono ?_;rintro e w9 ⟨q9,c9,rfl,Q3,FD,c19,dR⟩;go_wp2_with fail))
  all_goals
   dsimp only[Yt];have aj3:=(FD.block _ (Ao XR)).trans XR;have ajy:(name,l8)∈setRow L1 name l8:=Bz.2 ⟨_,Ue,Ad rfl⟩;have l9:=(Jo.below FD).set ajy Q3;rw[iF.out,setRow_setRow] at l9;have hu9:=(Q7.trans (A7.of_below (F:=PF w base m) FD) (fun _ f=>.inl f)).setCell (p:=⟨fb,0,none⟩) SK (.slice q9 (put pr.1 pr.2 l1).length c9);have aj2:=Cu w9 fb 0 _ _ (.slice q9 (put pr.1 pr.2 l1).length c9) aj3;have ajx:(name,put pr.1 pr.2 l1)∈setRow L1 name (put pr.1 pr.2 l1):=Bz.2 ⟨_,Ue,Ad rfl⟩;have sS:=l9.Xv _ ajx;rw[iF.out] at sS;obtain⟨EB,Yi⟩:=ex (w9.setCell ⟨fb,0,none⟩ (.slice q9 (put pr.1 pr.2 l1).length c9));rw[Yi] at l9 hu9 aj2 sS ⊢;have HPE:=Hi sS;have oN:=Hi l9;have bQ:=Hi hu9;clear Yi Q3 FD c19 dR aj3 ajy hu9 ajx sS l9 Jo Q7 eT ZY XR agh agi zw arq xU aj2;have Ng:=@run_makeMap prog;have XK:base≤EB.heap.size:=Aw Mq bQ.size;have rD:=AU EB (.map #[] 0);obtain⟨YG,aEA,ai6,ab7⟩:=(EW.made EB base (fun _=>fb) XK).insert (name:=name) (l:=put pr.1 pr.2 l1) (b:=fb) (by simp) (by rw[EI];decide) (HPE.below rD) (fun x hx=>by simp at hx) (by unfold maxLen;decide);have lq:A7 (PF w base m) EB YG:=(A7.of_below (F:=PF w base m) rD).trans (A7.of_grownBy (F:=fun k=>k=EB.heap.size) ab7 (fun k e=>(GQ e).symm)) (fun i e=>.inr (by rw[e];exact Ae _));have aEF:=lq.size
   have Me:=Hi (alG ai6 (fun x hx=>by
    obtain rfl:x=(name,put pr.1 pr.2 l1):=(by simpa using hx);have hs:=Oq name;rw[MO.out] at hs;exact⟨CU.Ra (EM.put _ _),Aw hs.1 (by decide),hs.2⟩) (fun x hx=>by
    obtain rfl:x=(name,put pr.1 pr.2 l1):=by simpa using hx
    show name.length≤1000
    rw[EI];decide) (by simp))
   have hne:put pr.1 pr.2 l1≠[]:=List.ne_nil_of_mem ((TQ EM).2 (.inl rfl));have PU:PG [(name,put pr.1 pr.2 l1)]=(BV (put pr.1 pr.2 l1)).isSome:=(by rw[at5];unfold N8;simp[hne]);unfold bU at Me;rw[PU] at Me;have j4:=Hi (bQ.trans lq (fun _ f=>.inl f));have afd:=Hi (show EW YG base m (setRow L1 name (put pr.1 pr.2 l1)) f1 from oN.ax9 rD ab7);have oL:=Hi (show(if(BV (put pr.1 pr.2 l1)).isSome=true then(0:Int) else 5)=res from by rw[←MO.out];exact EZ.out);clear EZ;clear rD ai6 ab7 lq hne PU HPE oN bQ;generalize (KR [(name,put pr.1 pr.2 l1)])=chs at*;cases DF:(BV (put pr.1 pr.2 l1)).isSome with
   |true=>
    have eY:res=0:=(by rw[←oL.out,Ad DF]);subst eY;clear oL;simp only[DF,if_true] at Me;go_wp2_with fail;refine Me.mono ?_;rintro e wF⟨q12,c12,rfl,-,Tk⟩;have Ro:=Hi Tk;clear Tk;go_wp2;go_ret;exact⟨rfl,_,f1,afd.below Ro,Vu,j4.trans (A7.of_below (F:=PF w base m) Ro) (fun _ f=>.inl f)⟩
   |false=>
    have Kg:res=5:=(by rw[←oL.out,Ab (by rw[DF];simp)]);subst Kg;clear oL;simp only[DF,Bool.false_eq_true,if_false] at Me;go_wp2_with fail;refine Me.mono ?_;rintro e wF⟨rfl,Tk⟩;have Ro:=Hi Tk;clear Tk;go_wp2;go_ret;exact⟨rfl,_,f1,afd.below Ro,Vu,j4.trans (A7.of_below (F:=PF w base m) Ro) (fun _ f=>.inl f)⟩
def yN(w:World)(p:Nat)(l:M)(i:Value)(wr:World):Prop:=
 ∃ (k:Nat) (L:List (T×M)) (f:T→Nat),k≤l.length∧i=.int .i64 (k:Int)∧EW wr w.heap.size (w.heap.size+1) L f∧Kp.EF Ah (l.take k) L∧Bw w wr∧Fits Ah (l.take k)∧
  wr.heap[w.heap.size]?=some (.cells #[.pointer (some ⟨p,0,none⟩)] 43)∧wr.heap[w.heap.size+1+1]?=some (.cells #[.map (some (w.heap.size+1))] 175)
theorem ami{wr w':World}{base m:Nat}{L:List (T×M)}{f:T→Nat}(h:EW wr base m L f)(hu:A7 (PF wr base m) wr w'){b:Nat}{cs:Array Value}{t:TypeId}(hb:wr.heap[b]?=some (.cells cs t))(ht:t≠179):w'.heap[b]?=some (.cells cs t):=
 (hu.block b (Ao hb) (fun hf=>by
  rcases hf.2 with e|⟨c2,f2,e⟩
  ·rw[e] at hb;exact h.Dl ⟨_,_,hb⟩
  ·rw[hb] at e;injection e with e
   injection e with _ e
   exact ht e)).trans hb
theorem ayc{w:World}{p y:Nat}{A:M}{q:Option Addr}{cap:Nat}{l:M}{Q:Int→World→Prop}(hm:Gi w p y)(hg:Ar.Pb w y A)(D9:∀ k,Ag.get A (Ah.nm k)=none)(hk:Bf w q l)(hl:l.length≤1000)(Dw:∀ x∈l,x.1.length≤1000000)(FL:∀ j name,Small (BM Ah (l.take j) name))
  (hf:∀ W,Bw w W→Calls prog 175 #[.pointer (some ⟨y,0,none⟩)] W fun e w'=>e=.returned (.int .i64 0)∧W=w')
  (h5:¬ Fits Ah l→∀ w',Bw w w'→Q 5 w')
  (hc:Fits Ah l→∀ W q c,Bw w W→Eb W q (ES Ah l)→Calls prog 17 #[.pointer (some ⟨y,0,none⟩),.slice q (ES Ah l).length c] W fun e w'=>∃ c,e=.returned (.int .i64 c)∧Q c w'):
  Calls prog 40 #[.pointer (some ⟨p,0,none⟩),.slice q l.length cap] w fun e w'=>∃ c,e=.returned (.int .i64 c)∧Q c w':=by
 have HF:=Hi hf;have H5:=Hi h5;have HC:=Hi hc;have HM:=Hi hm;have HG:=Hi hg;have HK:=Hi hk;have DW:=Hi D9;have KD:=Hi Dw;have Oq:=Hi FL;have kY:=hm.lt;clear hf h5 hc hm hg hk D9 Dw FL
 go_in
 go_wp2_with fail;have Bg:=AU w (.cells #[.pointer (some ⟨p,0,none⟩)] 43);refine(axV (P:=fun W w'=>W=w') (HM.below Bg) (HF _ Bg)).mono ?_;rintro e w1⟨rfl,Kk⟩;subst Kk;have Ng:=@run_makeMap prog;go_wp2_with fail;have Q4:=Ay w (.cells #[.pointer (some ⟨p,0,none⟩)] 43);have eG:=AQ w (.cells #[.pointer (some ⟨p,0,none⟩)] 43);have hmp:=EW.made (w.alloc (.cells #[.pointer (some ⟨p,0,none⟩)] 43)) w.heap.size (fun _=>0) Bg.size;have Aj:=Bg.alloc Bg.size (.map #[] 0);have FU:=((AU (w.alloc (.cells #[.pointer (some ⟨p,0,none⟩)] 43)) (.map #[] 0)).block _ (Ao eG)).trans eG;rw[Q4] at hmp;have TH:=Ay (w.alloc (.cells #[.pointer (some ⟨p,0,none⟩)] 43)) (.map #[] 0);rw[Q4] at TH;generalize (w.alloc (.cells #[.pointer (some ⟨p,0,none⟩)] 43)).alloc (.map #[] 0)=V1 at*;have GM:=AQ V1 (.cells #[.map (some (w.heap.size+1))] 175);have rE:=AU V1 (.cells #[.map (some (w.heap.size+1))] 175);rw[TH] at GM
 have Pp:=Hi (show yN w p l (.int .i64 0) (V1.alloc (.cells #[.map (some (w.heap.size+1))] 175)) from
  ⟨0,[],_,AV _,rfl,hmp.below rE,by rw[Gg];exact Kp.EF.nil,Aj.trans (rE.mono Aj.size),by rw[Gg];exact fun j hj=>by simp at hj,(rE.block _ (Ao FU)).trans FU,GM⟩)
 generalize V1.alloc (.cells #[.map (some (w.heap.size+1))] 175)=V2 at*;clear Bg Aj eG FU hmp Q4 TH GM rE
 go_loopw [22] (fun i wr=>yN w p l i wr) (fun i _=>l.length -(intOf i).toNat)
 case atStart=>exact Pp.out
 case round=>
  obtain⟨k,L,f,hk,rfl,he,GZ,hb,Cf,ZP,UX⟩:=hrel;have HE:=Hi he;have X8:=Hi GZ;have HB:=Hi hb;have Lm:=Hi Cf;have bK:=Hi ZP;have iR:=Hi UX;clear he GZ hb Cf ZP UX Pp;by_cases hlt:k < l.length
  ·obtain⟨a,Cs,ha,-⟩:=(HK.below HB).index cap k hlt;have c0:=ha.key;have c1:=ha.val;have hkx:=KD _ (CQ hlt);have Cv:=Hi (Cx hlt)
   have Qp:=Hi (show Fits Ah l→(BV (BM Ah (l.take k++[l[k]]) (Ah.nm l[k].1))).isSome=true from fun h=>by
    have:=h k hlt;rwa[Cx hlt] at this)
   generalize l[k]=x at*;have Ce:=AU wr (.cells #[.string (bs x.1),.string (bs x.2)] 51);have Dk:=HB.trans (Ce.mono HB.size);have abE:=(Ce.block _ (Ao bK)).trans bK.out;have abn:=(Ce.block _ (Ao iR)).trans iR.out;have apW:=Hi abE;have apC:=Hi abn;have Dc:=Hi Dk;have WZ:=Hi (HE.below Ce);have HP:=Hi (ayb (pr:=x) WZ X8 abn abE (HM.below Dk) (XB HG Dk) DW Dk.size hkx (by rw[AZ];omega) (fun name=>by rw[←Cv.out];exact Oq (k+1) name) (Nat.le_succ _));clear Ce Dk abE abn ha bK iR HE;have NQ:∀ args w,(callFunc 93 args).run prog w=.ok (.enter 93 args) w:=enters_of func93 (by kernel_rfl) rfl;have Ub:=Hi (@Fits.mf Ah (l.take k) x);generalize Ka:(BV (BM Ah (l.take k++[x]) (Ah.nm x.1))).isSome=cc at*;cases cc with
   |true=>
    simp only[if_true] at HP;go_wp2_with fail;refine HP.mono ?_;rintro e w3⟨rfl,L',f',rT,sW,De⟩;have CF:=Hi (show yN w p l (.int .i64 ((k:Int)+1)) w3 from⟨k+1,L',f',by omega,by go_num,rT,by rw[Cv.out];exact sW,Cy Dc De (fun i hi=>hi.1) Dc.size,by rw[Cv.out];exact Ub.2 ⟨Lm,by trivial⟩,ami WZ De apW (by decide),ami WZ De apC (by decide)⟩);clear rT sW De;go_wp2;go_roundw
    case rel=>exact CF.out
    case measure=>
     show l.length -((k:Int)+1).toNat < l.length -((k:Int)).toNat
     omega
   |false=>
    simp only[Bool.false_eq_true,if_false] at HP;have VB:=Hi (show ¬ Fits Ah l from fun h=>by have:=Qp h;cases this);go_wp2_with fail;refine HP.mono ?_;rintro e w3⟨rfl,L',f',rT,sW,De⟩;have HQ:=Hi (H5 VB w3 (Cy Dc De (fun i hi=>hi.1) Dc.size));clear rT sW De;go_wp2;go_ret;exact⟨5,rfl,HQ⟩
  ·obtain rfl:k=l.length:=(by omega);have ajb:Fits Ah l:=(by have:=Lm.out;rwa[Da] at this);have GZ:=X8.out;rw[Da] at GZ;have zz:wr.cell? ⟨w.heap.size+1+1,0,none⟩=some (.map (some (w.heap.size+1))):=cr iR.out;have XF:L.length≤100000:=Aw (uV GZ) (by omega)
   have Me:=Hi (alG HE (fun z hz=>by
    have h1:=Oq l.length z.1;rw[Da] at h1;rw[GZ.rows z hz];exact⟨CU.Ra (Tg _ _),Aw h1.1 (by decide),h1.2⟩) (fun z hz=>by
    obtain⟨r,_,hr⟩:=Bz.1 ((GZ.names z.1).1 (Hu hz));rw[←hr,acE];decide) XF)
   unfold bU at Me;have e1:=GZ.pU;have e2:=GZ.fits ajb;simp only[Ad e2,e1] at Me;clear GZ e1 e2;go_wp2_with fail;refine Me.mono ?_;rintro e w8⟨q8,c8,rfl,ZY,KU⟩;have Rp:=bH HB KU;have Bj:=Hi (HC ajb w8 q8 c8 Rp (Eb.CX ZY));have aEq:=(HM.below Rp).cell;have aEu:w8.cell? ⟨w.heap.size,0,none⟩=some (.pointer (some ⟨p,0,none⟩)):=by
    have h:=(KU.block _ (Ao bK)).trans bK.out;rw[BL _ _ _ _ _ _ h];rfl
   generalize (ES Ah l).length=dn at*;clear ZY KU;go_wp2_with fail;refine Bj.mono ?_;rintro e w9⟨cc,rfl,ZT⟩;go_wp2;go_ret;exact⟨cc,rfl,ZT⟩
end Mem
namespace Ch
open Go.Maps Go.Shelf
open Av Ag Ar Bt Kp BI Hex BH Al Mem
attribute [local go_sem] O8
attribute [local go_sem ↓] cz
theorem Sm:strCells []=[]:=by unfold strCells;rfl
theorem adz{W:World}{B n:Nat}{v:Value}{cs:List Value}{k:List T}(h:W.ownsRow B 9 1 v n cs){q:Option Addr}{cap:Nat}(hk:Du W q k)(hq:q=none→cap=0)(hn:n+k.length≤1000000000)(hb:B≤W.heap.size):
  ∃ v' w2,(VQ #[61,61] 61 #[v,.slice q k.length cap]).run prog W=.ok v' w2∧w2.ownsRow B 9 1 v' (n+k.length) (cs++strCells k)∧W.grownBy w2 v.ownBlock:=by
 obtain⟨i0,Bl,AY,Ba,Be⟩:=DC TV;cases q with
 |none=>
  obtain rfl:k=[]:=by
   cases k with
   |nil=>rfl
   |cons y k=>
    obtain⟨p,hp,_⟩:=hk 0 (by simp);cases hp
  rw[hq rfl];refine⟨v,W,run_append_owned_none (P:=prog) (w:=W) B 61 61 9 i0 1 underlying61 Bl v n cs h,?_,World.grownBy.refl W _⟩;rw[Sm,Ea];exact h
 |some ad=>
  obtain⟨v',w2,h1,h2,h3,_,_⟩:=run_append_own_at (P:=prog) W B 61 61 9 i0 _ 1 16 underlying61 Bl AY Ba Be rfl (by decide) v n cs h ad k.length cap (strCells k) (by rw[strCells_length,Nat.mul_one]) (fun j u hj=>by
   have Kb:j < k.length:=by
    have:=(U1.1 hj).1;rwa[strCells_length] at this
   rw[YA k j Kb] at hj;obtain⟨p,hp,hc⟩:=hk j Kb;cases hp;rw[hc,←hj]) (adv _) (by unfold maxLen;omega) (by omega) hb
  exact⟨v',w2,h1,h2,h3⟩
def Hq(K:Kind)(A:M)(ks:List T):List T:=ks.flatMap fun t=>E8 ((fileOf K A t).getD [])
theorem anm(K:Kind)(A:M)(ks:List T)(t:T):Hq K A (ks++[t])=Hq K A ks++E8 ((fileOf K A t).getD []):=by
 unfold Hq;rw[MJ];simp
theorem aco(l:M):(E8 l).length≤l.length:=by
 unfold E8;have:=Vh (l.map (·.1));rwa[BP] at this
theorem ann{K:Kind}(A:M)(ks:List T):(Hq K A ks).length≤(JR K A ks).length:=by
 induction ks using Vi with
 |h0=>exact Ae _
 |h1 ks t ih=>
  rw[anm,mK,AA,AA];have:=aco ((fileOf K A t).getD []);omega
theorem aAk{K:Kind}{A:M}(hu:Up A):Bi (Hq K A (Ic K A))=Bn K A:=by
 unfold Bn E8;rw[←vD hu];refine Re (JQ _) (JQ _) fun t=>?_
 rw[Ee,Ee,Bz];unfold Hq JR;rw[Nv];constructor
 ·rintro⟨n,hn,h⟩;unfold E8 at h;rw[Ee,Bz] at h;obtain⟨p,hp,e⟩:=h;exact⟨p,Nv.2 ⟨n,hn,hp⟩,e⟩
 ·rintro⟨p,hp,e⟩;obtain⟨n,hn,hp⟩:=Nv.1 hp;exact⟨n,hn,by unfold E8;rw[Ee,Bz];exact⟨p,hp,e⟩⟩
def JT(K:Kind)(A:M)(w:World)(oc B:Nat)(ks:List T)(W:World):Prop:=
 ∃ v,Eu 9 61 1 w oc B W (Hq K A ks).length (strCells (Hq K A ks)) v∧(ks=[]→v=.slice none 0 0)
theorem aci(K:Kind)(A:M)(w:World)(oc:Nat):Xi w oc (JT K A w oc) where
 below:=fun B ks W W' ⟨v,h1,h2⟩ hb=>⟨v,h1.below hb,h2⟩
 raise:=fun B B' W ⟨v,h1,h2⟩ hb hs=>by
  have e:=h2 rfl;subst e;have e2:Hq K A []=[]:=rfl;rw[e2,Sm] at h1;exact⟨_,by rw[e2,Sm];exact Eu.raise h1 hb hs,fun _=>rfl⟩
 put:=fun B ks W k o o' ⟨v,h1,h2⟩ ho hc hk=>⟨v,h1.put ho hc hk,h2⟩
theorem agJ{w:World}{q:Option Addr}{cap:Nat}{l:M}(h:Bf w q l)(hq:q=none→cap=0)(hl:l.length≤1000000):
  Calls prog 124 #[.slice q l.length cap] w fun e w'=>∃ v,e=.returned v∧Ar.Bq w' w.heap.size v (E8 l)∧Bw w w':=by
 have HK:=Hi (fT h hq hl);clear h hq
 go_in
 go_wp2_with fail;refine HK.mono ?_;rintro e w1⟨v,rfl,hr,hb⟩;have HR:=Hi hr;have HB:=Hi hb;obtain⟨q,c,rfl⟩:=Bo hr;clear hr hb;go_wp2;go_ret;exact⟨_,rfl,HR,HB⟩
theorem aAm{w W V:World}{Bx p:Nat}{A:M}{pre:List Gy}{x:Gy}{qv:Option Addr}{cv:Nat}(hO:Eu 9 61 1 w w.heap.size x.B W (Hq Aa A (pre.map (·.name))).length (strCells (Hq Aa A (pre.map (·.name)))) (.slice qv (Hq Aa A (pre.map (·.name))).length cv))
  (hS:M9 w w.heap.size Bx x.B (.pointer (some ⟨p,0,none⟩)) 44 x.q x.c (A.map (·.1)) W)(hG:∀ z∈pre,z.B=x.B∧z.q=x.q∧z.c=x.c)(hT:∃ ts,pre.map (·.name)++x.name :: ts=Ic Aa A)(hV:Bw W V){kq:Option Addr}{kc:Nat}{kr:List T}
  (Cz:Ar.Bq V W.heap.size (.slice kq kr.length kc) kr)(hlen:(Hq Aa A (pre.map (·.name))).length+kr.length≤1000000)(RP:kr=E8 ((fileOf Aa A x.name).getD []):=by rfl):
  ∃ q7 c7 w7,(VQ #[61,61] 61 #[.slice qv (Hq Aa A (pre.map (·.name))).length cv,.slice kq kr.length kc]).run prog V=.ok (.slice q7 ((Hq Aa A (pre.map (·.name))).length+kr.length) c7) w7∧
   V.cell? ⟨w.heap.size,0,none⟩=some (.slice qv (Hq Aa A (pre.map (·.name))).length cv)∧w7.cell? ⟨w.heap.size,0,none⟩=some (.slice qv (Hq Aa A (pre.map (·.name))).length cv)∧w7.frozen? ⟨w.heap.size,0,none⟩=false∧
   Oa w w.heap.size Bx (.pointer (some ⟨p,0,none⟩)) 44 Aa A (JT Aa A w w.heap.size) (pre++[x]) (w7.setCell ⟨w.heap.size,0,none⟩ (.slice q7 ((Hq Aa A (pre.map (·.name))).length+kr.length) c7))∧
   KeepsOthers W (w7.setCell ⟨w.heap.size,0,none⟩ (.slice q7 ((Hq Aa A (pre.map (·.name))).length+kr.length) c7)):=by
 have QG:=hO.below hV;have ek:kq=none→kc=0:=fun e=>by
  rcases Cz.2 with⟨e1,_⟩|⟨g,cap,cur,e1,_⟩
  ·injection e1
  ·rw[e] at e1;injection e1 with e1;cases e1
 obtain⟨v7,w7,QT,LP,Ir⟩:=adz (W:=V) QG.row (Hr Cz) ek (by omega) QG.size;obtain⟨q7,c7,rfl⟩:=Bo LP;have NN:=(Ir.block w.heap.size (Ao QG.box) (fun e=>(QG.ne e.symm).1 rfl)).trans QG.box;have dK:=hO.add hV Ir LP;refine⟨q7,c7,w7,QT,cr QG.box,cr NN,Dt w7 w.heap.size 0 _ _ NN,?_,hO.keeps hV Ir _⟩;refine je hS hG hT (hO.turned hV Ir _) ⟨.slice q7 ((Hq Aa A (pre.map (·.name))).length+kr.length) c7,?_,fun e=>by simp at e⟩;rw[anm,AA,←RP,show strCells (Hq Aa A (pre.map (·.name))++kr)=strCells (Hq Aa A (pre.map (·.name)))++strCells kr by unfold strCells;rw[CK]];exact dK
theorem agK{w:World}{p y:Nat}{A:M}(hm:EN w p y)(hf:He w y A)(hl:(EG Aa A).length≤1000000):
  Calls prog 46 #[.pointer (some ⟨p,0,none⟩)] w fun e w'=>∃ v,e=.returned v∧Ar.Bq w' w.heap.size v (Bn Aa A)∧Bw w w':=by
 refine(Dr (n:=3)).1 ?_;have NW:prog.follows .mixedOrders=true:=by kernel_rfl
 have HM:=Hi hm;have HF:=Hi hf;have HE:=Hi (vD (K:=Aa) hf.up);have HL:=Hi hl;clear hm hf hl;refine callsIn_of_wp_marks func46 rfl trivial ?_ rfl;simp only[ntmps46,Jt,BG,Ht,Nat.reduceAdd,Nat.reduceSub,La,Lb,Lf,Lc,Ei,Gt]
 gi_wp2
 have Bg:=AU w (.cells #[.slice none 0 0] 61);have Jn:Eu 9 61 1 w w.heap.size (w.heap.size+1) (w.alloc (.cells #[.slice none 0 0] 61)) 0 [] (.slice none 0 0):=⟨Bg,Ae _,Nat.lt_succ_self _,by rw[Ay];exact Ae _,AQ w _,DZ _ _ _ _⟩;have Pm:=Hi Jn;refine⟨trivial,(Dr.2 (zI p _)).mono ?_⟩;rintro e w2⟨rfl,LX⟩;subst LX
 gi_wp2
 have ED:=Hi (AQ (w.alloc (.cells #[.slice none 0 0] 61)) (.cells #[.pointer (some ⟨p,0,none⟩)] 44));have Ac:=AU (w.alloc (.cells #[.slice none 0 0] 61)) (.cells #[.pointer (some ⟨p,0,none⟩)] 44);have D5:=Hi (Pm.below Ac);have DX:=Hi (Ay w (.cells #[.slice none 0 0] 61));obtain⟨Bx,Iq⟩:=ex ((w.alloc (.cells #[.slice none 0 0] 61)).heap.size);rw[Iq] at ED DX;rw[show w.heap.size+1=Bx from DX.symm];obtain⟨U,hU⟩:=ex ((w.alloc (.cells #[.slice none 0 0] 61)).alloc (.cells #[.pointer (some ⟨p,0,none⟩)] 44));rw[hU] at ED D5 ⊢;clear Bg Ac Jn Pm Iq hU;refine adZ (s:=4) (by omega) (gf:=201) (lb:=#[.pointer (some ⟨Bx,0,none⟩)]) rfl (enters_of func201 (by kernel_rfl) rfl) (e1:=fun x:Gy=>.string (bs x.name)) (e2:=fun x:Gy=>x.row)
  (Ia:=Oa w w.heap.size Bx (.pointer (some ⟨p,0,none⟩)) 44 Aa A (JT Aa A w w.heap.size)) (Iy:=U3 w w.heap.size Bx (.pointer (some ⟨p,0,none⟩)) 44 Aa A (JT Aa A w w.heap.size))
  (fun xs=>jb (aci _ _ _ _) D5.AO.size xs) (fun xs x=>jd (aci _ _ _ _) D5.AO.size xs x)
  (zH 2 (by omega) HM HF w.heap.size Bx (aci _ _ _ _) U) (.inl ⟨rfl,D5.AO,Ae _,by have:=DX.out;omega,ED,w.heap.size+1,D5.size,.slice none 0 0,by rw[show Hq Aa A []=[] from rfl,Sm];exact D5.out,fun _=>rfl⟩)
  ?assign ?body ?done
 case assign=>
  intro l x W K hK;simp only[np] at hK ⊢
  gi_wp2
  exact hK
 case body=>
  intro l2 pre x W hy;obtain⟨hS,hG,hT,⟨v,hO,-⟩,⟨q2,c2,FN,hP,DJ,-⟩⟩:=hy;have hlen:(Hq Aa A (pre.map (·.name))).length+(E8 ((fileOf Aa A x.name).getD [])).length≤1000000:=by
   obtain⟨ts,J3⟩:=hT;have h1:=anc (K:=Aa) (A:=A) (ks:=pre.map (·.name)++[x.name]) (ts:=ts);rw[Dz,List.singleton_append,J3,HE.out,mK,AA] at h1;have h2:=ann (K:=Aa) A (pre.map (·.name));have h3:=aco ((fileOf Aa A x.name).getD []);have:=HL.out;omega
  have IK:=(dx (K:=Aa) (A:=A) (name:=x.name)).1;have JW:=Hi (fun(V:World) (hV:Bw W V)=>agJ (w:=V) (hP.below hV) DJ (by omega));obtain⟨qv,cv,rfl⟩:=Bo hO.row;have cb:W.cell? ⟨w.heap.size,0,none⟩=some (.slice qv (Hq Aa A (pre.map (·.name))).length cv):=cr hO.box;have aiN:=Ao hO.box;have HO:=Hi hO;have HS:=Hi hS;have HG:=Hi hG;have HT:=Hi hT;simp only[np];rw[FN];clear hP DJ FN
  gi_wp2
  have cbd:W.drew.cell? ⟨w.heap.size,0,none⟩=some (.slice qv (Hq Aa A (pre.map (·.name))).length cv):=cb;have wV:=Hi (fun(V:World) (hV:Bw W V) (kq:Option Addr) (kc:Nat) (Cz:Ar.Bq V W.heap.size (.slice kq (E8 ((fileOf Aa A x.name).getD [])).length kc) (E8 ((fileOf Aa A x.name).getD [])))=>aAm hO hS hG hT hV Cz hlen)
  gi_region_with_o (refine⟨trivial,(CallsIn.inRound l2 ((Dr (n:=0)).2 (JW _ (by first|exact Ai _ _|exact(Ai _ _).drew)))).mono ?_⟩;rintro e w4 ⟨kv,rfl,Cz,AB⟩;obtain⟨kq,kc,rfl⟩:=Bo Cz;have AB:Bw W w4:=(by first|exact AB|exact((Ai _ W).drew).trans (AB.mono (Ae _)));obtain⟨q7,c7,w7,QT,Mr,XN,ZA,FE,Y0⟩:=wV w4 AB kq kc Cz;have Di:=Hi FE;have Vv:=Hi Y0;clear FE Y0 Cz AB;gi_wp2)
  all_goals
   exact⟨Vv,Di⟩
 case done=>
  intro D xs W hD hS hI Dv;obtain⟨B,v,hO,-⟩:=jc hI;rw[hS] at hO;obtain⟨q,c,rfl⟩:=Bo hO.row;have Po:=Hi (aAk (K:=Aa) HF.up);have hRl:(Hq Aa A (Ic Aa A)).length≤1000000:=by
   have:=ann (K:=Aa) A (Ic Aa A);rw[HE.out] at this;exact Aw this HL.out
  have EZ:=Hi (zM (w:=W) (base:=B) hO.row hRl);have HO:=Hi hO;have SN:=Hi Dv;have HD:=Hi (show w.heap.size≤D from Aw (Aw (Nat.le_succ _) D5.size) hD);generalize Hq Aa A (Ic Aa A)=R at*;have cb:W.cell? ⟨w.heap.size,0,none⟩=some (.slice q R.length c):=cr hO.box;clear hS hI Dv hD hO
  gi_wp2
  refine⟨trivial,(Dr.2 EZ).mono ?_⟩;rintro e w5⟨rv,rfl,FX,BF⟩;obtain⟨rq,rc,rfl⟩:=Bo FX;have Tm:=(BF.block _ (Ao HO.box)).trans HO.box;have c5:w5.cell? ⟨w.heap.size,0,none⟩=some (.slice q R.length c):=cr Tm;have hf5:=Dt w5 w.heap.size 0 _ _ Tm;have Tx:=(BF.block D (Dq.1 SN).1).trans SN.out;have Kj:=(A7.refl (fun k=>k=w.heap.size) w5).setCell (p:=⟨w.heap.size,0,none⟩) (.inl rfl) (.slice rq (Bi R).length rc);have Tn:=Cu w5 w.heap.size 0 _ _ (.slice rq (Bi R).length rc) Tm
  have IW:=Hi ((Kj.block D (Dq.1 Tx).1 (fun e=>by
   rw[e,Tm] at Tx;cases Tx)).trans Tx)
  have kV:=HO.lt
  have Kh:=Bv (EA FX HO.AO.size) Kj (fun k hk e=>by
   have h1:=E9 FX hk;have h2:=Ao HO.box;omega)
  have EC:=Hi ((HO.AO.trans (BF.mono HO.AO.size)).setCell (p:=⟨w.heap.size,0,none⟩) (Ae _) (.slice rq (Bi R).length rc));have Hy:=Hi Kh
  have Vr:=Hi (show((w5.setCell ⟨w.heap.size,0,none⟩ (.slice rq (Bi R).length rc)).putObj D (.deferred none)).cell? ⟨w.heap.size,0,none⟩=some (.slice rq (Bi R).length rc) from by
   rw[BL _ _ _ _ _ _ (Si Tn IW rfl)];rfl)
  clear FX BF Tm Tx Kj Tn Kh
  gi_wp2
  refine⟨by simp,.inl ⟨_,_,rfl,run_takeDeferred IW,?_⟩⟩;have hu:A7 (fun i=>i=D) (w5.setCell ⟨w.heap.size,0,none⟩ (.slice rq (Bi R).length rc)) ((w5.setCell ⟨w.heap.size,0,none⟩ (.slice rq (Bi R).length rc)).putObj D (.deferred none)):=A7.of_grownBy (F:=fun i=>i=D) (grownBy_putObj' _ D (.deferred none)) (fun i e=>by cases e;rfl);refine⟨_,(by simp[results,results46,go_sem,Vr.out]),.slice rq (Bi R).length rc,rfl,?_,Cy EC hu (fun i e=>by rw[e];exact HD.out) EC.size⟩;rw[←Po.out]
  exact Bv Hy hu (fun k hk e=>by
   obtain⟨cs,fz,h2⟩:=Cn Hy hk;rw[e,IW.out] at h2;cases h2)
end Ch
namespace EX
open Go.Maps
open Av Ag Ar Bt Kp BI Hex BH Al Mem Ch
structure Rm(w:World)(q:Addr)(b:Nat×T×T):Prop where
 kind:w.cell? (q.add 0)=some (.int .u8 (b.1:Int))
 who:w.cell? (q.add 1)=some (.string (bs b.2.1))
 key:w.cell? (q.add 2)=some (.string (bs b.2.2))
theorem Rm.cells{w:World}{q:Addr}{b:Nat×T×T}(h:Rm w q b):w.cell? q=some (.int .u8 (b.1:Int))∧w.cell? ⟨q.block,q.off+1,none⟩=some (.string (bs b.2.1))∧w.cell? ⟨q.block,q.off+2,none⟩=some (.string (bs b.2.2)):=by
 have h1:=h.kind;rw[add_zero'] at h1;exact⟨h1,h.who,h.key⟩
def Lj(w:World)(a:Option Addr)(l:List (Nat×T×T)):Prop:=∀ i,(h:i < l.length)→∃ p:Addr,a=some p∧Rm w (p.add (i*3)) l[i]
theorem Rm.upd{F:Nat→Prop}{w w':World}{q:Addr}{c:Nat×T×T}(h:Rm w q c)(hu:A7 F w w')(hF:¬ F q.block):Rm w' q c:=by
 have b:∀ i,(q.add i).block=q.block:=add_block q;have hlt:=Cr h.kind;exact⟨(hu.cell hlt (by rw[b];exact hF)).trans h.kind,(hu.cell (by rw[b];rw[b] at hlt;exact hlt) (by rw[b];exact hF)).trans h.who,(hu.cell (by rw[b];rw[b] at hlt;exact hlt) (by rw[b];exact hF)).trans h.key⟩
theorem Lj.upd{F:Nat→Prop}{w w':World}{a:Option Addr}{l:List (Nat×T×T)}(h:Lj w a l)(hu:A7 F w w')(hF:∀ p,a=some p→l≠[]→¬ F p.block):Lj w' a l:=fun i hi=>by
 obtain⟨p,hp,h1⟩:=h i hi;exact⟨p,hp,h1.upd hu (by rw[add_block];exact hF p hp (by intro e;rw[e] at hi;simp at hi))⟩
theorem Lj.below{w w':World}{a:Option Addr}{l:List (Nat×T×T)}(h:Lj w a l)(hb:Bw w w'):Lj w' a l:=h.upd (ub hb) (fun _ _ _ f=>f)
theorem Lj.index{w:World}{a:Option Addr}{l:List (Nat×T×T)}(h:Lj w a l)(cap k:Nat)(hk:k < l.length):
  ∃ q:Addr,(∀ W,(Instr.indexAt 58 (.slice a l.length cap) (.int .i64 (k:Int))).run prog W=.ok (.pointer (some q)) W)∧Rm w q l[k]∧∃ p:Addr,a=some p∧q.block=p.block:=by
 obtain⟨p,rfl,h1⟩:=h k hk;exact⟨_,fun W=>IB prog _ 23 underlying58 3 (by kernel_rfl) p l.length cap k hk W,h1,p,rfl,add_block _ _⟩
@[irreducible] def GA (l:List (Nat×T×T)):List Value:=l.flatMap fun c=>[.int .u8 (c.1:Int),.string (bs c.2.1),.string (bs c.2.2)]
theorem jg:GA []=[]:=by unfold GA;rfl
theorem ar0(a b:List (Nat×T×T)):GA (a++b)=GA a++GA b:=by unfold GA;rw[MJ]
theorem afZ(l:List (Nat×T×T))(c:Nat×T×T):GA (l++[c])=GA l++[.int .u8 (c.1:Int),.string (bs c.2.1),.string (bs c.2.2)]:=by unfold GA;simp
theorem afY(l:List (Nat×T×T)):(GA l).length=l.length*3:=by
 unfold GA
 induction l with
 |nil=>rfl
 |cons p l ih=>rw[Qg,AA,ih,BG];simp;omega
theorem ar1(l:List (Nat×T×T)):∀ u∈GA l,u.oneCell'=true:=by
 unfold GA;intro u hu;obtain⟨p,_,hp⟩:=Nv.1 hu;simp only[Cc,List.not_mem_nil,or_false] at hp;rcases hp with rfl|rfl|rfl<;>rfl
theorem afX(l:List (Nat×T×T))(k:Nat)(hk:k < l.length)(j:Nat)(hj:j < 3):(GA l)[k*3+j]?=([.int .u8 (l[k].1:Int),.string (bs l[k].2.1),.string (bs l[k].2.2)]:List Value)[j]? :=by
 unfold GA
 induction l generalizing k with
 |nil=>simp at hk
 |cons c l ih=>
  rw[Qg];cases k with
  |zero=>
   rw[Nat.zero_mul,Ha,List.getElem?_append_left (by simp;omega)];rfl
  |succ k=>
   rw[List.getElem?_append_right (by simp;omega),show(k+1)*3+j -([Value.int .u8 (c.1:Int),.string (bs c.2.1),.string (bs c.2.2)]:List Value).length=k*3+j by simp;omega];exact ih k (by simpa using hk)
abbrev Ma(w:World)(base:Nat)(v:Value)(l:List (Nat×T×T)):Prop:=w.ownsRow base 23 3 v l.length (GA l)
theorem Lj.CX{w:World}{base:Nat}{q:Option Addr}{c n:Nat}{l:List (Nat×T×T)}(h:Ma w base (.slice q n c) l):Lj w q l:=fun i hi=>by
 rcases h.2 with⟨e1,e2⟩|⟨g,cap,cur,e1,_⟩
 ·omega
 ·have e2:q=some ⟨g,0,none⟩:=by injection e1
  subst e2;have hc:∀ j,j < 3→∀ v,([.int .u8 (l[i].1:Int),.string (bs l[i].2.1),.string (bs l[i].2.2)]:List Value)[j]?=some v→w.cell? (((⟨g,0,none⟩:Addr).add (i*3)).add j)=some v:=fun j hj v hv=>by
   rw[←afX l i hi j hj] at hv;have:=h.cells (g:=g) rfl _ _ hv;rw[add_plain] at this ⊢;rw[VP];exact this
  exact⟨_,rfl,hc 0 (by omega) _ rfl,hc 1 (by omega) _ rfl,hc 2 (by omega) _ rfl⟩
theorem Lj.cells{w:World}{l:List (Nat×T×T)}{p:Addr}(h:Lj w (some p) l):∀ j u,(GA l)[j]?=some u→w.cell? (p.add j)=some u:=fun j u hj=>by
 have hlt:j < l.length*3:=by
  have:=(U1.1 hj).1;rwa[afY] at this
 obtain⟨i,r,hr,rfl⟩:∃ i r,r < 3∧j=i*3+r:=⟨j / 3,j % 3,by omega,by omega⟩;obtain⟨q,e,hp⟩:=h i (by omega);cases e;have hg:=afX l i (by omega) r hr;rw[hj] at hg;rw[←Addr.add_add];rcases(show r=0∨r=1∨r=2 by omega) with rfl|rfl|rfl
 ·rw[show u=.int .u8 (l[i].1:Int) by simpa using hg];exact hp.kind
 ·rw[show u=.string (bs l[i].2.1) by simpa using hg];exact hp.who
 ·rw[show u=.string (bs l[i].2.2) by simpa using hg];exact hp.key
theorem ag0:(prog.info? 23).map (fun i=>(i.zero,i.size,i.bytes))=some (some (.agg #[.int .u8 0,.string ByteArray.empty,.string ByteArray.empty]),3,40):=by kernel_rfl
theorem ar3{w:World}{base c n:Nat}{q:Option Addr}{l:List (Nat×T×T)}(h:Ma w base (.slice q n c) l):q=none→c=0:=fun e=>by
 rcases h.2 with⟨e1,_⟩|⟨g,cap,cur,e1,_⟩
 ·injection e1
 ·rw[e] at e1;injection e1 with e1;cases e1
theorem ar4{W:World}{B:Nat}{v:Value}{l k:List (Nat×T×T)}(h:Ma W B v l){q:Option Addr}{cap:Nat}(hk:Lj W q k)(hq:q=none→cap=0)(hn:l.length+k.length≤1000000000)(hb:B≤W.heap.size):
  ∃ v' w2,(VQ #[58,58] 58 #[v,.slice q k.length cap]).run prog W=.ok v' w2∧Ma w2 B v' (l++k)∧W.grownBy w2 v.ownBlock:=by
 obtain⟨i0,Bl,AY,Ba,Be⟩:=DC ag0;have e:∀ (w2:World) (v':Value),Ma w2 B v' (l++k)↔w2.ownsRow B 23 3 v' (l.length+k.length) (GA l++GA k):=fun w2 v'=>by
  show w2.ownsRow _ _ _ _ (l++k).length (GA (l++k))↔_
  rw[ar0,AA]
 cases q with
 |none=>
  obtain rfl:k=[]:=by
   cases k with
   |nil=>rfl
   |cons y k=>
    obtain⟨p,hp,_⟩:=hk 0 (by simp);cases hp
  rw[hq rfl];refine⟨v,W,run_append_owned_none (P:=prog) (w:=W) B 58 58 23 i0 3 underlying58 Bl v l.length (GA l) h,?_,World.grownBy.refl W _⟩;rw[Ea];exact h
 |some ad=>
  obtain⟨v',w2,h1,h2,h3,_,_⟩:=run_append_own_at (P:=prog) W B 58 58 23 i0 _ 3 40 underlying58 Bl AY Ba Be rfl (by decide) v l.length (GA l) h ad k.length cap (GA k) (afY k) hk.cells (ar1 k) (by unfold maxLen;omega) (by omega) hb;exact⟨v',w2,h1,(e _ _).2 h2,h3⟩
theorem adE{W W2:World}{base b2:Nat}{nv ov:Value}{N:List T}{n:Nat}{cs:List Value}(h:Ar.Bq W base nv N)(ho:W.ownsRow b2 23 3 ov n cs)(hg:W.grownBy W2 ov.ownBlock):Ar.Bq W2 base nv N:=
 Bv h (A7.of_grownBy (F:=fun k=>ov.ownBlock=some k) hg (fun k e=>e)) (fun g QL f=>by
  obtain⟨c1,f1,e1⟩:=Cn h QL;obtain⟨c2,f2,e2⟩:=Cn ho f;rw[e1] at e2;injection e2 with e2
  injection e2 with _ e2
  exact absurd e2 (by decide))
def nO(w:World)(nv:Value)(N:List T)(f:T→Nat×T×T)(s i:Value)(wr:World):Prop:=
 ∃ (k:Nat) (q:Option Addr) (c:Nat),k≤N.length∧i=.int .i64 (k:Int)∧s=.slice q k c∧wr.ownsRow w.heap.size 23 3 (.slice q k c) k (GA ((N.take k).map f))∧Bw w wr∧Ar.Bq wr w.heap.size nv N
theorem ze{w wr W2 w1:World}{nv ov:Value}{N:List T}{f:T→Nat×T×T}{k cap':Nat}{q':Option Addr}(hk:k < N.length)(hb:Bw w wr)(Af:wr.ownsRow w.heap.size 23 3 ov k (GA ((N.take k).map f)))(hW:Bw wr W2)(hg:W2.grownBy w1 ov.ownBlock)
  (ho:w1.ownsRow w.heap.size 23 3 (.slice q' (k+1) cap') (k+1) (GA ((N.take k).map f)++[.int .u8 ((f N[k]).1:Int),.string (bs (f N[k]).2.1),.string (bs (f N[k]).2.2)]))(hn:Ar.Bq wr w.heap.size nv N):
  nO w nv N f (.slice q' (k+1) cap') (.int .i64 ((k:Int)+1)) w1:=by
 refine⟨k+1,q',cap',by omega,by go_num,rfl,?_,?_,?_⟩
 ·rw[Cx hk,CK,List.map_singleton,afZ];exact ho
 ·exact(bT hb hW).grown hg (Aw hb.size hW.size) (fun j hj=>E9 Af hj)
 ·exact adE (Cg hn hW) (Cg Af hW) hg
end EX
section
open Go.Maps
section
variable {P:Program}{ops:Array Oper}{Q:Exit→Act→World→Prop}{md:Region.Mode}{S:World→Prop}
theorem Az(i:Nat){dst op ty pos af gd}{v:Value}{fuel:Nat}{listed l':Array Bool}{a a':Act}{w:World}(hS:S w)(h:wpAnyH P md ops Q S fuel l' a' w)
  (hi:ops[i]?=some ⟨dst,op,ty,pos,af,gd⟩:=by rfl)(hs:Region.noSelect ops=true:=by kernel_rfl)(hf:Region.free md ops listed i=true:=by kernel_rfl)(hr:(Region.ready md ops listed).contains i=true:=by kernel_rfl)
  (hw:Region.wanted ⟨dst,op,ty,pos,af,gd⟩ (yielded ops a.tmps)=true:=by rfl)
  (hy:∀ w,S w→(execOp a.eval ⟨dst,op,ty,pos,af,gd⟩).run P w=.ok (.value v) w:=by intro V hV;(try dsimp only at hV);go_simp;all_goals with_reducible rfl)
  (ha:a.put dst v=a':=by(try simp only[Act.put,np])<;>rfl)
  (hl:listed.setIfInBounds i true=l':=by(try simp only[np])<;>rfl)
  (hQ:∀ c a w,Q (.panic c) (a.put dst v) w→Q (.panic c) a w:=by exact fun _ _ _ h=>h):wpAnyH P md ops Q S (fuel+1) listed a w:=by
 subst ha hl;exact wpAnyH_take hi hs hf hr hQ (Or.inl ⟨hw,hy⟩) hS h
theorem Jc(i:Nat){dst op ty pos af gd}{fuel:Nat}{listed l':Array Bool}{a a':Act}{w:World}(hS:S w)(h:wpAnyH P md ops Q S fuel l' a' w)
  (hi:ops[i]?=some ⟨dst,op,ty,pos,af,gd⟩:=by rfl)(hs:Region.noSelect ops=true:=by kernel_rfl)(hf:Region.free md ops listed i=true:=by kernel_rfl)(hr:(Region.ready md ops listed).contains i=true:=by kernel_rfl)
  (hw:Region.wanted ⟨dst,op,ty,pos,af,gd⟩ (yielded ops a.tmps)=false:=by rfl)
  (ha:a.put dst undef=a':=by(try simp only[Act.put,np])<;>rfl)
  (hl:listed.setIfInBounds i true=l':=by(try simp only[np])<;>rfl)
  (hQ:∀ c a w,Q (.panic c) (a.put dst undef) w→Q (.panic c) a w:=by exact fun _ _ _ h=>h):wpAnyH P md ops Q S (fuel+1) listed a w:=by
 subst ha hl;exact wpAnyH_take hi hs hf hr hQ (Or.inr ⟨hw,rfl⟩) hS h
theorem OZ(i:Nat){dst op ty pos af gd}{fuel:Nat}{listed:Array Bool}{a:Act}{w:World}
  (h:∀ K':Act→World→Prop,Shut (∀ a w,S w→wpAnyH P md ops Q S fuel (listed.setIfInBounds i true) a w→K' a w)→if Region.wanted ⟨dst,op,ty,pos,af,gd⟩ (yielded ops a.tmps)=true then Oper.wp P ⟨dst,op,ty,pos,af,gd⟩ a w K' Q else K' (a.put dst undef) w)
  (ho:ops[i]?=some ⟨dst,op,ty,pos,af,gd⟩:=by rfl)(hr:Region.ready md ops listed=[i]:=by kernel_rfl):
  wpAnyH P md ops Q S (fuel+1) listed a w:=wJ hr ho h
end
end
section
open Go.Maps
section
variable {P:Program}{ops:Array Oper}{Q:Exit→Act→World→Prop}{md:Region.Mode}{S:World→Prop}
theorem vT(i:Nat){dst x y t u ty pos af gd}{l k:List UInt8}{vx vy:Value}{fuel:Nat}{listed l':Array Bool}{a a':Act}{w:World}(hS:S w)(IL:l.length+k.length≤1000000000)(hvx:vx=.string (bs l))(hvy:vy=.string (bs k))(h:wpAnyH P md ops Q S fuel l' a' w)
  (hi:ops[i]?=some ⟨dst,.binOp .add t x y u,ty,pos,af,gd⟩:=by rfl)(hs:Region.noSelect ops=true:=by kernel_rfl)(hf:Region.free md ops listed i=true:=by kernel_rfl)(hr:(Region.ready md ops listed).contains i=true:=by kernel_rfl)
  (hw:Region.wanted ⟨dst,.binOp .add t x y u,ty,pos,af,gd⟩ (yielded ops a.tmps)=true:=by rfl)
  (hx:a.eval x=vx:=by rfl)(hy:a.eval y=vy:=by rfl)
  (ha:a.put dst (.string (bs (l++k)))=a':=by(try simp only[Act.put,np])<;>rfl)
  (hl:listed.setIfInBounds i true=l':=by(try simp only[np])<;>rfl)
  (hQ:∀ c a w,Q (.panic c) (a.put dst (.string (bs (l++k)))) w→Q (.panic c) a w:=by exact fun _ _ _ h=>h):wpAnyH P md ops Q S (fuel+1) listed a w:=by
 subst ha hl;refine wpAnyH_take hi hs hf hr hQ (Or.inl ⟨hw,?_⟩) hS h;intro V hV;unfold execOp;simp only[hx,hy,hvx,hvy];go_simp;omega
end
end
namespace EX
open Go.Maps
open Av Ag Ar Bt Kp BI Hex BH Al Mem Ch
def P7:Array Value:=#[.string { data:=#[63] },.string { data:=#[109,101,109,111] },.string { data:=#[117,115,101] },.string { data:=#[119,97,110,116] },.string { data:=#[108,111,111,115,101] }]
theorem aCG(k:Nat)(hk:k < 5):P7[k]?=some (.string (bs (word k))):=by
 match k,hk with
 |0,_=>rfl
 |1,_=>rfl
 |2,_=>rfl
 |3,_=>rfl
 |4,_=>rfl
theorem aCE{k:Nat}(hk:¬ k < 5):word k=[63]:=by
 unfold word;split<;>first|omega|rfl
theorem aoD(w:World):Calls prog 30 #[] w fun e w'=>e=.returned (.agg P7)∧Bw w w':=by
 have HB:=Hi (AU w (.cells P7 83))
 go_in
 go_wp2_with fail;exact EU (v:=.agg P7) (by simp[results,results30,go_sem,P7]) rfl ⟨rfl,HB⟩
theorem agV(s:T)(w:World)(hs:s.length≤1000000):Calls prog 34 #[.string (bs s)] w fun e w'=>e=.returned (.string (bs (JF s)))∧Bw w w':=by
 unfold JF;by_cases h:s=[]
 ·rw[Ad h];subst h
  go_in
  go_wp2;go_ret;exact⟨rfl,Ai _ _⟩
 ·rw[Ab h];have hne:s.isEmpty=false:=by
   cases s with
   |nil=>exact absurd rfl h
   |cons a s=>rfl
  have HX:=Hi (ab2 s w (by omega));clear h
  go_in
  go_wp2_with fail;refine HX.mono ?_;rintro e w1⟨rfl,hb⟩;have HB:=Hi hb;clear hb;go_wp2;go_ret;exact⟨rfl,HB⟩
theorem aj4(s:T):(JF s).length≤2*s.length+1:=by
 unfold JF;split
 ·simp
 ·rw[UN];omega
theorem aCF(k:Nat):(word k).length≤5:=by
 unfold word;split<;>decide
def Xo(b:Br):Obj:=.cells #[.int .u8 (b.1:Int),.string (bs b.2.1),.string (bs b.2.2)] 23
theorem ar2{w0 V:World}{g:Nat}{b:Br}(h:w0.heap[g]?=some (Xo b))(hb:Bw w0 V):V.cell? ⟨g,0,none⟩=some (.int .u8 (b.1:Int))∧V.cell? ⟨g,1,none⟩=some (.string (bs b.2.1))∧V.cell? ⟨g,2,none⟩=some (.string (bs b.2.2)):=by
 have h2:=(hb.block g (Dq.1 h).1).trans h;unfold Xo at h2;exact⟨cr h2,cr h2,cr h2⟩
theorem ah9(b:Br)(w:World)(h0:b.1≤255)(h1:b.2.1.length≤1000000)(h2:b.2.2.length≤1000000):Calls prog 9 #[.agg #[.int .u8 (b.1:Int),.string (bs b.2.1),.string (bs b.2.2)]] w fun e w'=>e=.returned (.string (bs (tZ b)))∧Bw w w':=by
 have AR:=Hi (AU w (Xo b));have HC:=Hi (fun(V:World) (hV:Below (w.alloc (Xo b)).heap.size (w.alloc (Xo b)) V)=>ar2 (AQ w (Xo b)) hV);have Oh:=Hi (show tZ b=word b.1++[32]++JF b.2.1++[32]++JF b.2.2 from rfl);obtain⟨w0,Gc⟩:=ex (w.alloc (Xo b));rw[Gc] at AR HC;obtain⟨c0,c1,c2⟩:=HC _ (Ai _ _);obtain⟨k,who,key⟩:=b;dsimp only at*;rw[Oh.out];obtain⟨wd,tO⟩:=ex (word k);rw[tO];have VI:=Hi tO;have RZ:wd.length≤5:=by rw[←tO];exact aCF k
 clear tO Oh;unfold Xo at Gc;dsimp only at Gc
 go_in
 go_wp2_with fail;refine(aoD _).mono ?_;rintro e w2⟨rfl,Ac⟩;have Ak:=Hi (Ac.trans ((AU w2 (.cells P7 83)).mono Ac.size));have HW:=Hi (AQ w2 (.cells P7 83));obtain⟨w3,hw3⟩:=ex (w2.alloc (.cells P7 83));rw[hw3] at Ak HW;obtain⟨d0,d1,d2⟩:=HC _ Ak.out;clear c0 c1 c2 Ac Gc;have HE:=Hi (fun j (hj:j < 5)=>show w3.cell? ⟨w2.heap.size,j,none⟩=some (.string (bs (word j))) from by rw[BL _ _ _ _ _ _ HW.out];exact aCG j hj);unfold P7 at hw3;unfold P7;have Em:(JF who).length≤2000001:=by have:=aj4 who;omega
 have Ec:(JF key).length≤2000001:=by have:=aj4 key;omega
 have lh:({ data:=#[32] }:ByteArray)=bs [32]:=rfl;have AP:=Hi Ak.drew;have AX:=Hi Ak.out;by_cases hk:k < 5
 case' pos=>
  have sD:(k:Int) < 5:=by omega
  have e:=HE k hk;rw[VI.out] at e
 case' neg=>
  have sD:¬ (k:Int) < 5:=by omega
  have HQ:=Hi (show Value.string ({ data:=#[63] }:ByteArray)=.string (bs wd) from by rw[←VI.out,aCE hk];rfl)
 all_goals
  clear hk;go_wp2_with fail;try rw[HQ.out]
  have s1:wd.length+1≤1000000000:=by omega
  have s3:wd.length+((JF who).length+1)+1≤1000000000:=by omega
  have s4:wd.length+((JF who).length+1+1)+(JF key).length≤1000000000:=by omega
  have HS:=Hi (fun(V:World) (hb:Bw w0 V)=>(HC V hb).2);refine wp_region_held (S:=fun V:World=>V.cell? ⟨w.heap.size,1,none⟩=some (.string (bs who))∧V.cell? ⟨w.heap.size,2,none⟩=some (.string (bs key))) (by kernel_rfl) ?_;refine Az 0 (HS _ AP) ?_;refine vT 1 (l:=wd) (k:=[32]) (HS _ AP) (by simp;omega) rfl rfl ?_;refine Az 2 (HS _ AP) ?_;refine Az 3 (HS _ AP) ?_;refine Az 7 (HS _ AP) ?_;refine Az 8 (HS _ AP) ?_;refine OZ 4 (fun K1 Jh=>?_);go_simp;refine(agV _ _ (by assumption)).mono ?_;rintro e w5⟨rfl,BF⟩;have EY:=bH AP BF;clear BF;refine Jh _ _ (HS _ EY) ?_;try simp only[Act.put,np]
  refine vT 5 (l:=wd++[32]) (k:=JF who) (HS _ EY) (by simp;omega) rfl rfl ?_;refine vT 6 (l:=wd++[32]++JF who) (k:=[32]) (HS _ EY) (by simp;omega) rfl rfl ?_;refine OZ 9 (fun K2 Dv=>?_);go_simp;refine(agV _ _ (by assumption)).mono ?_;rintro e w6⟨rfl,CS⟩;have U5:=bH EY CS;clear CS;refine Dv _ _ (HS _ U5) ?_;try simp only[Act.put,np]
  refine vT 10 (l:=wd++32 :: (JF who++[32])) (k:=JF key) (HS _ U5) (by simp;omega) rfl rfl ?_;refine Az 11 (HS _ U5) ?_;refine wpAnyH_done (by kernel_rfl) ?_ _;clear Jh K1 Dv K2;go_wp2;go_ret;refine⟨?_,AR.trans (U5.mono AR.size)⟩;simp
theorem aBM(s:T)(h:s≠[45]):L9 s=if(Gs s).isSome=true∧s≠[] then Gs s else none:=by
 unfold L9;rw[Ab h];by_cases e:s=[]
 ·rw[Ad e,Ab (fun f=>f.2 e)]
 ·rw[Ab e];cases hu:Gs s with
  |none=>rw[Ab (by simp)]
  |some t=>rw[Ad ⟨rfl,e⟩]
end EX
section
open Go.Shelf
def atA:Go.Shelf.Ren:=⟨fun|146=>29|221=>85|268=>170|138=>171|143=>172|195=>232|197=>233|218=>234|219=>235|260=>268|217=>269|225=>270|224=>271|267=>272|266=>279|314=>280|n=>n,fun|9=>9|31=>61|3=>3|4=>4|0=>0|105=>310|21=>21|5=>5|46=>214|119=>343|139=>346|138=>345|146=>347|51=>281|n=>n,fun|1=>0|3=>1|4=>2|n=>n⟩
theorem atz:Go.Proofs.Lays.n146 prog atA:={
 mixed:=by kernel_rfl
 f138:=func171.trans (congrArg some (by kernel_rfl))
 f143:=func172.trans (congrArg some (by kernel_rfl))
 f146:=func29.trans (congrArg some (by kernel_rfl))
 f195:=func232.trans (congrArg some (by kernel_rfl))
 f197:=func233.trans (congrArg some (by kernel_rfl))
 f217:=func269.trans (congrArg some (by kernel_rfl))
 f218:=func234.trans (congrArg some (by kernel_rfl))
 f219:=func235.trans (congrArg some (by kernel_rfl))
 f221:=func85.trans (congrArg some (by kernel_rfl))
 f224:=func271.trans (congrArg some (by kernel_rfl))
 f225:=func270.trans (congrArg some (by kernel_rfl))
 f260:=func268.trans (congrArg some (by kernel_rfl))
 f266:=func279.trans (congrArg some (by kernel_rfl))
 f267:=func272.trans (congrArg some (by kernel_rfl))
 f268:=func170.trans (congrArg some (by kernel_rfl))
 f314:=func280.trans (congrArg some (by kernel_rfl))
 t0:=underlying0
 a0:=Tryz.isAgg0
 z0:=Tryz.sizeOf0
 v0:=Tryz.zeroValue0
 t3:=underlying3
 a3:=Tryz.isAgg3
 z3:=Tryz.sizeOf3
 v3:=Tryz.zeroValue3
 t4:=underlying4
 a4:=Tryz.isAgg4
 z4:=Tryz.sizeOf4
 v4:=Tryz.zeroValue4
 t5:=underlying5
 a5:=Tryz.isAgg5
 z5:=Tryz.sizeOf5
 v5:=Tryz.zeroValue5
 t9:=underlying9
 a9:=Tryz.isAgg9
 z9:=Tryz.sizeOf9
 v9:=Tryz.zeroValue9
 t21:=underlying21
 a21:=Tryz.isAgg21
 z21:=Tryz.sizeOf21
 v21:=Tryz.zeroValue21
 t31:=underlying61
 a31:=Tryz.isAgg61
 z31:=Tryz.sizeOf61
 v31:=Tryz.zeroValue61
 t46:=underlying214
 a46:=Tryz.isAgg214
 z46:=Tryz.sizeOf214
 v46:=Tryz.zeroValue214
 t51:=underlying281
 a51:=Tryz.isAgg281
 z51:=Tryz.sizeOf281
 v51:=Tryz.zeroValue281
 t105:=underlying310
 a105:=Tryz.isAgg310
 z105:=Tryz.sizeOf310
 v105:=Tryz.zeroValue310
 t119:=underlying343
 a119:=Tryz.isAgg343
 z119:=Tryz.sizeOf343
 t138:=underlying345
 a138:=Tryz.isAgg345
 z138:=Tryz.sizeOf345
 v138:=Tryz.zeroValue345
 t139:=underlying346
 a139:=Tryz.isAgg346
 z139:=Tryz.sizeOf346
 v139:=Tryz.zeroValue346
 t146:=underlying347
 a146:=Tryz.isAgg347
 z146:=Tryz.sizeOf347
 v146:=Tryz.zeroValue347
 g1:=by kernel_rfl
 g3:=by kernel_rfl
 g4:=by kernel_rfl }
end
namespace Hex
open Go.Maps
open Ag Ar BH
end Hex
namespace EX
open Go.Maps
open Av Ag Ar Bt Kp BI Hex BH Al Mem Ch
def VK(w:World):Prop:=∃ m,w.cell? ⟨0,0,none⟩=some (.int .i64 m)
theorem VK.below{w w':World}(h:VK w)(hb:Bw w w'):VK w':=by
 obtain⟨m,hm⟩:=h;exact⟨m,(hb.cell (Cr hm)).trans hm⟩
theorem anN(s:T):Go.Lib.splitB (bs [32]) 0 (Go.Lib.countB (bs s) (bs [32])) (bs s)=(parts s).map bs:=by
 have h:=Go.Lib.splitB_data (bs [32]) 0 (Go.Lib.countB (bs s) (bs [32])) (bs s);have e:∀ l:List ByteArray,(l.map (·.data.toList)).map bs=l:=fun l=>by
  rw[Kq];refine(P8 fun x _=>?_).trans (List.map_id l);rfl
 rw[←e (Go.Lib.splitB _ _ _ _),h]
 congr 1
 exact aB0 s
theorem aB1(s:T)(w:World)(hs:s.length≤1000000)(hm:VK w):
  Calls prog 29 #[.string (bs s),.string (bs [32])] w fun e w'=>e=.returned (.slice (some ⟨w.heap.size,0,none⟩) (parts s).length (parts s).length)∧Du w' (some ⟨w.heap.size,0,none⟩) (parts s)∧Bw w w':=by
 obtain⟨m,hm⟩:=hm;have hi9:(prog.info? 9).map (fun i=>(i.zero,i.size,i.bytes))=some (some (.string ByteArray.empty),1,16):=by kernel_rfl
 refine(Any.strings_Split atz hi9 (bs s) (bs [32]) m w (by rw[zh];omega) hm (by decide)).mono ?_;rintro e w'⟨rfl,rfl⟩;have hlen:Go.Lib.countB (bs s) (bs [32])+1=(parts s).length:=by
  have h:=Go.Lib.splitB_all (bs [32]) (by decide) 0 _ (bs s) rfl;rw[anN,BP] at h;exact h.symm
 rw[hlen,anN];refine⟨rfl,fun i hi=>?_,AU _ _⟩;refine⟨_,rfl,?_⟩;rw[add_plain,BL _ _ _ _ _ _ (AQ w _)];simp[hi]
def WG(l:List T)(k:T):Int:=match l.findIdx? (· == k) with
 |some i=>(i:Int)
 |none=> -1
theorem awS{l:List T}{k:T}{n:Nat}(hn:n < l.length)(h:l[n]=k)(D9:k∉l.take n):WG l k=(n:Int):=by
 have:l.findIdx? (· == k)=some n:=List.findIdx?_eq_some_iff_getElem.2 ⟨hn,by simpa using h,fun j hj=>by
  have:l[j]'(by omega)≠k:=fun e=>D9 (List.mem_take_iff_getElem.2 ⟨j,by omega,e⟩)
  simpa using this⟩
 unfold WG;rw[this]
theorem akV{l:List T}{k:T}(h:k∉l):WG l k= -1:=by
 have:l.findIdx? (· == k)=none:=List.findIdx?_eq_none_iff.2 fun x hx=>by
  have:x≠k:=fun e=>h (by rw[←e];exact hx)
  simpa using this
 unfold WG;rw[this]
theorem aBz{w:World}{a:Option Addr}{l:List T}(cap:Nat)(hl:Du w a l)(k:T)(hlen:l.length≤1000000000):
  Calls prog 31 #[.slice a l.length cap,.string (bs k)] w fun e w'=>e=.returned (.int .i64 (WG l k))∧Bw w w':=by
 have HL:=Hi hl;clear hl
 go_in
 go_wp2
 go_loopw [5,8] (fun _ i wr=>∃ n:Nat,n≤l.length∧i=.int .i64 n∧Bw w wr∧k∉l.take n) (fun _ i _=>l.length -(intOf i).toNat)
 case atStart=>exact⟨0,AV _,rfl,Ai _ _,by simp⟩
 case round=>
  obtain⟨n,hn,rfl,hb,D9⟩:=hrel;have DW:=Hi D9;have HB:=Hi hb;clear D9;by_cases hlt:n < l.length
  ·obtain⟨q,Cs,c0⟩:=(HL.below hb).index cap n hlt;have Lr:=Hi (fun h:l[n]=k=>awS hlt h DW)
   have Di:=Hi (show k≠l[n]→k∉l.take (n+1) from fun h=>by
    rw[Cx hlt,Eh];rintro(e|e)
    ·exact DW e
    ·exact h (by simpa using e))
   generalize l[n]=x at*;clear hb;by_cases hx:k=x
   ·have HE:=Hi (Lr hx.symm);subst hx;go_wp2;go_ret;exact⟨by rw[HE.out];rfl,HB⟩
   ·have ZU:(k == x)=false:=FQ.2 hx;have HN:=Hi (Di hx);clear Di Lr;go_wp2;go_roundw
    case rel=>exact⟨n+1,by omega,by go_num,HB,HN⟩
    case measure=>simp[intOf];omega
  ·obtain rfl:n=l.length:=by omega
   have HE:=Hi (show WG l k= -1 from akV (by
    have:=DW.out;rwa[Da] at this))
   clear hb;go_wp2;go_ret;exact⟨by rw[HE.out];rfl,HB⟩
def nE:List T:=[word 0,word 1,word 2,word 3,word 4]
theorem awT(a:T):(kindOf a=none∧WG nE a < 1)∨∃ k:Nat,kindOf a=some k∧WG nE a=(k:Int)∧1≤k∧k≤4:=by
 by_cases h1:a=word 1
 ·subst h1;exact .inr ⟨1,by decide,by decide,by decide,by decide⟩
 by_cases h2:a=word 2
 ·subst h2;exact .inr ⟨2,by decide,by decide,by decide,by decide⟩
 by_cases h3:a=word 3
 ·subst h3;exact .inr ⟨3,by decide,by decide,by decide,by decide⟩
 by_cases h4:a=word 4
 ·subst h4;exact .inr ⟨4,by decide,by decide,by decide,by decide⟩
 refine .inl ⟨by unfold kindOf;rw[Ab h1,Ab h2,Ab h3,Ab h4],?_⟩;by_cases h0:a=word 0
 ·subst h0;decide
 ·rw[akV (by unfold nE;simp[h0,h1,h2,h3,h4])];decide
theorem aum(a:T)(h:a≠[45]):(MG a).1=UB a∧((MG a).2 == 0 && !a.isEmpty)=(L9 a).isSome:=by
 unfold MG UB;rw[Ab h,aBM a h];cases hu:Gs a with
 |none=>exact⟨rfl,by simp⟩
 |some t=>
  refine⟨rfl,?_⟩;cases a with
  |nil=>simp
  |cons c a=>simp
theorem ahn(s:T)(w:World)(hs:s.length≤1000000):Calls prog 32 #[.string (bs s)] w fun e w'=>e=.returned (.tuple #[.string (bs (UB s)),.bool (L9 s).isSome])∧Bw w w':=by
 by_cases h:s=[45]
 ·subst h;have hq:(({ data:=#[45] }:ByteArray) == { data:=#[45] })=true:=by decide
  go_in
  go_wp2;go_ret2;exact⟨rfl,Ai _ _⟩
 ·obtain⟨g1,g2⟩:=aum s h;rw[←g1,←g2];have HU:=Hi (adN s w (by omega));have lh:({ data:=#[45] }:ByteArray)=bs [45]:=rfl;have hne:(s == [45])=false:=FQ.2 h;clear h g1 g2;generalize MG s=V at*
  go_in
  go_wp2_with fail;refine HU.mono ?_;rintro e w1⟨rfl,hb⟩;have HB:=Hi hb;clear hb;cases h0:(V.2 == 0);all_goals
   go_wp2;go_ret2;refine⟨?_,HB⟩;rw[h0];rfl
def zg(b:Nat×T×T):Value:=.agg #[.int .u8 (b.1:Int),.string (bs b.2.1),.string (bs b.2.2)]
def mD(s:T):Nat×T×T:=(Fv s).getD (0,[],[])
def mE(s:T):Int:=if(Fv s).isSome=true then 0 else 7
theorem ad2{fn:Func}{q u:Tmp}(h:fn.results=#[.cell q 23,.tmp u])(tmps:Array Value)(w:World)(g:Nat)(k:Int)(x y:ByteArray)(hq:tmps.getD q undef=.pointer (some ⟨g,0,none⟩))(c:w.heap[g]?=some (.cells #[.int .u8 k,.string x,.string y] 23)):
  (results fn tmps).run prog w=.ok (.tuple #[.agg #[.int .u8 k,.string x,.string y],tmps.getD u undef]) w:=by
 have c0:w.cell? ⟨g,0,none⟩=some (.int .u8 k):=cr c;have c1:w.cell? ⟨g,1,none⟩=some (.string x):=cr c;have c2:w.cell? ⟨g,2,none⟩=some (.string y):=cr c;rw[results_cell_tmp h,hq];go_simp
theorem zi{W:World}{g:Nat}{a b c a2 b2 c2:Value}(h:W.heap[g]?=some (.cells #[a,b,c] 23)):
  (((W.setCell ⟨g,0,none⟩ a2).setCell ⟨g,1,none⟩ b2).setCell ⟨g,2,none⟩ c2).heap[g]?=some (.cells #[a2,b2,c2] 23)∧A7 (fun j=>j=g) W (((W.setCell ⟨g,0,none⟩ a2).setCell ⟨g,1,none⟩ b2).setCell ⟨g,2,none⟩ c2):=by
 have h1:=Cu W g 0 _ _ a2 h;have h2:=Cu _ g 1 _ _ b2 h1;exact⟨Cu _ g 2 _ _ c2 h2,(((A7.refl (fun j=>j=g) W).setCell (p:=⟨g,0,none⟩) (.inl rfl) _).setCell (p:=⟨g,1,none⟩) (.inl rfl) _).setCell (p:=⟨g,2,none⟩) (.inl rfl) _⟩
def U0:Obj:=.cells #[.int .u8 0,.string { data:=#[] },.string { data:=#[] }] 23
theorem att(s:T)(w:World)(hs:s.length≤100000)(hm:VK w):Calls prog 7 #[.string (bs s)] w fun e w'=>e=.returned (.tuple #[zg (mD s),.int .i64 (mE s)])∧Bw w w':=by
 have AR:=Hi (AU w U0);have BQ:=Ay w U0;have lh:=aB1 s (w.alloc U0) (by omega) (hm.below AR);rw[BQ] at lh;have SV:=Hi lh;have HX:=Hi (fun(V:World) (hV:Below (w.alloc U0).heap.size (w.alloc U0) V)=>show V.heap[w.heap.size]?=some U0 from(hV.block w.heap.size (by omega)).trans (AQ w U0));have KG:=Hi (show ∀ a∈parts s,a.length≤100000 from fun a ha=>Aw (ayQ ha) hs);obtain⟨w0,Gc⟩:=ex (w.alloc U0);rw[Gc] at AR SV HX BQ;have DX:=Hi BQ;clear BQ lh hm;unfold zg
 go_in
 unfold U0 at Gc;go_wp2_with fail;refine SV.mono ?_;rintro e w2⟨rfl,hta,Ac⟩;have Ak:=Hi (show Bw w0 w2 from by first|exact Ac|(rw[DX.out];exact Ac));have HTA:=Hi hta;clear Ac hta SV Gc;by_cases h3:(parts s).length=3
 ·obtain⟨a,b,c,XI⟩:∃ a b c,parts s=[a,b,c]:=by
   match hp:parts s with
   |[a,b,c]=>exact⟨a,b,c,rfl⟩
   |[]=>rw[hp] at h3;simp at h3
   |[a]=>rw[hp] at h3;simp at h3
   |[a,b]=>rw[hp] at h3;simp at h3
   |a :: b :: c :: d :: l=>rw[hp] at h3;simp at h3
  have Mh:=Hi (fun k x y=>azN (k:=k) (x:=x) (y:=y) XI);have X9:=Hi (azI XI);have nZ:=Hi (KG a (by rw[XI];simp));have HLB:=Hi (KG b (by rw[XI];simp));have o7:=Hi (KG c (by rw[XI];simp))
  have HE:=Hi (fun(V:World) (hV:Bw w2 V)=>show V.cell? ⟨w.heap.size+1,0,none⟩=some (.string (bs a))∧V.cell? ⟨w.heap.size+1,1,none⟩=some (.string (bs b))∧V.cell? ⟨w.heap.size+1,2,none⟩=some (.string (bs c)) from by
   have Oz:=HTA.below hV;rw[XI] at Oz;obtain⟨p0,q0,r0⟩:=Oz 0 (by simp);obtain⟨p1,q1,r1⟩:=Oz 1 (by simp);obtain⟨p2,q2,r2⟩:=Oz 2 (by simp);cases q0;cases q1;cases q2;rw[add_plain] at r0 r1 r2;exact⟨r0,r1,r2⟩)
  rw[XI];have UT:([a,b,c]:List T).length=3:=rfl;rw[UT];clear XI h3 KG HTA;go_wp2_with fail;refine(aoD _).mono ?_;rintro e w3⟨rfl,Ap⟩;have AX:=Hi (Ap.trans ((AU w3 (.cells P7 83)).mono Ap.size));have HW:=Hi (AQ w3 (.cells P7 83));obtain⟨w4,IP⟩:=ex (w3.alloc (.cells P7 83));rw[IP] at AX HW
  have Ue:=Hi (fun(V:World) (hV:Bw w4 V)=>aBz (w:=V) (a:=some ⟨w3.heap.size,0,none⟩) (l:=nE) 5 (fun i hi=>by
   have h:=(hV.block w3.heap.size (Ao HW)).trans HW;refine⟨_,rfl,?_⟩;rw[add_plain,BL _ _ _ _ _ _ h]
   match i,hi with
   |0,_=>rfl
   |1,_=>rfl
   |2,_=>rfl
   |3,_=>rfl
   |4,_=>rfl) a (by decide))
  obtain⟨e0,e1,e2⟩:=HE w4 AX.out;obtain⟨ix,Cs⟩:=ex (WG nE a);have HK:=Hi (awT a);rw[Cs] at Ue HK;have aeF:=Hi (fun(V:World) (hV:Bw w4 V)=>show Calls prog 31 #[.slice (some ⟨w3.heap.size,0,none⟩) 5 5,.string (bs a)] V fun e w'=>e=.returned (.int .i64 ix)∧Bw V w' from Ue V hV);unfold P7 at IP;unfold P7;clear Ap Cs Ue;have EY:=Hi ((Ai w4.heap.size w4).drew);have ap0:=Hi (Ai w4.heap.size w4);go_wp2
  go_region_held3 (fun V=>V.cell? ⟨w.heap.size+1,0,none⟩=some (.string (bs a)))
   (first|exact e0|exact(HE _ (bT AX CZ)).1)
   (first|(go_at_call 31;refine(aeF _ EY).mono ?_;rintro e w5 ⟨rfl,hb⟩;have CZ:=bH EY hb;clear hb))
  clear e0 e1 e2 aeF EY ap0;have wX:=bH AX CZ;obtain⟨e0,e1,e2⟩:=HE w5 wX.out;have Xf:=Hi (ahn b w5 (by have:=HLB.out;omega));have oQ:=Hi (fun W=>ahn c W (by have:=o7.out;omega));obtain⟨ob,V4⟩:=ex ((L9 b).isSome);obtain⟨oc,kV⟩:=ex ((L9 c).isSome);rw[V4] at Xf;rw[kV] at oQ;have y8:=Hi V4;have y9:=Hi kV;obtain⟨gb,NR⟩:=ex (UB b);obtain⟨gc,hgc⟩:=ex (UB c);rw[NR] at Xf;rw[hgc] at oQ;have nW:=Hi NR;have HGC:=Hi hgc;clear V4 kV NR hgc;go_wp2_with fail;refine Xf.mono ?_;rintro e w6⟨rfl,CS⟩;have EC:=bH wX CS;clear e0 e1 e2 CS;obtain⟨e0,e1,e2⟩:=HE w6 EC.out;go_wp2_with fail;refine(oQ w6).mono ?_;rintro e w7⟨rfl,FK⟩;have Eo:=Hi (Ak.trans ((bT EC FK).mono Ak.size));clear e0 e1 e2 FK;have hx:=HX w7 Eo.out;unfold U0 at hx;have c0:w7.cell? ⟨w.heap.size,0,none⟩=some (.int .u8 0):=cr hx;have c1:w7.cell? ⟨w.heap.size,1,none⟩=some (.string { data:=#[] }):=cr hx;have c2:w7.cell? ⟨w.heap.size,2,none⟩=some (.string { data:=#[] }):=cr hx;have f0:=Dt _ _ 0 _ _ hx;have f1:=Dt _ _ 1 _ _ hx;have f2:=Dt _ _ 2 _ _ hx;have oZ:=Hi hx;have nT:=bH AR Eo;clear hx IP UT;by_cases hok:(∃ k:Nat,kindOf a=some k∧ix=(k:Int)∧1≤k∧k≤4)∧ob=true∧oc=true
  ·obtain⟨⟨k,F4,rfl,XZ,hk4⟩,rfl,rfl⟩:=hok;obtain⟨x,Em⟩:=Lh.1 y8.out;obtain⟨y,O1⟩:=Lh.1 y9.out;have HR:=Hi (show Fv s=some (k,gb,gc) from by rw[Mh k x y F4 Em O1,←nW.out,←HGC.out,ahY Em,ahY O1]);have hlt:¬ (k:Int) < 1:=(by omega);have Tq:IntKind.u8.wrap (k:Int)=(k:Int):=(by rw[show IntKind.u8.wrap (k:Int)=(k:Int) % 256 by simp[IntKind.wrap,IntKind.bits,IntKind.signed]];omega);have HZ:=Hi (zi (a2:=.int .u8 (k:Int)) (b2:=.string (bs gb)) (c2:=.string (bs gc)) oZ);clear F4 Em O1;go_wp2_with fail;refine EU (v:=.tuple #[.agg #[.int .u8 (k:Int),.string (bs gb),.string (bs gc)],.int .i64 0]) (ad2 results7 _ _ w.heap.size _ _ _ rfl HZ.1) rfl ⟨?_,Cy nT HZ.2 (fun i e=>Nat.le_of_eq e.symm) nT.size⟩;unfold mD mE;rw[HR.out];rfl
  ·have HZ:=Hi (zi (a2:=.int .u8 0) (b2:=.string { data:=#[] }) (c2:=.string { data:=#[] }) oZ)
   have HR:=Hi (show Fv s=none from X9 (by
    rcases HK.out with⟨h1,_⟩|h1
    ·exact .inl h1
    ·by_cases h2:ob=true
     ·refine .inr (.inr ?_);have h3:¬ oc=true:=fun h3=>hok ⟨h1,h2,h3⟩
      rw[←y9.out] at h3;simpa using h3
     ·refine .inr (.inl ?_);rw[←y8.out] at h2;simpa using h2))
   have DF:ix < 1∨(¬ ix < 1∧ob=false)∨(¬ ix < 1∧ob=true∧oc=false):=by
    rcases HK.out with⟨_,h1⟩|h1
    ·exact .inl h1
    ·have h4:¬ ix < 1:=(by obtain⟨k,_,h5,h6,_⟩:=h1;omega);cases ob with
     |false=>exact .inr (.inl ⟨h4,rfl⟩)
     |true=>exact .inr (.inr ⟨h4,rfl,by cases oc with|false=>rfl|true=>exact absurd ⟨h1,rfl,rfl⟩ hok⟩)
   clear hok HK y8 y9 nW HGC Xf oQ;rcases DF with hlt|⟨hlt,rfl⟩|⟨hlt,rfl,rfl⟩
   all_goals
    go_wp2_with fail;refine EU (v:=.tuple #[.agg #[.int .u8 0,.string { data:=#[] },.string { data:=#[] }],.int .i64 7]) (ad2 results7 _ _ w.heap.size 0 _ _ rfl HZ.1) rfl ⟨?_,Cy nT HZ.2 (fun i e=>Nat.le_of_eq e.symm) nT.size⟩;unfold mD mE;rw[HR.out];rfl
 ·have hne:(((parts s).length:Int) == 3)=false:=FQ.2 (by omega);have hx:=HX w2 Ak.out;unfold U0 at hx;have c0:w2.cell? ⟨w.heap.size,0,none⟩=some (.int .u8 0):=cr hx;have c1:w2.cell? ⟨w.heap.size,1,none⟩=some (.string { data:=#[] }):=cr hx;have c2:w2.cell? ⟨w.heap.size,2,none⟩=some (.string { data:=#[] }):=cr hx;have f0:=Dt _ _ 0 _ _ hx;have f1:=Dt _ _ 1 _ _ hx;have f2:=Dt _ _ 2 _ _ hx;have HZ:=Hi (zi (a2:=.int .u8 0) (b2:=.string { data:=#[] }) (c2:=.string { data:=#[] }) hx);have HR:=Hi (azG h3);have aeh:=bH AR Ak;clear h3 hx;generalize parts s=L at*;go_wp2_with fail;refine EU (v:=.tuple #[.agg #[.int .u8 0,.string { data:=#[] },.string { data:=#[] }],.int .i64 7]) (ad2 results7 _ _ w.heap.size 0 _ _ rfl HZ.1) rfl ⟨?_,Cy aeh HZ.2 (fun i e=>Nat.le_of_eq e.symm) aeh.size⟩;unfold mD mE;rw[HR.out];rfl
end EX
section
open Go.ChangeShapes Go.WideShapes Go.ChangeAt
variable {H:Type}{enc:TypeId×Value→H}
def zX:List (String×DataW Unit):=[("unicode/utf8.acceptRanges",Rows.laid_unicode_utf8_acceptRanges),("unicode/utf8.first",Rows.laid_unicode_utf8_first)]
theorem asI(os:Os)(args:Array Value):laidMetH prog zX ((World.laidAll prog os zX).forCall (fun _ _=>0) ⟨#[],args,[]⟩).memory:=by
 rw[MakeChecks.laidMetH_plain _ _ _ (by kernel_rfl)];exact laidMet_laidAll _ (by kernel_rfl) (by kernel_rfl)
theorem azR{a:Assume}{C:Checked}{os:Os}{f:FuncId}{fn:Func}{s:ChangeSpec}{conds:List PathCond}{apart fresh handsOn again:Bool}{X:World→Array Value→Prop}
  (own:ownKnob C.prog.godebug=none)(started:os.Started)(noInit:C.prog.inits.idxOf? f=none)(hfn:C.prog.funcs[f]?=some fn)
  (witness:∃ (w:World) (tape:Tape) (i:Input),w.os=os∧(w.forCall tape i).Shaped C.prog∧i.vars=[]∧Input.okWide C.prog (w.forCall tape i) .any w.heap.size f i∧
   ((s.pre enc C.prog fn conds apart (w.forCall tape i).memory i.args∧X (w.forCall tape i).memory i.args)∧sizedMet enc C.prog fn (OpenSpec.ofChange s) apart (w.forCall tape i).memory i.args)∧a.holds C.prog (lone (Frame.enter C.prog f i.args .normal) [] (w.forCall tape i)))
  (contract:∀ (W:World) (base:Nat) (args:Array Value) (ds gs:List (DataW H)) (before:List MemPlace),
   (∀ (j:Nat) t v,fn.params[j]?=some t→args[j]?=some v→Value.okWide C.prog W .any base t v)→
   DataW.Whole enc C.prog fn.params.toList s.vars apart W args.toList ds gs before→
   (DataW.weightsEach C.prog (fn.params.toList++s.plain.varTypes C.prog) (ds++gs)).all (· ≤reachBytes)=true→W.ShapedOpen C.prog→
   Calls C.prog f args W fun e W'=>∃ v,e=.returned v∧s.post enc C.prog fn apart fresh handsOn again W args v W'):
  ReturnsInHanded a C os f .any (fun w args=>(s.pre enc C.prog fn conds apart w args∧X w args)∧sizedMet enc C.prog fn (OpenSpec.ofChange s) apart w args) (s.post enc C.prog fn apart fresh handsOn again):=by
 refine returnsInHanded_of_calls own started noInit witness ?_;intro w tape i _ hsh _ hok awc _;obtain⟨_,_,_,fn2,h2,_,_,_,_,RY⟩:=hok;obtain rfl:fn2=fn:=GQ (h2.symm.trans hfn);obtain⟨⟨⟨ds,gs,before,hw,_⟩,_⟩,hz⟩:=awc;refine(contract (w.forCall tape i) w.heap.size i.args ds gs before RY (DataW.Whole.of_heap (w':=w.forCall tape i) (by rfl) hw) (hz.weights hw) hsh).mono fun e W' h=>?_
 obtain⟨v,rfl,hp⟩:=h;exact ChangeSpec.post_blind hp
theorem axS{w:World}(h:w.ShapedOpen prog):EX.VK w:=
 cell_of_shapedOpen_int (t:=3) (zero:=#[.int .i64 0]) h (O9 (by kernel_rfl)) (by kernel_rfl) (by kernel_rfl) (by kernel_rfl) (by kernel_rfl) underlying3
end
namespace EX
open Go.Maps Go.Shelf
open Av Ag Ar Bt Kp BI Hex BH Al Mem Ch
attribute [local go_sem] O8
attribute [local go_sem ↓] cz
def Lx(K:Kind)(A:M)(ks:List T):List T:=ks.filter fun t=>((fileOf K A t).getD []).length == 0
theorem afJ(K:Kind)(A:M)(ks:List T)(t:T):Lx K A (ks++[t])=Lx K A ks++if((fileOf K A t).getD []).length=0 then[t] else[]:=by
 unfold Lx;rw[M7]
 congr 1
 by_cases h:((fileOf K A t).getD []).length=0
 ·rw[Ad h];simp[h]
 ·rw[Ab h];simp[h]
theorem afK{K:Kind}{A:M}(hu:Up A):Lx K A (Ic K A)=CR K A:=by
 unfold Lx Ic CR
 suffices ∀ L:M,(∀ p∈L,p∈A)→(((L.map (·.1)).filter K.ours).filter fun t=>((fileOf K A t).getD []).length == 0)=(L.filter fun p=>K.ours p.1 && (K.CB p.1 p.2).isNone).map (·.1) from this A fun p h=>h
 intro L
 induction L with
 |nil=>exact fun _=>rfl
 |cons p L ih=>
  intro h;have e:(fileOf K A p.1)=(K.CB p.1 p.2):=by
   unfold fileOf;rw[get_mem hu (show(p.1,p.2)∈A from h p (by simp))];rfl
  have ih:=ih fun x hx=>h x (F9 _ hx)
  rw[Ca,List.filter_cons,List.filter_cons];by_cases ho:K.ours p.1=true
  ·rw[Ad ho,List.filter_cons,e,ih,ho];cases hr:K.CB p.1 p.2 with
   |none=>simp
   |some l=>
    have hl:=(Nr hr).1;have:¬ l.length=0:=fun e=>hl (Ld.1 e)
    simp[this]
  ·rw[Ab ho,ih];simp[ho]
theorem afL(K:Kind)(A:M)(ks:List T):(Lx K A ks).length≤ks.length:=M8 _ _
theorem alX(K:Kind)(A:M):(Ic K A).length≤A.length:=by
 unfold Ic;have:=M8 K.ours (A.map (·.1));rwa[BP] at this
def JB(K:Kind)(A:M)(w:World)(oc B:Nat)(ks:List T)(W:World):Prop:=
 ∃ v,Eu 9 61 1 w oc B W (Lx K A ks).length (strCells (Lx K A ks)) v∧(ks=[]→v=.slice none 0 0)
theorem fD(K:Kind)(A:M)(w:World)(oc:Nat):Xi w oc (JB K A w oc) where
 below:=fun B ks W W' ⟨v,h1,h2⟩ hb=>⟨v,h1.below hb,h2⟩
 raise:=fun B B' W ⟨v,h1,h2⟩ hb hs=>by
  have e:=h2 rfl;subst e;have e2:Lx K A []=[]:=rfl;rw[e2,Sm] at h1;exact⟨_,by rw[e2,Sm];exact Eu.raise h1 hb hs,fun _=>rfl⟩
 put:=fun B ks W k o o' ⟨v,h1,h2⟩ ho hc hk=>⟨v,h1.put ho hc hk,h2⟩
theorem aoI{α:Type}{P:Program}{n:Nat}{g:Operand}{q1 q2 s1 s2:Nat}{assign body:Code}{Q:Exit→Act→World→Prop}{a:Act}{w:World}(h1:1≤n)
  {gf:Nat}{lb:Array Value}(hg:a.eval g=.func (.func gf) #[] lb)(eg:∀ args w,(callFunc gf args).run P w=.ok (.enter gf args) w){e1 e2:α→Value}
  {Ia:List α→World→Prop}{Iy:List α→α→World→Prop}{S:List α→Prop}(UF:∀ xs,MV w.heap.size (Ia xs))(Zo:∀ xs x,MV w.heap.size (Iy xs x))
  (LV:Xk (n -1) P gf lb (fun x=>#[e1 x,e2 x]) Ia Iy S w)(h0:Ia [] w)
  (Zt:∀ (l:Nat) (x:α) (W:World) (K:Act→World→Prop),K { tmps:=(((a.tmps.setIfInBounds q1 (e1 x)).setIfInBounds q2 (e2 x)).setIfInBounds s1 (e1 x)).setIfInBounds s2 (e2 x),defers:=[] } W→
   assign.wpIn (Fence.wide.inRound l) (n -1 -1) P (Exit.then K (fun _ _ _=>False)) { tmps:=(a.tmps.setIfInBounds q1 (e1 x)).setIfInBounds q2 (e2 x),defers:=[] } W)
  (Zu:∀ (l:Nat) (pre:List α) (x:α) (W:World),Iy pre x W→body.wpIn (Fence.wide.inRound l) (n -1 -1) P (vU Ia (pre++[x]) W) { tmps:=(((a.tmps.setIfInBounds q1 (e1 x)).setIfInBounds q2 (e2 x)).setIfInBounds s1 (e1 x)).setIfInBounds s2 (e2 x),defers:=[] } W)
  (RJ:∀ (D:Nat) (xs:List α) (W:World),w.heap.size≤D→S xs→Ia xs W→W.heap[D]?=some (.deferred (some []))→Q .normal { a with defers:={ target:=.collected D,args:=#[] } :: a.defers } W):
  (Code.rangeFunc g #[q1,q2] assign body).wpIn Fence.wide n P Q a w:=
 wL h1 hg eg (fun _=>rfl) UF Zo LV h0 (fun x=>{ tmps:=(((a.tmps.setIfInBounds q1 (e1 x)).setIfInBounds q2 (e2 x)).setIfInBounds s1 (e1 x)).setIfInBounds s2 (e2 x),defers:=[] }) (fun l x W K hK=>by
  have hz:(#[q1,q2].zip #[e1 x,e2 x])=#[(q1,e1 x),(q2,e2 x)]:=by simp
  rw[hz];exact Zt l x W K hK) Zu RJ
theorem afM{K:Kind}{A:M}{w W:World}{Bx:Nat}{pv:Value}{ty:TypeId}{pre:List Gy}{x:Gy}{v:Value}(hO:Eu 9 61 1 w w.heap.size x.B W (Lx K A (pre.map (·.name))).length (strCells (Lx K A (pre.map (·.name)))) v)
  (hS:M9 w w.heap.size Bx x.B pv ty x.q x.c (A.map (·.1)) W)(hG:∀ z∈pre,z.B=x.B∧z.q=x.q∧z.c=x.c)(hT:∃ ts,pre.map (·.name)++x.name :: ts=Ic K A)(hl:(Lx K A (pre.map (·.name))).length≤1000000)(hz:((fileOf K A x.name).getD []).length=0):
  ∃ q7 n7 c7 w7,(VQ #[61,61] 61 #[v,.slice (some ⟨W.heap.size,0,none⟩) 1 1]).run prog (W.alloc (.cells #[.string (bs x.name)] 9))=.ok (.slice q7 n7 c7) w7∧
   (W.alloc (.cells #[.string (bs x.name)] 9)).cell? ⟨w.heap.size,0,none⟩=some v∧w7.cell? ⟨w.heap.size,0,none⟩=some v∧w7.frozen? ⟨w.heap.size,0,none⟩=false∧
   Oa w w.heap.size Bx pv ty K A (JB K A w w.heap.size) (pre++[x]) (w7.setCell ⟨w.heap.size,0,none⟩ (.slice q7 n7 c7))∧KeepsOthers W (w7.setCell ⟨w.heap.size,0,none⟩ (.slice q7 n7 c7)):=by
 have hb:=AU W (.cells #[.string (bs x.name)] 9);have hn:=AQ W (.cells #[.string (bs x.name)] 9);generalize W.alloc (.cells #[.string (bs x.name)] 9)=W1 at*;have dH:=hO.below hb
 obtain⟨v7,w7,hr,ho,hg⟩:=adz (W:=W1) (q:=some ⟨W.heap.size,0,none⟩) (cap:=1) (k:=[x.name]) dH.row (fun i hi=>by
  obtain rfl:i=0:=by simpa using hi
  exact⟨_,rfl,by rw[add_plain,BL _ _ _ _ _ _ hn];rfl⟩) (fun e=>by cases e) (by simp;omega) dH.size
 obtain⟨q7,c7,rfl⟩:=Bo ho;have NN:=(hg.block w.heap.size (Ao dH.box) (fun e=>(dH.ne e.symm).1 rfl)).trans dH.box;have dK:=hO.add hb hg ho;refine⟨q7,_,c7,w7,hr,cr dH.box,cr NN,Dt w7 w.heap.size 0 _ _ NN,?_,hO.keeps hb hg _⟩;refine je hS hG hT (hO.turned hb hg _) ⟨.slice q7 ((Lx K A (pre.map (·.name))).length+[x.name].length) c7,?_,fun e=>by simp at e⟩;rw[afJ,Ad hz,AA,show ∀ a b,strCells (a++b)=strCells a++strCells b from fun a b=>by unfold strCells;rw[CK]];exact dK
theorem afP{K:Kind}{A:M}{w W:World}{Bx:Nat}{pv:Value}{ty:TypeId}{pre:List Gy}{x:Gy}{v:Value}(hO:Eu 9 61 1 w w.heap.size x.B W (Lx K A (pre.map (·.name))).length (strCells (Lx K A (pre.map (·.name)))) v)
  (hS:M9 w w.heap.size Bx x.B pv ty x.q x.c (A.map (·.1)) W)(hG:∀ z∈pre,z.B=x.B∧z.q=x.q∧z.c=x.c)(hT:∃ ts,pre.map (·.name)++x.name :: ts=Ic K A)(hz:¬ ((fileOf K A x.name).getD []).length=0):
  Oa w w.heap.size Bx pv ty K A (JB K A w w.heap.size) (pre++[x]) W:=
 je hS hG hT (A7.refl _ _) ⟨v,by rw[afJ,Ab hz,Ea];exact hO,fun e=>by simp at e⟩
theorem axU{w:World}{p y:Nat}{A:M}(hm:Gi w p y)(hf:He w y A):
  Calls prog 150 #[.pointer (some ⟨p,0,none⟩)] w fun e w'=>∃ v,e=.returned v∧Ar.Bq w' w.heap.size v (CR Ah A)∧Bw w w':=by
 refine(Dr (n:=3)).1 ?_;have NW:prog.follows .mixedOrders=true:=by kernel_rfl
 have HM:=Hi hm;have HF:=Hi hf;have HE:=Hi (afK (K:=Ah) hf.up);clear hm hf;refine callsIn_of_wp_marks func150 rfl trivial ?_ rfl;simp only[ntmps150,Jt,BG,Ht,Nat.reduceAdd,Nat.reduceSub,La,Lb,Lf,Lc,Ei,Gt]
 gi_wp2
 have Bg:=AU w (.cells #[.slice none 0 0] 61);have Jn:Eu 9 61 1 w w.heap.size (w.heap.size+1) (w.alloc (.cells #[.slice none 0 0] 61)) 0 [] (.slice none 0 0):=⟨Bg,Ae _,Nat.lt_succ_self _,by rw[Ay];exact Ae _,AQ w _,DZ _ _ _ _⟩;have Pm:=Hi Jn;refine⟨trivial,(Dr.2 (alC p _)).mono ?_⟩;rintro e w2⟨rfl,LX⟩;subst LX
 gi_wp2
 have ED:=Hi (AQ (w.alloc (.cells #[.slice none 0 0] 61)) (.cells #[.pointer (some ⟨p,0,none⟩)] 43));have Ac:=AU (w.alloc (.cells #[.slice none 0 0] 61)) (.cells #[.pointer (some ⟨p,0,none⟩)] 43);have D5:=Hi (Pm.below Ac);have DX:=Hi (Ay w (.cells #[.slice none 0 0] 61));obtain⟨Bx,Iq⟩:=ex ((w.alloc (.cells #[.slice none 0 0] 61)).heap.size);rw[Iq] at ED DX;rw[show w.heap.size+1=Bx from DX.symm];obtain⟨U,hU⟩:=ex ((w.alloc (.cells #[.slice none 0 0] 61)).alloc (.cells #[.pointer (some ⟨p,0,none⟩)] 43));rw[hU] at ED D5 ⊢;clear Bg Ac Jn Pm Iq hU;refine aoI (s1:=3) (s2:=4) (by omega) (gf:=198) (lb:=#[.pointer (some ⟨Bx,0,none⟩)]) rfl (enters_of func198 (by kernel_rfl) rfl) (e1:=fun x:Gy=>.string (bs x.name)) (e2:=fun x:Gy=>x.row)
  (Ia:=Oa w w.heap.size Bx (.pointer (some ⟨p,0,none⟩)) 43 Ah A (JB Ah A w w.heap.size)) (Iy:=U3 w w.heap.size Bx (.pointer (some ⟨p,0,none⟩)) 43 Ah A (JB Ah A w w.heap.size))
  (fun xs=>jb (fD _ _ _ _) D5.AO.size xs) (fun xs x=>jd (fD _ _ _ _) D5.AO.size xs x)
  (alB 2 (by omega) HM HF w.heap.size Bx (fD _ _ _ _) U) (.inl ⟨rfl,D5.AO,Ae _,by have:=DX.out;omega,ED,w.heap.size+1,D5.size,.slice none 0 0,by rw[show Lx Ah A []=[] from rfl,Sm];exact D5.out,fun _=>rfl⟩)
  ?assign ?body ?done
 case assign=>
  intro l x W K hK;simp only[np] at hK ⊢
  gi_wp2
  exact hK
 case body=>
  intro l2 pre x W hy;obtain⟨hS,hG,hT,⟨v,hO,-⟩,⟨q2,c2,FN,-,-,-⟩⟩:=hy;have hlen:(Lx Ah A (pre.map (·.name))).length≤1000000:=by
   obtain⟨ts,J3⟩:=hT;have h1:=alX Ah A;have h2:=afL Ah A (pre.map (·.name));have h3:=HF.len;rw[←J3,AA] at h1;omega
  have cb:W.cell? ⟨w.heap.size,0,none⟩=some v:=cr hO.box;simp only[np];rw[FN];by_cases hz:((fileOf Ah A x.name).getD []).length=0
  ·obtain⟨q7,n7,c7,w7,QT,GH,XN,ZA,FE,Y0⟩:=afM hO hS hG hT hlen hz;have Di:=Hi FE;have Vv:=Hi Y0;have hzi:((((fileOf Ah A x.name).getD []).length:Int) == 0)=true:=(by rw[hz];rfl);obtain⟨qv,cv,rfl⟩:=Bo hO.row;clear hS hG hT hO FN hlen FE Y0 hz;generalize ((fileOf Ah A x.name).getD []).length=fn at*;generalize x.name=nm at*
   gi_wp2
   exact⟨Vv,Di⟩
  ·have Di:=Hi (afP hO hS hG hT hz);have hzi:((((fileOf Ah A x.name).getD []).length:Int) == 0)=false:=FQ.2 (fun e=>hz (by omega));clear hS hG hT hO FN hlen hz;generalize ((fileOf Ah A x.name).getD []).length=fn at*;generalize x.name=nm at*
   gi_wp2
   exact⟨KeepsOthers.refl _,Di⟩
 case done=>
  intro D xs W hD hS hI Dv;obtain⟨B,v,hO,-⟩:=jc hI;rw[hS,HE.out] at hO;have HO:=Hi hO;have SN:=Hi Dv;have HD:=Hi (show w.heap.size≤D from Aw (Aw (Nat.le_succ _) D5.size) hD);have cb:W.cell? ⟨w.heap.size,0,none⟩=some v:=cr hO.box;have hf:=Dt W w.heap.size 0 _ _ hO.box;obtain⟨q,c,rfl⟩:=Bo hO.row;obtain⟨v6,ah⟩:=ex (Value.slice q (CR Ah A).length c);have Kj:=(A7.refl (fun k=>k=w.heap.size) W).setCell (p:=⟨w.heap.size,0,none⟩) (.inl rfl) v6;have Tn:=Cu W w.heap.size 0 _ _ v6 hO.box
  have IW:=Hi ((Kj.block D (Dq.1 Dv).1 (fun e=>by
   rw[e,hO.box] at Dv;cases Dv)).trans Dv)
  have Kh:=Bv (EA hO.row (Nat.le_of_lt (Nat.lt_of_le_of_lt hO.low hO.lt))) Kj (fun k hk e=>(hO.ne hk).1 e);have EC:=Hi (hO.AO.setCell (p:=⟨w.heap.size,0,none⟩) (Ae _) v6);have Hy:=Hi Kh
  have Vr:=Hi (show((W.setCell ⟨w.heap.size,0,none⟩ v6).putObj D (.deferred none)).cell? ⟨w.heap.size,0,none⟩=some v6 from by
   rw[BL _ _ _ _ _ _ (Si Tn IW rfl)];rfl)
  rw[ah] at cb Hy;clear hS hI Dv hD hO Kj Tn Kh;have tN:v6.oneCell'=true:=by rw[←ah];rfl
  subst ah
  gi_wp2
  refine⟨by simp,.inl ⟨_,_,rfl,run_takeDeferred IW,?_⟩⟩;have hu:A7 (fun i=>i=D) (W.setCell ⟨w.heap.size,0,none⟩ (.slice q (CR Ah A).length c)) ((W.setCell ⟨w.heap.size,0,none⟩ (.slice q (CR Ah A).length c)).putObj D (.deferred none)):=A7.of_grownBy (F:=fun i=>i=D) (grownBy_putObj' _ D (.deferred none)) (fun i e=>by cases e;rfl);refine⟨_,(by simp[results,results150,go_sem,Vr.out]),.slice q (CR Ah A).length c,rfl,?_,Cy EC hu (fun i e=>by rw[e];exact HD.out) EC.size⟩
  exact Bv Hy hu (fun k hk e=>by
   obtain⟨cs,fz,h2⟩:=Cn Hy hk;rw[e,IW.out] at h2;cases h2)
theorem arY{w:World}{p y:Nat}{A:M}(hm:EN w p y)(hf:He w y A):
  Calls prog 151 #[.pointer (some ⟨p,0,none⟩)] w fun e w'=>∃ v,e=.returned v∧Ar.Bq w' w.heap.size v (CR Aa A)∧Bw w w':=by
 refine(Dr (n:=3)).1 ?_;have NW:prog.follows .mixedOrders=true:=by kernel_rfl
 have HM:=Hi hm;have HF:=Hi hf;have HE:=Hi (afK (K:=Aa) hf.up);clear hm hf;refine callsIn_of_wp_marks func151 rfl trivial ?_ rfl;simp only[ntmps151,Jt,BG,Ht,Nat.reduceAdd,Nat.reduceSub,La,Lb,Lf,Lc,Ei,Gt]
 gi_wp2
 have Bg:=AU w (.cells #[.slice none 0 0] 61);have Jn:Eu 9 61 1 w w.heap.size (w.heap.size+1) (w.alloc (.cells #[.slice none 0 0] 61)) 0 [] (.slice none 0 0):=⟨Bg,Ae _,Nat.lt_succ_self _,by rw[Ay];exact Ae _,AQ w _,DZ _ _ _ _⟩;have Pm:=Hi Jn;refine⟨trivial,(Dr.2 (zI p _)).mono ?_⟩;rintro e w2⟨rfl,LX⟩;subst LX
 gi_wp2
 have ED:=Hi (AQ (w.alloc (.cells #[.slice none 0 0] 61)) (.cells #[.pointer (some ⟨p,0,none⟩)] 44));have Ac:=AU (w.alloc (.cells #[.slice none 0 0] 61)) (.cells #[.pointer (some ⟨p,0,none⟩)] 44);have D5:=Hi (Pm.below Ac);have DX:=Hi (Ay w (.cells #[.slice none 0 0] 61));obtain⟨Bx,Iq⟩:=ex ((w.alloc (.cells #[.slice none 0 0] 61)).heap.size);rw[Iq] at ED DX;rw[show w.heap.size+1=Bx from DX.symm];obtain⟨U,hU⟩:=ex ((w.alloc (.cells #[.slice none 0 0] 61)).alloc (.cells #[.pointer (some ⟨p,0,none⟩)] 44));rw[hU] at ED D5 ⊢;clear Bg Ac Jn Pm Iq hU;refine aoI (s1:=3) (s2:=4) (by omega) (gf:=201) (lb:=#[.pointer (some ⟨Bx,0,none⟩)]) rfl (enters_of func201 (by kernel_rfl) rfl) (e1:=fun x:Gy=>.string (bs x.name)) (e2:=fun x:Gy=>x.row)
  (Ia:=Oa w w.heap.size Bx (.pointer (some ⟨p,0,none⟩)) 44 Aa A (JB Aa A w w.heap.size)) (Iy:=U3 w w.heap.size Bx (.pointer (some ⟨p,0,none⟩)) 44 Aa A (JB Aa A w w.heap.size))
  (fun xs=>jb (fD _ _ _ _) D5.AO.size xs) (fun xs x=>jd (fD _ _ _ _) D5.AO.size xs x)
  (zH 2 (by omega) HM HF w.heap.size Bx (fD _ _ _ _) U) (.inl ⟨rfl,D5.AO,Ae _,by have:=DX.out;omega,ED,w.heap.size+1,D5.size,.slice none 0 0,by rw[show Lx Aa A []=[] from rfl,Sm];exact D5.out,fun _=>rfl⟩)
  ?assign ?body ?done
 case assign=>
  intro l x W K hK;simp only[np] at hK ⊢
  gi_wp2
  exact hK
 case body=>
  intro l2 pre x W hy;obtain⟨hS,hG,hT,⟨v,hO,-⟩,⟨q2,c2,FN,-,-,-⟩⟩:=hy;have hlen:(Lx Aa A (pre.map (·.name))).length≤1000000:=by
   obtain⟨ts,J3⟩:=hT;have h1:=alX Aa A;have h2:=afL Aa A (pre.map (·.name));have h3:=HF.len;rw[←J3,AA] at h1;omega
  have cb:W.cell? ⟨w.heap.size,0,none⟩=some v:=cr hO.box;simp only[np];rw[FN];by_cases hz:((fileOf Aa A x.name).getD []).length=0
  ·obtain⟨q7,n7,c7,w7,QT,GH,XN,ZA,FE,Y0⟩:=afM hO hS hG hT hlen hz;have Di:=Hi FE;have Vv:=Hi Y0;have hzi:((((fileOf Aa A x.name).getD []).length:Int) == 0)=true:=(by rw[hz];rfl);obtain⟨qv,cv,rfl⟩:=Bo hO.row;clear hS hG hT hO FN hlen FE Y0 hz;generalize ((fileOf Aa A x.name).getD []).length=fn at*;generalize x.name=nm at*
   gi_wp2
   exact⟨Vv,Di⟩
  ·have Di:=Hi (afP hO hS hG hT hz);have hzi:((((fileOf Aa A x.name).getD []).length:Int) == 0)=false:=FQ.2 (fun e=>hz (by omega));clear hS hG hT hO FN hlen hz;generalize ((fileOf Aa A x.name).getD []).length=fn at*;generalize x.name=nm at*
   gi_wp2
   exact⟨KeepsOthers.refl _,Di⟩
 case done=>
  intro D xs W hD hS hI Dv;obtain⟨B,v,hO,-⟩:=jc hI;rw[hS,HE.out] at hO;have HO:=Hi hO;have SN:=Hi Dv;have HD:=Hi (show w.heap.size≤D from Aw (Aw (Nat.le_succ _) D5.size) hD);have cb:W.cell? ⟨w.heap.size,0,none⟩=some v:=cr hO.box;have hf:=Dt W w.heap.size 0 _ _ hO.box;obtain⟨q,c,rfl⟩:=Bo hO.row;obtain⟨v6,ah⟩:=ex (Value.slice q (CR Aa A).length c);have Kj:=(A7.refl (fun k=>k=w.heap.size) W).setCell (p:=⟨w.heap.size,0,none⟩) (.inl rfl) v6;have Tn:=Cu W w.heap.size 0 _ _ v6 hO.box
  have IW:=Hi ((Kj.block D (Dq.1 Dv).1 (fun e=>by
   rw[e,hO.box] at Dv;cases Dv)).trans Dv)
  have Kh:=Bv (EA hO.row (Nat.le_of_lt (Nat.lt_of_le_of_lt hO.low hO.lt))) Kj (fun k hk e=>(hO.ne hk).1 e);have EC:=Hi (hO.AO.setCell (p:=⟨w.heap.size,0,none⟩) (Ae _) v6);have Hy:=Hi Kh
  have Vr:=Hi (show((W.setCell ⟨w.heap.size,0,none⟩ v6).putObj D (.deferred none)).cell? ⟨w.heap.size,0,none⟩=some v6 from by
   rw[BL _ _ _ _ _ _ (Si Tn IW rfl)];rfl)
  rw[ah] at cb Hy;clear hS hI Dv hD hO Kj Tn Kh;have tN:v6.oneCell'=true:=by rw[←ah];rfl
  subst ah
  gi_wp2
  refine⟨by simp,.inl ⟨_,_,rfl,run_takeDeferred IW,?_⟩⟩;have hu:A7 (fun i=>i=D) (W.setCell ⟨w.heap.size,0,none⟩ (.slice q (CR Aa A).length c)) ((W.setCell ⟨w.heap.size,0,none⟩ (.slice q (CR Aa A).length c)).putObj D (.deferred none)):=A7.of_grownBy (F:=fun i=>i=D) (grownBy_putObj' _ D (.deferred none)) (fun i e=>by cases e;rfl);refine⟨_,(by simp[results,results151,go_sem,Vr.out]),.slice q (CR Aa A).length c,rfl,?_,Cy EC hu (fun i e=>by rw[e];exact HD.out) EC.size⟩
  exact Bv Hy hu (fun k hk e=>by
   obtain⟨cs,fz,h2⟩:=Cn Hy hk;rw[e,IW.out] at h2;cases h2)
end EX
namespace Ch
open Go.Maps
open Av Ag Ar Bt Kp BI Hex BH Al Mem
theorem arb(kb:Nat)(k:T)(p:T×T)(W:World)(hk:W.cell? ⟨kb,0,none⟩=some (.string (bs k))):
  Calls prog 192 #[.agg #[.string (bs p.1),.string (bs p.2)],.pointer (some ⟨kb,0,none⟩)] W fun e W'=>e=.returned (.bool (p.1 == k))∧Bw W W':=by
 have RO:=Cr hk
 go_in
 go_wp2;go_ret;exact⟨by simp,AU W _⟩
theorem ara(kb:Nat)(k:T):gY (fun W=>W.cell? ⟨kb,0,none⟩=some (.string (bs k))) (.func (.func 192) #[] #[.pointer (some ⟨kb,0,none⟩)]) (fun p=>p.1 == k):=
 ⟨_,_,_,rfl,enters_of func192 (by kernel_rfl) rfl,fun W p h=>arb kb k p W h⟩
theorem zk{w:World}{q:Option Addr}{cap:Nat}{l:M}(h:Bf w q l)(hq:q=none→cap=0)(hl:l.length≤1000000)(k:T):
  Calls prog 109 #[.slice q l.length cap,.string (bs k)] w fun e w'=>∃ v,e=.returned v∧BJ w' w.heap.size v (l.filter fun p=>!(p.1 == k))∧Bw w w':=by
 have Ce:=AU w (.cells #[.string (bs k)] 9);have hn:=AQ w (.cells #[.string (bs k)] 9);have Aq:=Hi Ce;have HN:=Hi hn;have HC:=Hi (mh (h.below Ce) hq (by omega));have BQ:=Ay w (.cells #[.string (bs k)] 9);clear h Ce hn
 go_in
 go_wp2_with fail;refine HC.mono ?_;rintro e w1⟨v,rfl,hr,hb⟩;obtain⟨q1,c1,rfl,-,-⟩:=FH hr;have F4:=(hb.block _ (Ao HN)).trans HN.out
 have HD:=Hi (amg hr (ara w.heap.size k) (fun W hW=>by
  have h1:=(hW.block _ (Ao F4) (fun e=>by
   have:=E9 hr e;rw[BQ] at this;omega)).trans F4
  rw[BL _ _ _ _ _ _ h1];rfl) hl)
 have HR:=Hi hr;have HB:=Hi hb;clear hr hb F4;go_wp2_with fail;refine HD.mono ?_;rintro e w2⟨v2,rfl,DK,Et,-⟩;obtain⟨q2,c2,rfl,-,-⟩:=FH DK;have Ak:=Hi (Cy (bT Aq HB) Et (fun i e=>Aw Aq.size (E9 HR e)) (bT Aq HB).size);have BX:=Hi (EA DK Aq.size);clear DK Et;go_wp2;go_ret;exact⟨_,rfl,BX,Ak⟩
theorem age{w:World}{a:Option Addr}{cap:Nat}{l:M}(h:Bf w a l)(hs:CU l)(hl:l.length≤1000000)(D7:rowLen (flat l)≤1000000000):
  Calls prog 110 #[.slice a l.length cap] w fun e w'=>e=.returned (.tuple #[.string (bs ((BV l).getD [])),.int .i64 (if(BV l).isSome=true then 0 else 5)])∧Bw w w':=by
 have Gh:=Hi (amn (cap:=cap) h hs hl D7);by_cases Cf:(BV l).isSome=true
 ·rw[Ad Cf];obtain⟨he,hlen⟩:=Xr.1 Cf;have U8:=Hi (pW Cf);rw[U8.out];rw[he] at Gh;generalize (Ed l).1=s at*;have Tw:decide (65535 < (s.length:Int)+4)=false:=decide_eq_false (by omega);have IP:IntKind.i64.wrap ((s.length:Int)+4)=(s.length:Int)+4:=ET _ (by omega);have Z6:=Hi (fun W=>gF s W (by omega));clear he Cf hlen h hs D7 U8
  go_in
  go_wp2_with fail;refine Gh.mono ?_;rintro e w3⟨rfl,Ap⟩;have Au:=Hi Ap;clear Ap;go_wp2_with fail;refine(Z6 _).mono ?_;rintro e w4⟨rfl,AB⟩;have AX:=bH Au AB;clear AB;go_wp2;go_ret2;exact⟨rfl,AX⟩
 ·rw[Ab Cf];have hn:(BV l).getD []=[]:=by
   cases hc:BV l with
   |none=>rfl
   |some d=>rw[hc] at Cf;simp at Cf
  rw[hn];by_cases he:(Ed l).2=0
  ·have hlen:¬ (Ed l).1.length+4≤65535:=fun h=>Cf (Xr.2 ⟨he,h⟩)
   rw[he] at Gh;have RV:=uW l he D7;generalize (Ed l).1=s at*;have Tw:65535 < (s.length:Int)+4:=(by omega);have IP:IntKind.i64.wrap ((s.length:Int)+4)=(s.length:Int)+4:=ET _ (by omega);clear he Cf h hs D7 hn
   go_in
   go_wp2_with fail;refine Gh.mono ?_;rintro e w3⟨rfl,Ap⟩;have Au:=Hi Ap;clear Ap;go_wp2;go_ret2;exact⟨rfl,Au⟩
  ·have Bg:((Ed l).2 == 0)=false:=FQ.2 he;generalize Ed l=V at*;clear Cf h hs D7 hn
   go_in
   go_wp2_with fail;refine Gh.mono ?_;rintro e w3⟨rfl,Ap⟩;have Au:=Hi Ap;clear Ap;go_wp2;go_ret2;exact⟨rfl,Au⟩
structure Gz(w:World)(base m:Nat)(L:List (T×M))(g:T→Value):Prop where
 map:∃ kv:List (T×Value),kv.Perm (L.map fun x=>(x.1,Value.agg #[g x.1]))∧G9 prog 9 w m kv
 nodup:(L.map (·.1)).Nodup
 row:∀ x∈L,BJ w base (g x.1) x.2
 low:base≤m
theorem aCc:(prog.info? 193).map (fun i=>(i.zero,i.size))=some (some (.agg #[.slice none 0 0]),1):=by kernel_rfl
theorem adT(w:World):(zeroValue 193).run prog w=.ok (.agg #[.slice none 0 0]) w:=(zero_of_info aCc).1 w
theorem aAh(W:World)(v:Value):(Instr.field 193 (.agg #[v]) 0).run prog W=.ok v W:=by
 simp[Instr.field,Hd underlying193,go_sem,asAgg,Result.andThen]
section
variable {w w':World}{base m:Nat}{L:List (T×M)}{g:T→Value}
theorem Gz.below(h:Gz w base m L g)(hb:Bw w w'):Gz w' base m L g:=by
 obtain⟨⟨kv,h1,h2⟩,h3,h4,h6⟩:=h;exact⟨⟨kv,h1,h2.kept (hb.block m h2.lt)⟩,h3,fun x hx=>Cg (h4 x hx) hb,h6⟩
theorem Gz.WI(h:Gz w base m L g):((L.map fun x=>(x.1,Value.agg #[g x.1])).map (·.1)).Nodup:=by
 rw[Kq];exact h.nodup
theorem Gz.keys{kv:List (T×Value)}(h:kv.Perm (L.map fun x=>(x.1,Value.agg #[g x.1]))):(kv.map (·.1)).Perm (L.map (·.1)):=by
 have:=h.map (·.1);rwa[Kq] at this
theorem Gz.aae(h:Gz w base m L g){x:T×M}(hx:x∈L)(hn:x.1.length≤maxLen):
  (Instr.lookup 190 (.map (some m)) (.string (bs x.1)) false).run prog w=.ok (.agg #[g x.1]) w:=by
 obtain⟨kv,h1,h2⟩:=h.map;rw[h2.lookup underlying9 underlying190 (adT w) x.1 hn,aQ (h1.map (·.1) |>.nodup_iff.2 h.WI) h1,(Yz h.WI).2 (Bz.2 ⟨x,hx,rfl⟩)];rfl
end
theorem agt{w:World}{base m p y:Nat}{L:List (T×M)}{g:T→Value}{Q:Int→World→Prop}(hm:EN w p y)(h:Gz w base m L g)(hs:∀ x∈L,CU x.2∧x.2.length≤1000000∧rowLen (flat x.2)≤1000000000)(hn:∀ x∈L,x.1.length≤1000)(hl:L.length≤100000)
  (h5:¬ PG L=true→∀ w',Bw w w'→Q 5 w')
  (hc:PG L=true→∀ W q c,Bw w W→Eb W q (KR L)→Calls prog 17 #[.pointer (some ⟨y,0,none⟩),.slice q (KR L).length c] W fun e w'=>∃ c,e=.returned (.int .i64 c)∧Q c w'):
  Calls prog 111 #[.pointer (some ⟨p,0,none⟩),.map (some m)] w fun e w'=>∃ c,e=.returned (.int .i64 c)∧Q c w':=by
 have H5:=Hi h5;have HC:=Hi hc;have HM:=Hi hm;clear h5 hc hm;obtain⟨i0,Bl,AY,Ba,Be⟩:=DC pR;have HK:=Hi (show Calls prog 193 #[.map (some m)] w fun e w'=>e=.returned (.func (.func 248) #[] #[.pointer (some ⟨w.heap.size,0,none⟩)])∧w'=w.alloc (.cells #[.map (some m)] 190) from as1 (some m) w);obtain⟨kv,Ke,Y2⟩:=h.map;have Dw:kv.length=L.length:=by rw[Ke.length_eq,BP]
 have Z7:=Hi (as3 Y2 (by omega));have RP:(kv.map (·.1)).mergeSort (fun x y=>decide (x≤y))=Df L:=mergeSort_of_perm (Gz.keys Ke);rw[Dw,RP] at Z7;have HH:=Hi h;have HS:=Hi hs;have HN:=Hi hn;have EI:(Df L).length=L.length:=uE L
 have xS:=Hi (fun t (ht:t∈Df L)=>show ∃ x∈L,x.1=t∧rowOf L t=x.2 from by
  obtain⟨x,hx,rfl⟩:=Bz.1 (lY.1 ht);exact⟨x,hx,rfl,mI h.nodup hx⟩)
 clear h hs hn Ke Y2 Dw RP
 go_in
 go_wp2_with fail;refine HK.mono ?_;rintro e w1⟨rfl,Kk⟩;subst Kk;go_wp2_with fail;refine Z7.mono ?_;rintro e w2⟨v,rfl,Af,Ac⟩;have Ni:Ar.Bq w2 (w.heap.size+1) v (Df L):=by
  unfold Ar.Bq;rw[M5,EI];exact Af
 obtain⟨q,c,rfl⟩:=Bo Ni;have BX:=Hi Ni;have Ak:=Hi Ac;clear Af Ni Ac HK Z7;have hnI:((Df L).length:Int)=(L.length:Int):=by rw[EI]
 go_wp2
 go_loopw [5,15] (fun s i wr=>yK w (.slice q (Df L).length c) (Df L) (fun t=>Mk t (rowOf L t)) (fun t=>N8 (rowOf L t)) s i wr) (fun _ i _=>(Df L).length -(intOf i).toNat)
 case atStart=>exact⟨0,none,0,AV _,rfl,rfl,by rw[Gg,Kr,pO];exact DZ _ _ _ _,Ak,rfl,BX⟩
 case round=>
  obtain⟨k,cq,cc,hk,rfl,rfl,Af,hb,hall,Gn⟩:=hrel;have Oi:=Hi Gn;have Ck:=Hi Af;have HB:=Hi hb;have Fb:=Hi hall;clear Af hall Gn Ak BX;by_cases hlt:k < (Df L).length
  ·obtain⟨x,hx,aj,FN⟩:=xS _ (CQ hlt);obtain⟨a,Cs,c0⟩:=(Hr (c:=c) (Oi.out)).index c k hlt;simp only[EI] at Cs;have Tz:k < L.length:=by omega
   have MQ:=Hi (show(N8 x.2=true→((Df L).take (k+1)).all (fun t=>N8 (rowOf L t))=true)∧((Df L).take (k+1)).map (fun t=>Mk t (rowOf L t))=((Df L).take k).map (fun t=>Mk t (rowOf L t))++[Mk x.1 x.2] from by
    rw[Cx hlt,CK,List.all_append,Fb.out];constructor
    ·intro e;simp[FN,e]
    ·simp[FN,aj])
   have Od:=Hi (show N8 x.2=false→¬ PG L=true from fun e h=>by
    have:=MH.1 h _ (CQ hlt);rw[FN,e] at this;cases this)
   obtain⟨cl,BN⟩:∃ cl,((Df L).take k).map (fun t=>Mk t (rowOf L t))=cl:=⟨_,rfl⟩;have ku:cl.length=k:=(by rw[←BN,BP,AZ];omega);have EE:=Hi ku;rw[BN] at Ck MQ ⊢;have NU:=((HH.below HB).aae hx (by have:=HN x hx;unfold maxLen;omega));have ZX:=(HH.below HB).row x hx;obtain⟨q2,c2,Nc,DJ,GY⟩:=FH ZX;have Af:=ZX;rw[Nc] at Af NU;have ajc:=fun W=>aAh W (.slice q2 x.2.length c2)
   obtain⟨QU,CG,Wt⟩:=HS x hx;rw[←aj] at c0;clear BN hb FN aj Nc ZX;have ava:cl.length≤100000:=(by omega);clear ku;have SS:=Hi (Bf.CX Af);obtain⟨t,l⟩:=x;simp only at*;by_cases hz:l=[]
   ·have Yl:((l.length:Int) == 0)=true:=(by rw[hz];rfl);have Me:=Hi (show Mk t l=⟨t,[],true⟩ from Ad hz);have U9:=Hi (MQ.1 (by rw[hz];rfl));clear hz;go_wp2_with (at_builtin;refine wpList_append_own_at _ rfl _ _ 32 rfl w.heap.size 57 i0 _ 3 40 underlying32 Bl AY Ba Be rfl (by decide) _ cl.length _ rfl (Ck.alloc _) ⟨wr.heap.size,0,none⟩ 1 1 [.string (bs t),.string { data:=#[] },.bool true] rfl rfl (by intro j u hj;rw[add_plain,E5];exact(Dy▸hj)) (by simp[Value.oneCell']) (by unfold maxLen;omega) (by omega) (by have:=HB.size;simp;omega) ?_;intro v' w1 Cb AJ _ hat;obtain⟨g',cap',rfl⟩:=ownsRow_succ Cb;have HO:=Hi Cb;have HG:=Hi AJ;clear Cb AJ hat);have CF:=Hi (ui ⟨t,[],true⟩ hlt HB Ck (AU wr _) HG HO (by rw[←Me.out];exact MQ.2) U9 Oi);go_roundw
    case rel=>exact CF.out
    case measure=>
     show(Df L).length -((k:Int)+1).toNat < (Df L).length -((k:Int)).toNat
     omega
   ·have Yl:((l.length:Int) == 0)=false:=FQ.2 (fun e=>hz (Ld.1 (by omega)));have SG:=Hi (age (cap:=c2) SS QU CG Wt);have iG:=Hi (show N8 l=(BV l).isSome from by unfold N8;simp[hz]);have Me:=Hi (show Mk t l=⟨t,(BV l).getD [],false⟩ from Ab hz);by_cases Cf:(BV l).isSome=true
    ·have U9:=Hi (MQ.1 (by rw[iG.out];exact Cf));rw[Ad Cf] at SG;generalize (BV l).getD []=s at*;clear Cf;go_wp2_with fail;refine SG.mono ?_;rintro e w4⟨rfl,AB⟩;have AX:=Hi AB;have Xa:=Hi (Cg Ck AX);have abU:=AX.size;have tK:=HB.size;clear AB;go_wp2_with (at_builtin;refine wpList_append_own_at _ rfl _ _ 32 rfl w.heap.size 57 i0 _ 3 40 underlying32 Bl AY Ba Be rfl (by decide) _ cl.length _ rfl (Xa.alloc _) ⟨w4.heap.size,0,none⟩ 1 1 [.string (bs t),.string (bs s),.bool false] rfl rfl (by intro j u hj;rw[add_plain,E5];exact(Dy▸hj)) (by simp[Value.oneCell']) (by unfold maxLen;omega) (by omega) (by simp;omega) ?_;intro v' w1 Cb AJ _ hat;obtain⟨g',cap',rfl⟩:=ownsRow_succ Cb;have HO:=Hi Cb;have HG:=Hi AJ;clear Cb AJ hat);have CF:=Hi (ui ⟨t,s,false⟩ hlt HB Ck (AX.trans ((AU w4 _).mono AX.size)) HG HO (by rw[←Me.out];exact MQ.2) U9 Oi);go_roundw
     case rel=>exact CF.out
     case measure=>
      show(Df L).length -((k:Int)+1).toNat < (Df L).length -((k:Int)).toNat
      omega
    ·have DW:=Hi (Od (by rw[iG.out];simpa using Cf));rw[Ab Cf] at SG;generalize (BV l).getD []=s at*;clear Cf;go_wp2_with fail;refine SG.mono ?_;rintro e w3⟨rfl,Ap⟩;have HQ:=Hi (H5 DW w3 (bT HB Ap));clear Ap;go_wp2;go_ret;exact⟨5,rfl,HQ⟩
  ·obtain rfl:k=(Df L).length:=(by omega);have Ji:PG L=true:=by
    have:=Fb.out;rw[Gu (Ae _)] at this;exact this
   have hE:=Ck.out;rw[Gu (Ae _)] at hE;have HE:=Hi (show wr.ownsRow w.heap.size 57 3 (.slice cq (KR L).length cc) (KR L).length (LA (KR L)) from hE);have BN:(((Df L).take (Df L).length).map fun t=>Mk t (rowOf L t)).length=(KR L).length:=(by rw[Gu (Ae _)];rfl);rw[BN];have UX:=(HM.below HB).cell;have Bj:=Hi (HC Ji wr cq cc HB (Eb.CX HE));clear hE hb BN;generalize (KR L).length=dn at*;go_wp2_with fail;refine Bj.mono ?_;rintro e w9⟨c9,rfl,ZT⟩;go_wp2;go_ret;exact⟨c9,rfl,ZT⟩
