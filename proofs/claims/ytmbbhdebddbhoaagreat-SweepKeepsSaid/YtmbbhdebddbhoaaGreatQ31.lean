/- MemP MemQ DepN -/
import Derived.Test.YtmbbhdebddbhoaaGreatQ30
set_option maxHeartbeats 8000000
set_option maxRecDepth 100000
set_option linter.all false
namespace Go.Proofs.YtmbbhdebddbhoaaGreat
open Tryz
namespace Mem
open Go.RowKit Go.Maps
open Wal Fil Man Prs Kp BH Hex Sha Al
section
variable {w w':World}{base m:Nat}{L:List (T×M)}{f:T→Nat}
theorem CL.cO(h:CL w base m L f){x:T×M}(hx:x∈L)(hn:x.1.length≤maxLen):
  (Instr.lookup 145 (.map (some m)) (.string (bs x.1)) true).run prog w=.ok (.tuple #[.pointer (some ⟨f x.1,0,none⟩),.bool true]) w:=by
 obtain⟨kv,h1,h2⟩:=h.map;rw[h2.RZ underlying9 underlying145 (bM w) x.1 hn,Si (h1.map (·.1) |>.nodup_iff.2 h.PX) h1,(QG h.PX).2 (AV.2 ⟨x,hx,rfl⟩)];rfl
theorem CL.cZ(h:CL w base m L f){t:T}(hx:t∉L.map (·.1))(hn:t.length≤maxLen):
  (Instr.lookup 145 (.map (some m)) (.string (bs t)) true).run prog w=.ok (.tuple #[.pointer none,.bool false]) w:=by
 obtain⟨kv,h1,h2⟩:=h.map;have:Cr kv t=none:=by
  cases hs:Cr kv t with
  |none=>rfl
  |some v=>exact absurd ((CL.keys h1).mem_iff.1 (AV.2 ⟨_,WA hs,rfl⟩)) hx
 rw[h2.RZ underlying9 underlying145 (bM w) t hn,this];rfl
end
theorem ame(pb:Nat)(pr p:T×T)(W:World)(hk:W.heap[pb]?=some (.cells #[.string (bs pr.1),.string (bs pr.2)] 75)):
  Calls prog 70 #[.agg #[.string (bs p.1),.string (bs p.2)],.pointer (some ⟨pb,0,none⟩)] W fun e W'=>e=.returned (.bool (p.1 == pr.1))∧Bw W W':=by
 have hk1:W.cell? ⟨pb,0,none⟩=some (.string (bs pr.1)):=cr hk;have hkb:=Bz hk1;go_enter func70,ntmps70;go_wp2_with fail;go_ret;exact⟨by simp,Am W _⟩
theorem amf(pb:Nat)(pr:T×T):Ro (fun W=>W.heap[pb]?=some (.cells #[.string (bs pr.1),.string (bs pr.2)] 75)) (.func (.func 70) #[] #[.pointer (some ⟨pb,0,none⟩)]) (fun p=>p.1 == pr.1):=
 ⟨_,_,_,rfl,enters_of func70 (by kernel_rfl) rfl,fun W p h=>ame pb pr p W h⟩
theorem dh(K:Kind)(l:M)(name:T):(AR K l name).length≤l.length:=by
 induction l using OU with
 |h0=>exact Ab _
 |h1 l p ih=>
  rw[Js,Aj,Ii];split
  ·rw[(Sc (v:=p.2) (NU l name) p.1).length_eq,AX];have:(del p.1 (AR K l name)).length≤(AR K l name).length:=Km _ _;omega
  ·omega
theorem amg{w:World}{base b2 fb:Nat}{q:Option Addr}{c:Nat}{l:M}{pr:T×T}{pb:Nat}{ev:Array Value}(hr:AP w b2 (.slice q l.length c) l)(hb2:base≤b2)(_:w.heap[pb]?=some (.cells #[.string (bs pr.1),.string (bs pr.2)] 75))(he:w.heap[fb]?=some (.cells ev 152))
  (hq:q=none→c=0)(hc:l.length≤c)(auJ:base≤w.heap.size)(hl:l.length≤1000):
  Calls prog 71 #[.slice (some ⟨w.heap.size+1,0,none⟩) 2 2] ((w.alloc (.cells #[.string (bs pr.1),.string (bs pr.2)] 75)).alloc (.cells #[.slice q l.length c,.slice (some ⟨w.heap.size,0,none⟩) 1 1] 22)).drew fun e w'=>
   ∃ q' c',e=.returned (.slice q' (Hg [l,[pr]]).length c')∧AP w' base (.slice q' (Hg [l,[pr]]).length c') (Hg [l,[pr]])∧Bw w w'∧w'.cell? ⟨fb,0,none⟩=w.cell? ⟨fb,0,none⟩∧w'.frozen? ⟨fb,0,none⟩=false:=by
 have Bj:=Am w (.cells #[.string (bs pr.1),.string (bs pr.2)] 75);have hsz:=Ai w (.cells #[.string (bs pr.1),.string (bs pr.2)] 75);have hn1:=Aq w (.cells #[.string (bs pr.1),.string (bs pr.2)] 75);have hbb:=Am (w.alloc (.cells #[.string (bs pr.1),.string (bs pr.2)] 75)) (.cells #[.slice q l.length c,.slice (some ⟨w.heap.size,0,none⟩) 1 1] 22);have hn2:=Aq (w.alloc (.cells #[.string (bs pr.1),.string (bs pr.2)] 75)) (.cells #[.slice q l.length c,.slice (some ⟨w.heap.size,0,none⟩) 1 1] 22);rw[hsz] at hn2;have ayC:=(hbb.block _ (by rw[hsz];omega)).trans hn1;have hbw:=Bj.trans (hbb.mono Bj.size);generalize (w.alloc (.cells #[.string (bs pr.1),.string (bs pr.2)] 75)).alloc (.cells #[.slice q l.length c,.slice (some ⟨w.heap.size,0,none⟩) 1 1] 22)=U at*;have hbd:Bw w U.drew:=hbw.drew;have e1:U.drew.heap[w.heap.size]?=some (.cells #[.string (bs pr.1),.string (bs pr.2)] 75):=ayC;have e2:U.drew.heap[w.heap.size+1]?=some (.cells #[.slice q l.length c,.slice (some ⟨w.heap.size,0,none⟩) 1 1] 22):=hn2;have azQ:lM U.drew (some ⟨w.heap.size+1,0,none⟩) [l,[pr]]:=by
  intro i hi;have hi2:i < 2:=hi;refine⟨_,rfl,?_⟩;rw[add_plain]
  match i,hi2 with
  |0,_=>exact⟨q,c,cr e2,(Av.BU hr).below hbd,hq,hc⟩
  |1,_=>
   refine⟨some ⟨w.heap.size,0,none⟩,1,cr e2,?_,(fun e=>by cases e),Ab _⟩;intro j hj;obtain rfl:j=0:=(by simpa using hj);refine⟨_,rfl,?_,?_⟩
   ·rw[add_plain,AY _ _ _ _ _ _ e1];rfl
   ·rw[add_plain]
    show U.drew.cell? ⟨w.heap.size,0+0*2+1,none⟩=_
    rw[AY _ _ _ _ _ _ e1];rfl
 refine(aaz (cap:=2) azQ (by simp;omega) (by simp)).mono ?_;rintro e w'⟨v,rfl,h1,h2,h3⟩;obtain⟨q',c',rfl,-,-⟩:=Dl h1;have hbz:=hbd.trans (h2.mono hbd.size);have he':=(hbz.block fb (Ae he)).trans he;refine⟨q',c',rfl,⟨h1.1,?_⟩,hbz,hbz.cell (p:=⟨fb,0,none⟩) (Ae he),Cb w' fb 0 _ _ he'⟩;rcases h1.2 with h|⟨g,cap,cur,k1,k2,k3⟩
 ·exact .inl h
 ·refine .inr ⟨g,cap,cur,k1,?_,k3⟩;have:=h3 g (by rw[k1];rfl);have:=hbd.size;omega
theorem setRow_setRow(L:List (T×M))(name:T)(a b:M):setRow (setRow L name a) name b=setRow L name b:=by
 unfold setRow;rw[List.map_map];refine Nb fun x _=>?_
 show(if(if x.1=name then(x.1,a) else x).1=name then((if x.1=name then(x.1,a) else x).1,b) else(if x.1=name then(x.1,a) else x))=_
 by_cases h:x.1=name
 ·simp[h]
 ·simp[h]
theorem amh(t:T)(l:M):KY [(t,l)]=J4 l:=by
 unfold KY BX;simp[rowOf]
theorem CL.ami{w w':World}{base m m2:Nat}{L:List (T×M)}{f:T→Nat}(h:CL w base m L f){o:Obj}(hb:Bw w (w.alloc o))(hg:(w.alloc o).grownBy w' (some m2))(hm:m2=w.heap.size:=by rfl):CL w' base m L f:=by
 subst hm;exact h.below (hb.grown hg (by rw[Ai];omega) (fun k e=>by rw[←EH e];exact Ab _))
def PF(w:World)(base m:Nat)(k:Nat):Prop:=base≤k∧(k=m∨Ap w k 152)
def Small(l:M):Prop:=l.length≤1000∧rowLen (flat l)≤1000000000
theorem amj{w:World}{base m mc pc p y:Nat}{A:M}{L:List (T×M)}{f:T→Nat}{lt:M}{pr:T×T}
  (hE:CL w base m L f)(hS:Dg A9 lt L)(hmc:w.heap[mc]?=some (.cells #[.map (some m)] 145))(hpc:w.heap[pc]?=some (.cells #[.pointer (some ⟨p,0,none⟩)] 36))
  (hm:DR w p y)(hg:Man.JR w y A)(hno:∀ k,Fil.get A (A9.nm k)=none)(auJ:base≤w.heap.size)(hk:pr.1.length≤1000000)(hl:lt.length≤1000)(hsm:∀ name,Small (AR A9 (lt++[pr]) name))(KE:base≤m):
  Calls prog 65 #[.agg #[.string (bs pr.1),.string (bs pr.2)],.pointer (some ⟨mc,0,none⟩),.pointer (some ⟨pc,0,none⟩)] w fun e w'=>
   e=.returned (.int .i64 (if(Bc (AR A9 (lt++[pr]) (A9.nm pr.1))).isSome=true then 0 else 5))∧∃ L' f',CL w' base m L' f'∧Dg A9 (lt++[pr]) L'∧A7 (PF w base m) w w':=by
 have HE:=Hi hE;have HS:=Hi hS;have HM:=Hi hm;have HG:=Hi hg;have Dc:=Hi hno;have K8:=Hi hsm;have amk:=hsm;have nN:w.cell? ⟨mc,0,none⟩=some (.map (some m)):=cr hmc;have cpc:w.cell? ⟨pc,0,none⟩=some (.pointer (some ⟨p,0,none⟩)):=cr hpc;have VD:=Hi hmc;have VF:=Hi hpc;have Gb:=Hi (fun(W:World)=>bq pr.1 W hk);have hnl:(A9.nm pr.1).length=17:=XC pr.1;have OV:=Hi (Aq w (.cells #[.string (bs pr.1),.string (bs pr.2)] 75));have Ag:=Hi (Am w (.cells #[.string (bs pr.1),.string (bs pr.2)] 75));have Sk:=Ae hmc;have Vq:=Ae hpc;obtain⟨res,azN⟩:∃ r:Int,(if(Bc (AR A9 (lt++[pr]) (A9.nm pr.1))).isSome=true then 0 else 5)=r:=⟨_,rfl⟩;rw[azN];have Dn:=Hi azN;clear hE hS hm hg hno hsm hmc hpc azN;go_enter func65,ntmps65;go_wp2_with fail;refine(Gb _).mono ?_;rintro e w1⟨rfl,hb1⟩;have hwb:Bw w w1:=Ag.trans (hb1.mono Ag.size);have abx:=(hb1.block _ (Ae OV)).trans OV.out;have VG:=Hi abx;have aby:w1.cell? ⟨mc,0,none⟩=some (.map (some m)):=(hwb.cell (p:=⟨mc,0,none⟩) Sk).trans nN;have arw:w1.cell? ⟨pc,0,none⟩=some (.pointer (some ⟨p,0,none⟩)):=(hwb.cell (p:=⟨pc,0,none⟩) Vq).trans cpc;have HB1:=Hi hwb;have Ef:=Hi (HE.below hwb);obtain⟨pb,hpb⟩:=ex (w.heap.size);rw[hpb] at VG;clear hb1 hwb abx OV Ag nN cpc;have GV:=Hi (amk (A9.nm pr.1));by_cases hin:A9.nm pr.1∈L.map (·.1)
 case' pos=>
  obtain⟨⟨t,l1⟩,hx,El⟩:=AV.1 hin;have El:t=A9.nm pr.1:=El;subst El;have I9:=Ef.cO hx (by rw[hnl];decide);have M4:l1=AR A9 lt (A9.nm pr.1):=HS.rows _ hx;have Dy:=Hi (show Up l1 from by rw[M4];exact NU _ _);have K9:=Hi (show AR A9 (lt++[pr]) (A9.nm pr.1)=put pr.1 pr.2 l1 from by rw[Js,Ac rfl,M4])
  have M0:=Hi (show Kp.Dg A9 (lt++[pr]) (setRow L (A9.nm pr.1) (put pr.1 pr.2 l1)) from by
   rw[M4];exact HS.more hin)
  obtain⟨w5,nC⟩:∃ w5,w5=w1:=⟨_,rfl⟩;subst nC;obtain⟨L1,hL1⟩:∃ L1,L1=L:=⟨_,rfl⟩;subst hL1;obtain⟨f1,hf1⟩:∃ f1,f1=f:=⟨_,rfl⟩;subst hf1;have OO:=Ef;have Y0:=VG;have QQ:=Hi (A7.of_below (F:=PF w base m) HB1);have OH:=Hi hx
  have NF:=Hi (show PF w base m (f1 (A9.nm pr.1))∨w.heap.size≤f1 (A9.nm pr.1) from by
   obtain⟨v,h1,_,h2⟩:=HE.NP _ hx;exact .inl ⟨h2,.inr ⟨_,_,h1⟩⟩)
  have hl1:l1.length≤1000:=by
   rw[M4];exact Ah (dh _ _ _) hl
  obtain⟨v5,auy,ast,-⟩:=OO.NP _ hx;obtain⟨q3,c3,rfl,hq3,-⟩:=Dl ast;have c1:w5.cell? ⟨f1 (A9.nm pr.1),0,none⟩=some (.slice q3 l1.length c3):=cr auy;have M3:=Hi auy;have TH:=Hi (Ta (Av.BU ast) hq3 (Ah hl1 (by decide)));clear hx hin HS HE Ef VG Gb auy ast M4;generalize A9.nm pr.1=name at*;obtain⟨fb,Jp⟩:=ex (f1 name);have OP:=Hi Jp;rw[Jp] at I9 c1 M3 NF;clear Jp;go_wp2_with fail
 case' neg=>
  have I9:=Ef.cZ hin (by rw[hnl];decide);have XT:=Hi hin;have EO:=Hi (bz (HM.below HB1) (OJ HG HB1) (A9.nm pr.1) (by rw[hnl];decide));unfold KW at EO;have hfo:fileOf A9 A (A9.nm pr.1)=none:=by unfold fileOf;rw[Dc.out];rfl
  rw[Dc.out,hfo] at EO;simp only[Option.getD_none,FN,Option.isSome_none] at EO;obtain⟨l1,M4⟩:∃ l1:M,l1=[]:=⟨_,rfl⟩;have hl1:l1.length≤1000:=by rw[M4];exact Ar _
  have Dy:=Hi (show Up l1 from by rw[M4];exact Up.nil)
  have K9:=Hi (show AR A9 (lt++[pr]) (A9.nm pr.1)=put pr.1 pr.2 l1 from by
   rw[Js,Ac rfl,M4,XY (fun e=>hin ((HS.names _).2 e))])
  have XU:=Hi (show Kp.Dg A9 (lt++[pr]) ((A9.nm pr.1,put pr.1 pr.2 l1) :: L) from by
   rw[M4];exact HS.new hin)
  have NT:L.length≤1000:=Ah (cK HS) hl;clear hin HS Gb hfo;generalize A9.nm pr.1=name at*;go_wp2_with fail;refine EO.mono ?_;rintro e w2⟨q3,c3,rfl,ast,hq3,hb2⟩;have abz:Value.slice q3 0 c3=.slice q3 l1.length c3:=by rw[M4];rfl
  have awk:AP w2 w1.heap.size (.slice q3 l1.length c3) l1:=by rw[M4];exact ast
  rw[abz];have hb4:Bw w1 (w2.alloc (.cells #[.slice q3 l1.length c3] 152)):=hb2.alloc hb2.size _;have VB:=HB1.trans (hb4.mono HB1.size);have TI:=Aq w2 (.cells #[.slice q3 l1.length c3] 152);have aAP:w.heap.size≤w2.heap.size:=Ah HB1.size hb2.size;have hr4:AP (w2.alloc (.cells #[.slice q3 l1.length c3] 152)) base (.slice q3 l1.length c3) l1:=Da (Bp awk (Am w2 _)) (Ah auJ HB1.size);have arx:(w2.alloc (.cells #[.slice q3 l1.length c3] 152)).cell? ⟨mc,0,none⟩=some (.map (some m)):=(hb4.cell (p:=⟨mc,0,none⟩) (Bz aby)).trans aby
  obtain⟨w5,nH,VC,hg5⟩:=(Ef.below hb4).insert (name:=name) (l:=l1) (b:=w2.heap.size) XT (by rw[hnl];decide) ⟨_,TI,hr4,Ah auJ aAP⟩ (fun x hx e=>by
   obtain⟨v,h1,_⟩:=Ef.NP x hx;have h2:=Ae h1;have h3:=hb2.size;omega) (by unfold maxLen;omega)
  have Et:A7 (fun k=>k=m) (w2.alloc (.cells #[.slice q3 l1.length c3] 152)) w5:=A7.of_grownBy (F:=fun k=>k=m) hg5 (fun k e=>(EH e).symm)
  have nO:∀ {b:Nat} {cs:Array Value} {t:TypeId},(w2.alloc (.cells #[.slice q3 l1.length c3] 152)).heap[b]?=some (.cells cs t)→w5.heap[b]?=some (.cells cs t):=fun {b cs t} h=>(Et.block b (Ae h) (fun e=>by
   rw[e] at h;exact(Ef.below hb4).BV ⟨_,_,h⟩)).trans h
  have Y0:=Hi (nO ((hb4.block _ (Ae VG)).trans VG));have M3:=Hi (nO TI);have QQ:=Hi ((A7.of_below (F:=PF w base m) VB).trans Et (fun i e=>.inl ⟨by rw[e];exact KE,.inl e⟩))
  have XW:=AL hr4 Et (fun j hj e=>by
   have h:=Bi hr4 hj;rw[e] at h;exact(Ef.below hb4).BV h)
  have c1:w5.cell? ⟨w2.heap.size,0,none⟩=some (.slice q3 l1.length c3):=cr M3.out;have TH:=Hi (Ta (Av.BU XW) hq3 (Ah hl1 (by decide)))
  have M0:=Hi (show Kp.Dg A9 (lt++[pr]) (setRow ((name,l1) :: L) name (put pr.1 pr.2 l1)) from by
   rw[abh XT.out];exact XU.out)
  have OO:=Hi VC;have OP:=Hi (show(fun t=>if t=name then w2.heap.size else f t) name=w2.heap.size from Ac rfl);generalize (fun t=>if t=name then w2.heap.size else f t)=f1 at*;obtain⟨L1,hL1⟩:=ex ((name,l1) :: L);have OH:=Hi (show(name,l1)∈L1 from by rw[←hL1];simp);rw[hL1] at OO M0;have NF:=Hi (show PF w base m w2.heap.size∨w.heap.size≤w2.heap.size from .inr aAP);obtain⟨fb,Jp⟩:=ex (w2.heap.size);rw[Jp] at c1 M3 OP nH NF;clear hb2 hb4 VB TI VC hg5 Et nO ast awk XW hr4 hL1 XU Ef VG EO M4 abz HE I9;go_wp2_with fail
 all_goals
  refine TH.mono ?_;rintro e w6⟨v6,rfl,Gu,hb6⟩;obtain⟨q6,c6,rfl,XX,-⟩:=Dl Gu;have abA:=(hb6.block _ (Ae Y0)).trans Y0.out;have di:=Hi abA
  have Nn:=Hi (nu Gu (amf pb pr) (fun W hW=>(hW.block _ (Ae di) (fun e=>by
    have:=CJ Gu e;have:=Ae Y0;omega)).trans di) (Ah hl1 (by decide)))
  have IB:=Hi Gu;have Em:=Hi hb6;clear Gu hb6 abA TH;go_wp2_with fail;refine Nn.mono ?_;rintro e w7⟨v7,rfl,Q7,Q8,-⟩;have D8:Bw w5 w7:=Bu Em Q8 (fun i e=>CJ IB e) Em.size
  have dm:=(Q8.block _ (Ae di) (fun e=>by
    have:=CJ IB e;have:=Ae Y0;omega)).trans di.out
  obtain⟨q7,c7,rfl,hq7,Vo⟩:=Dl Q7;have OQ:=(D8.block _ (Ae M3)).trans M3.out;have c17:w7.cell? ⟨fb,0,none⟩=some (.slice q3 l1.length c3):=cr OQ;have Vp:=Cb w7 fb 0 _ _ OQ;have asR:=(OO.below D8).set OH (Da Q7 (Ah auJ (QQ.size)));rw[OP.out] at asR;have abB:=QQ.trans (A7.of_below (F:=PF w base m) D8) (fun _ f=>.inl f);have Iq:=abB.setCell (p:=⟨fb,0,none⟩) NF (.slice q7 (l1.filter fun p=>!(p.1 == pr.1)).length c7);have nP:=(A7.refl (fun k=>k=fb) w7).setCell (p:=⟨fb,0,none⟩) (.inl rfl) (.slice q7 (l1.filter fun p=>!(p.1 == pr.1)).length c7);have hnk:∀ k,k=fb→¬ Ap w7 k 75:=fun k e hb=>by
   obtain⟨cs,fr,hb⟩:=hb;rw[e,OQ] at hb;injection hb with hb
   injection hb with _ hb
   exact absurd hb (by decide)
  have VH:=(nP.block pb (Ae dm) (fun e=>hnk _ e ⟨_,_,dm⟩)).trans dm;have OT:=AL Q7 nP (fun k hk e=>hnk k e (Bi Q7 hk));have Rp:=Bh w7 fb 0 _ _ (.slice q7 (l1.filter fun p=>!(p.1 == pr.1)).length c7) OQ;obtain⟨l8,I5⟩:∃ l8,l1.filter (fun p=>!(p.1 == pr.1))=l8:=⟨_,rfl⟩;rw[I5] at asR Iq VH OT Rp Vo;have Rf:=Hi (show Hg [l8,[pr]]=put pr.1 pr.2 l1 from by rw[←I5];exact abv Dy pr);rw[I5];have amm:l8.length≤1000:=by rw[←I5];exact Ah (Km _ _) hl1
  clear I5 abB nP hnk Q7 Q8 D8 dm;go_wp2_with fail;have abC:(w7.setCell ⟨fb,0,none⟩ (.slice q7 l8.length c7)).cell? ⟨pb,0,none⟩=some (.string (bs pr.1)):=cr VH;have abD:(w7.setCell ⟨fb,0,none⟩ (.slice q7 l8.length c7)).cell? ⟨pb,1,none⟩=some (.string (bs pr.2)):=cr VH;have nQ:(w7.setCell ⟨fb,0,none⟩ (.slice q7 l8.length c7)).cell? ⟨fb,0,none⟩=some (.slice q7 l8.length c7):=cr Rp;obtain⟨w8,hw8⟩:=ex (w7.setCell ⟨fb,0,none⟩ (.slice q7 l8.length c7));rw[hw8] at asR Iq VH OT Rp abC abD nQ ⊢;clear hw8 c17 Vp OQ;have nR:=Hi (amg (base:=base) (fb:=fb) OT (Ah auJ QQ.size) VH Rp hq7 Vo (by have:=QQ.size;have:=Iq.size;omega) amm);rw[Rf.out] at nR;have amn:(w8.alloc (.cells #[.string (bs pr.1),.string (bs pr.2)] 75)).cell? ⟨fb,0,none⟩=some (.slice q7 l8.length c7):=((Am w8 _).cell (p:=⟨fb,0,none⟩) (Ae Rp)).trans nQ;refine TB ?_
  go_region_law
   (first
    |(go_simp;go_at_call 71;refine nR.mono ?_;rintro e w9 ⟨q9,c9,rfl,KN,Eu,c19,UZ⟩;go_wp2_with fail))
  all_goals
   dsimp only[Rk];have abE:=(Eu.block _ (Ae Rp)).trans Rp;have abF:(name,l8)∈setRow L1 name l8:=AV.2 ⟨_,OH,Ac rfl⟩;have Y1:=(asR.below Eu).set abF KN;rw[OP.out,setRow_setRow] at Y1;have nS:=(Iq.trans (A7.of_below (F:=PF w base m) Eu) (fun _ f=>.inl f)).setCell (p:=⟨fb,0,none⟩) NF (.slice q9 (put pr.1 pr.2 l1).length c9);have abG:=Bh w9 fb 0 _ _ (.slice q9 (put pr.1 pr.2 l1).length c9) abE;have abH:(name,put pr.1 pr.2 l1)∈setRow L1 name (put pr.1 pr.2 l1):=AV.2 ⟨_,OH,Ac rfl⟩;have hpe:=Y1.NP _ abH;rw[OP.out] at hpe;obtain⟨F4,Y2⟩:=ex (w9.setCell ⟨fb,0,none⟩ (.slice q9 (put pr.1 pr.2 l1).length c9));rw[Y2] at Y1 nS abG hpe ⊢;have HPE:=Hi hpe;have ZY:=Hi Y1;have VI:=Hi nS;clear Y2 KN Eu c19 UZ abE abF nS abH hpe Y1 asR Iq VH OT Rp abC abD nQ amn nR abG;have hmm:=@run_makeMap prog;have TJ:base≤F4.heap.size:=Ah auJ VI.size;have dw:=Am F4 (.map #[] 0);obtain⟨TK,ary,abJ,nT⟩:=(CL.made F4 base (fun _=>fb) TJ).insert (name:=name) (l:=put pr.1 pr.2 l1) (b:=fb) (by simp) (by rw[hnl];decide) (HPE.below dw) (fun x hx=>by simp at hx) (by unfold maxLen;decide);have nU:A7 (PF w base m) F4 TK:=(A7.of_below (F:=PF w base m) dw).trans (A7.of_grownBy (F:=fun k=>k=F4.heap.size) nT (fun k e=>(EH e).symm)) (fun i e=>.inr (by rw[e];exact Ab _));have arz:=nU.size
   have Gq:=Hi (mK abJ (fun x hx=>by
    obtain rfl:x=(name,put pr.1 pr.2 l1):=(by simpa using hx);have hs:=K8 name;rw[K9.out] at hs;exact⟨BN.LM (Dy.put _ _),Ah hs.1 (by decide),hs.2⟩) (fun x hx=>by
    obtain rfl:x=(name,put pr.1 pr.2 l1):=by simpa using hx
    show name.length≤1000
    rw[hnl];decide) (by simp))
   have hne:put pr.1 pr.2 l1≠[]:=List.ne_nil_of_mem ((Nh Dy).2 (.inl rfl));have hfo:KY [(name,put pr.1 pr.2 l1)]=(Bc (put pr.1 pr.2 l1)).isSome:=(by rw[amh];unfold J4;simp[hne]);unfold TC at Gq;rw[hfo] at Gq;have Y3:=Hi (VI.trans nU (fun _ f=>.inl f));have abK:=Hi (show CL TK base m (setRow L1 name (put pr.1 pr.2 l1)) f1 from ZY.ami dw nT);have dx:=Hi (show(if(Bc (put pr.1 pr.2 l1)).isSome=true then(0:Int) else 5)=res from by rw[←K9.out];exact Dn.out);clear Dn;clear dw abJ nT nU hne hfo HPE ZY VI;generalize (Ho [(name,put pr.1 pr.2 l1)])=chs at*;cases hcs:(Bc (put pr.1 pr.2 l1)).isSome with
   |true=>
    have hr0:res=0:=(by rw[←dx.out,Ac hcs]);subst hr0;clear dx;simp only[hcs,if_true] at Gq;go_wp2_with fail;refine Gq.mono ?_;rintro e dz⟨q12,c12,rfl,-,NV⟩;have OW:=Hi NV;clear NV;go_wp2_with fail;go_ret;exact⟨rfl,_,f1,abK.below OW,M0,Y3.trans (A7.of_below (F:=PF w base m) OW) (fun _ f=>.inl f)⟩
   |false=>
    have J5:res=5:=(by rw[←dx.out,Aa (by rw[hcs];simp)]);subst J5;clear dx;simp only[hcs,Bool.false_eq_true,if_false] at Gq;go_wp2_with fail;refine Gq.mono ?_;rintro e dz⟨rfl,NV⟩;have OW:=Hi NV;clear NV;go_wp2_with fail;go_ret;exact⟨rfl,_,f1,abK.below OW,M0,Y3.trans (A7.of_below (F:=PF w base m) OW) (fun _ f=>.inl f)⟩
def nV(w:World)(p:Nat)(l:M)(i:Value)(wr:World):Prop:=
 ∃ (k:Nat) (L:List (T×M)) (f:T→Nat),k≤l.length∧i=.int .i64 (k:Int)∧CL wr w.heap.size (w.heap.size+1) L f∧Kp.Dg A9 (l.take k) L∧Bw w wr∧Fits A9 (l.take k)∧
  wr.heap[w.heap.size]?=some (.cells #[.pointer (some ⟨p,0,none⟩)] 36)∧wr.heap[w.heap.size+1+1]?=some (.cells #[.map (some (w.heap.size+1))] 145)
theorem abL{wr w':World}{base m:Nat}{L:List (T×M)}{f:T→Nat}(h:CL wr base m L f)(hu:A7 (PF wr base m) wr w'){b:Nat}{cs:Array Value}{t:TypeId}(hb:wr.heap[b]?=some (.cells cs t))(ht:t≠152):w'.heap[b]?=some (.cells cs t):=
 (hu.block b (Ae hb) (fun hf=>by
  rcases hf.2 with e|⟨c2,f2,e⟩
  ·rw[e] at hb;exact h.BV ⟨_,_,hb⟩
  ·rw[hb] at e;injection e with e
   injection e with _ e
   exact ht e)).trans hb
theorem amo{w:World}{p y:Nat}{A:M}{q:Option Addr}{cap:Nat}{l:M}{Q:Int→World→Prop}(hm:DR w p y)(hg:Man.JR w y A)(hno:∀ k,Fil.get A (A9.nm k)=none)(hk:Av w q l)(hl:l.length≤1000)(hkl:∀ x∈l,x.1.length≤1000000)(hsm:∀ j name,Small (AR A9 (l.take j) name))
  (hf:∀ W,Bw w W→Calls prog 140 #[.pointer (some ⟨y,0,none⟩)] W fun e w'=>e=.returned (.int .i64 0)∧W=w')
  (h5:¬ Fits A9 l→∀ w',Bw w w'→Q 5 w')
  (hc:Fits A9 l→∀ W q c,Bw w W→D7 W q (DF A9 l)→Calls prog 32 #[.pointer (some ⟨y,0,none⟩),.slice q (DF A9 l).length c] W fun e w'=>∃ c,e=.returned (.int .i64 c)∧Q c w'):
  Calls prog 28 #[.pointer (some ⟨p,0,none⟩),.slice q l.length cap] w fun e w'=>∃ c,e=.returned (.int .i64 c)∧Q c w':=by
 have HF:=Hi hf;have H5:=Hi h5;have HC:=Hi hc;have HM:=Hi hm;have HG:=Hi hg;have HK:=Hi hk;have Dc:=Hi hno;have FQ:=Hi hkl;have K8:=Hi hsm;have Vq:=hm.lt;clear hf h5 hc hm hg hk hno hkl hsm;go_enter func28,ntmps28;go_wp2_with fail;have hb0:=Am w (.cells #[.pointer (some ⟨p,0,none⟩)] 36);refine(aaQ (P:=fun W w'=>W=w') (HM.below hb0) (HF _ hb0)).mono ?_;rintro e w1⟨rfl,hw1⟩;subst hw1;have hmm:=@run_makeMap prog;go_wp2_with fail;have auP:=Ai w (.cells #[.pointer (some ⟨p,0,none⟩)] 36);have hn0:=Aq w (.cells #[.pointer (some ⟨p,0,none⟩)] 36);have hmp:=CL.made (w.alloc (.cells #[.pointer (some ⟨p,0,none⟩)] 36)) w.heap.size (fun _=>0) hb0.size;have hb1:=hb0.alloc hb0.size (.map #[] 0);have hn1:=((Am (w.alloc (.cells #[.pointer (some ⟨p,0,none⟩)] 36)) (.map #[] 0)).block _ (Ae hn0)).trans hn0;rw[auP] at hmp;have awl:=Ai (w.alloc (.cells #[.pointer (some ⟨p,0,none⟩)] 36)) (.map #[] 0);rw[auP] at awl;generalize (w.alloc (.cells #[.pointer (some ⟨p,0,none⟩)] 36)).alloc (.map #[] 0)=V1 at*;have hn2:=Aq V1 (.cells #[.map (some (w.heap.size+1))] 145);have dA:=Am V1 (.cells #[.map (some (w.heap.size+1))] 145);rw[awl] at hn2
 have Hq:=Hi (show nV w p l (.int .i64 0) (V1.alloc (.cells #[.map (some (w.heap.size+1))] 145)) from
  ⟨0,[],_,Ar _,rfl,hmp.below dA,by rw[FJ];exact Dg.nil,hb1.trans (dA.mono hb1.size),by rw[FJ];exact fun j hj=>by simp at hj,(dA.block _ (Ae hn1)).trans hn1,hn2⟩)
 generalize V1.alloc (.cells #[.map (some (w.heap.size+1))] 145)=V2 at*;clear hb0 hb1 hn0 hn1 hmp auP awl hn2 dA
 go_loopw [22] (fun i wr=>nV w p l i wr) (fun i _=>l.length -(intOf i).toNat)
 case atStart=>exact Hq.out
 case round=>
  obtain⟨k,L,f,hk,rfl,he,hps,hb,hft,hpc,hmc⟩:=hrel;have HE:=Hi he;have Rq:=Hi hps;have HB:=Hi hb;have I7:=Hi hft;have VF:=Hi hpc;have VD:=Hi hmc;clear he hps hb hft hpc hmc Hq;by_cases hlt:k < l.length
  ·obtain⟨a,hix,ha,-⟩:=(HK.below HB).index cap k hlt;have c0:=ha.key;have c1:=ha.val;have hkx:=FQ _ (BF hlt);have Bo:=Hi (BS hlt)
   have M5:=Hi (show Fits A9 l→(Bc (AR A9 (l.take k++[l[k]]) (A9.nm l[k].1))).isSome=true from fun h=>by
    have:=h k hlt;rwa[BS hlt] at this)
   generalize l[k]=x at*;have Bj:=Am wr (.cells #[.string (bs x.1),.string (bs x.2)] 75);have hbw:=HB.trans (Bj.mono HB.size);have nW:=(Bj.block _ (Ae VF)).trans VF.out;have nX:=(Bj.block _ (Ae VD)).trans VD.out;have amq:=Hi nW;have amr:=Hi nX;have BM:=Hi hbw;have HE2:=Hi (HE.below Bj);have HP:=Hi (amj (pr:=x) HE2 Rq nX nW (HM.below hbw) (OJ HG hbw) Dc hbw.size hkx (by rw[Aw];omega) (fun name=>by rw[←Bo.out];exact K8 (k+1) name) (Nat.le_succ _));clear Bj hbw nW nX ha VF VD HE;have auy:∀ args w,(callFunc 65 args).run prog w=.ok (.enter 65 args) w:=enters_of func65 (by kernel_rfl) rfl;have OX:=Hi (@Fits.XZ A9 (l.take k) x);generalize hcc:(Bc (AR A9 (l.take k++[x]) (A9.nm x.1))).isSome=cc at*;cases cc with
   |true=>
    simp only[if_true] at HP;go_wp2_with fail;refine HP.mono ?_;rintro e w3⟨rfl,L',f',dB,dC,hu3⟩;have Ca:=Hi (show nV w p l (.int .i64 ((k:Int)+1)) w3 from⟨k+1,L',f',by omega,by go_num,dB,by rw[Bo.out];exact dC,Bu BM hu3 (fun i hi=>hi.1) BM.size,by rw[Bo.out];exact OX.2 ⟨I7,by trivial⟩,abL HE2 hu3 amq (by decide),abL HE2 hu3 amr (by decide)⟩);clear dB dC hu3;go_wp2_with fail;go_roundw
    case rel=>exact Ca.out
    case measure=>
     show l.length -((k:Int)+1).toNat < l.length -((k:Int)).toNat
     omega
   |false=>
    simp only[Bool.false_eq_true,if_false] at HP;have Qb:=Hi (show ¬ Fits A9 l from fun h=>by have:=M5 h;cases this);go_wp2_with fail;refine HP.mono ?_;rintro e w3⟨rfl,L',f',dB,dC,hu3⟩;have HQ:=Hi (H5 Qb w3 (Bu BM hu3 (fun i hi=>hi.1) BM.size));clear dB dC hu3;go_wp2_with fail;go_ret;exact⟨5,rfl,HQ⟩
  ·obtain rfl:k=l.length:=(by omega);have aAA:Fits A9 l:=(by have:=I7.out;rwa[Ck] at this);have hps:=Rq.out;rw[Ck] at hps;have nN:wr.cell? ⟨w.heap.size+1+1,0,none⟩=some (.map (some (w.heap.size+1))):=cr VD.out;have NT:L.length≤100000:=Ah (cK hps) (by omega)
   have Gq:=Hi (mK HE (fun z hz=>by
    have h1:=K8 l.length z.1;rw[Ck] at h1;rw[hps.rows z hz];exact⟨BN.LM (NU _ _),Ah h1.1 (by decide),h1.2⟩) (fun z hz=>by
    obtain⟨r,_,hr⟩:=AV.1 ((hps.names z.1).1 (ES hz));rw[←hr,XC];decide) NT)
   unfold TC at Gq;have e1:=hps.XP;have e2:=hps.fits aAA;simp only[Ac e2,e1] at Gq;clear hps e1 e2;go_wp2_with fail;refine Gq.mono ?_;rintro e w8⟨q8,c8,rfl,OT,G7⟩;have JQ:=Hi (HB.trans (G7.mono HB.size));have FZ:=Hi (HC aAA w8 q8 c8 JQ (D7.BU OT));have arC:=(HM.below JQ).cell;have arD:w8.cell? ⟨w.heap.size,0,none⟩=some (.pointer (some ⟨p,0,none⟩)):=by
    have h:=(G7.block _ (Ae VF)).trans VF.out;rw[AY _ _ _ _ _ _ h];rfl
   generalize (DF A9 l).length=dn at*;clear OT G7;go_wp2_with fail;refine FZ.mono ?_;rintro e w9⟨cc,rfl,Qa⟩;go_wp2_with fail;go_ret;exact⟨cc,rfl,Qa⟩
end Mem
namespace Dep
open Go.RowKit Go.Maps Go.Shelf
open Wal Fil Man Prs Kp BH Hex Sha Al Mem
attribute [local go_sem] Le
attribute [local go_sem ↓] bf
theorem TL:strCells []=[]:=by unfold strCells;rfl
theorem abM{W:World}{B n:Nat}{v:Value}{cs:List Value}{k:List T}(h:W.ownsRow B 9 1 v n cs){q:Option Addr}{cap:Nat}(hk:BB W q k)(hq:q=none→cap=0)(hn:n+k.length≤1000000000)(hb:B≤W.heap.size):
  ∃ v' w2,(Tn #[27,27] 27 #[v,.slice q k.length cap]).run prog W=.ok v' w2∧w2.ownsRow B 9 1 v' (n+k.length) (cs++strCells k)∧W.grownBy w2 v.ownBlock:=by
 obtain⟨i0,hi0,hz0,hz1,hz2⟩:=Cz Nr;cases q with
 |none=>
  obtain rfl:k=[]:=by
   cases k with
   |nil=>rfl
   |cons y k=>
    obtain⟨p,hp,_⟩:=hk 0 (by simp);cases hp
  rw[hq rfl];refine⟨v,W,run_append_owned_none (P:=prog) (w:=W) B 27 27 9 i0 1 underlying27 hi0 v n cs h,?_,World.grownBy.refl W _⟩;rw[TL,E8];exact h
 |some ad=>
  obtain⟨v',w2,h1,h2,h3,_,_⟩:=run_append_own_at (P:=prog) W B 27 27 9 i0 _ 1 16 underlying27 hi0 hz0 hz1 hz2 rfl (by decide) v n cs h ad k.length cap (strCells k) (by rw[strCells_length,Nat.mul_one]) (fun j u hj=>by
   have hjl:j < k.length:=by
    have:=(Ql.1 hj).1;rwa[strCells_length] at this
   rw[QA k j hjl] at hj;obtain⟨p,hp,hc⟩:=hk j hjl;cases hp;rw[hc,←hj]) (gL _) (by unfold maxLen;omega) (by omega) hb
  exact⟨v',w2,h1,h2,h3⟩
def EP(K:Kind)(A:M)(ks:List T):List T:=ks.flatMap fun t=>CF ((fileOf K A t).getD [])
theorem abN(K:Kind)(A:M)(ks:List T)(t:T):EP K A (ks++[t])=EP K A ks++CF ((fileOf K A t).getD []):=by
 unfold EP;rw[Kk];simp
theorem nY(l:M):(CF l).length≤l.length:=by
 unfold CF;have:=Ox (l.map (·.1));rwa[BQ] at this
theorem abO{K:Kind}(A:M)(ks:List T):(EP K A ks).length≤(EE K A ks).length:=by
 induction ks using OU with
 |h0=>exact Ab _
 |h1 ks t ih=>
  rw[abN,TA,Aj,Aj];have:=nY ((fileOf K A t).getD []);omega
theorem ams{K:Kind}{A:M}(hu:Up A):Az (EP K A (GK K A))=Au K A:=by
 unfold Au CF;rw[←XG hu];refine LK (Ew _) (Ew _) fun t=>?_
 rw[Df,Df,AV];unfold EP EE;rw[JE];constructor
 ·rintro⟨n,hn,h⟩;unfold CF at h;rw[Df,AV] at h;obtain⟨p,hp,e⟩:=h;exact⟨p,JE.2 ⟨n,hn,hp⟩,e⟩
 ·rintro⟨p,hp,e⟩;obtain⟨n,hn,hp⟩:=JE.1 hp;exact⟨n,hn,by unfold CF;rw[Df,AV];exact⟨p,hp,e⟩⟩
def JT(K:Kind)(A:M)(w:World)(oc B:Nat)(ks:List T)(W:World):Prop:=
 ∃ v,DZ 9 27 1 w oc B W (EP K A ks).length (strCells (EP K A ks)) v∧(ks=[]→v=.slice none 0 0)
theorem nZ(K:Kind)(A:M)(w:World)(oc:Nat):Rj w oc (JT K A w oc) where
 below:=fun B ks W W' ⟨v,h1,h2⟩ hb=>⟨v,h1.below hb,h2⟩
 raise:=fun B B' W ⟨v,h1,h2⟩ hb hs=>by
  have e:=h2 rfl;subst e;have e2:EP K A []=[]:=rfl;rw[e2,TL] at h1;exact⟨_,by rw[e2,TL];exact DZ.raise h1 hb hs,fun _=>rfl⟩
 put:=fun B ks W k o o' ⟨v,h1,h2⟩ ho hc hk=>⟨v,h1.put ho hc hk,h2⟩
theorem abP{w:World}{q:Option Addr}{cap:Nat}{l:M}(h:Av w q l)(hq:q=none→cap=0)(hl:l.length≤1000000):
  Calls prog 41 #[.slice q l.length cap] w fun e w'=>∃ v,e=.returned v∧Man.AQ w' w.heap.size v (CF l)∧Bw w w':=by
 have HK:=Hi (Vn h hq hl);clear h hq;go_enter func41,ntmps41;go_wp2_with fail;refine HK.mono ?_;rintro e w1⟨v,rfl,hr,hb⟩;have HR:=Hi hr;have HB:=Hi hb;obtain⟨q,c,rfl⟩:=AA hr;clear hr hb;go_wp2_with fail;go_ret;exact⟨_,rfl,HR,HB⟩
theorem amt{w W V:World}{Bx p:Nat}{A:M}{pre:List FU}{x:FU}{qv:Option Addr}{cv:Nat}(hO:DZ 9 27 1 w w.heap.size x.B W (EP A8 A (pre.map (·.name))).length (strCells (EP A8 A (pre.map (·.name)))) (.slice qv (EP A8 A (pre.map (·.name))).length cv))
  (hS:Jo w w.heap.size Bx x.B (.pointer (some ⟨p,0,none⟩)) 37 x.q x.c (A.map (·.1)) W)(hG:∀ z∈pre,z.B=x.B∧z.q=x.q∧z.c=x.c)(hT:∃ ts,pre.map (·.name)++x.name :: ts=GK A8 A)(hV:Bw W V){kq:Option Addr}{kc:Nat}{kr:List T}
  (hkr:Man.AQ V W.heap.size (.slice kq kr.length kc) kr)(hlen:(EP A8 A (pre.map (·.name))).length+kr.length≤1000000)(hke:kr=CF ((fileOf A8 A x.name).getD []):=by rfl):
  ∃ q7 c7 w7,(Tn #[27,27] 27 #[.slice qv (EP A8 A (pre.map (·.name))).length cv,.slice kq kr.length kc]).run prog V=.ok (.slice q7 ((EP A8 A (pre.map (·.name))).length+kr.length) c7) w7∧
   V.cell? ⟨w.heap.size,0,none⟩=some (.slice qv (EP A8 A (pre.map (·.name))).length cv)∧w7.cell? ⟨w.heap.size,0,none⟩=some (.slice qv (EP A8 A (pre.map (·.name))).length cv)∧w7.frozen? ⟨w.heap.size,0,none⟩=false∧
   LZ w w.heap.size Bx (.pointer (some ⟨p,0,none⟩)) 37 A8 A (JT A8 A w w.heap.size) (pre++[x]) (w7.setCell ⟨w.heap.size,0,none⟩ (.slice q7 ((EP A8 A (pre.map (·.name))).length+kr.length) c7))∧
   KeepsOthers W (w7.setCell ⟨w.heap.size,0,none⟩ (.slice q7 ((EP A8 A (pre.map (·.name))).length+kr.length) c7)):=by
 have hO4:=hO.below hV;have hkq:kq=none→kc=0:=fun e=>by
  rcases hkr.2 with⟨e1,_⟩|⟨g,cap,cur,e1,_⟩
  ·injection e1
  ·rw[e] at e1;injection e1 with e1;cases e1
 obtain⟨v7,w7,LX,JZ,Ga⟩:=abM (W:=V) hO4.row (CP hkr) hkq (by omega) hO4.size;obtain⟨q7,c7,rfl⟩:=AA JZ;have LY:=(Ga.block w.heap.size (Ae hO4.box) (fun e=>(hO4.ne e.symm).1 rfl)).trans hO4.box;have ayR:=hO.add hV Ga JZ;refine⟨q7,c7,w7,LX,cr hO4.box,cr LY,Cb w7 w.heap.size 0 _ _ LY,?_,hO.keeps hV Ga _⟩;refine bF hS hG hT (hO.turned hV Ga _) ⟨.slice q7 ((EP A8 A (pre.map (·.name))).length+kr.length) c7,?_,fun e=>by simp at e⟩;rw[abN,Aj,←hke,show strCells (EP A8 A (pre.map (·.name))++kr)=strCells (EP A8 A (pre.map (·.name)))++strCells kr by unfold strCells;rw[C8]];exact ayR
theorem Y4{w:World}{p y:Nat}{A:M}(hm:Ex w p y)(hf:I8 w y A)(hl:(Cm A8 A).length≤1000000):
  Calls prog 10 #[.pointer (some ⟨p,0,none⟩)] w fun e w'=>∃ v,e=.returned v∧Man.AQ w' w.heap.size v (Au A8 A)∧Bw w w':=by
 refine(Cu (n:=3)).1 ?_;have Mh:prog.follows .mixedOrders=true:=by kernel_rfl
 have HM:=Hi hm;have HF:=Hi hf;have HE:=Hi (XG (K:=A8) hf.up);have HL:=Hi hl;clear hm hf hl;refine callsIn_of_wp_marks func10 rfl trivial ?_ rfl;simp only[ntmps10,Ih,AX,FN,Nat.reduceAdd,Nat.reduceSub,JB,JA,Jz,JC,DI,FL]
 gi_wp2
 have hb0:=Am w (.cells #[.slice none 0 0] 27);have ho0:DZ 9 27 1 w w.heap.size (w.heap.size+1) (w.alloc (.cells #[.slice none 0 0] 27)) 0 [] (.slice none 0 0):=⟨hb0,Ab _,Nat.lt_succ_self _,by rw[Ai];exact Ab _,Aq w _,DJ _ _ _ _⟩;have NN:=Hi ho0;refine⟨trivial,(Cu.2 (ab7 p _)).mono ?_⟩;rintro e w2⟨rfl,hw2⟩;subst hw2
 gi_wp2
 have EC:=Hi (Aq (w.alloc (.cells #[.slice none 0 0] 27)) (.cells #[.pointer (some ⟨p,0,none⟩)] 37));have hb2:=Am (w.alloc (.cells #[.slice none 0 0] 27)) (.cells #[.pointer (some ⟨p,0,none⟩)] 37);have Cq:=Hi (NN.below hb2);have Db:=Hi (Ai w (.cells #[.slice none 0 0] 27));obtain⟨Bx,hBx⟩:=ex ((w.alloc (.cells #[.slice none 0 0] 27)).heap.size);rw[hBx] at EC Db;rw[show w.heap.size+1=Bx from Db.symm];obtain⟨U,hU⟩:=ex ((w.alloc (.cells #[.slice none 0 0] 27)).alloc (.cells #[.pointer (some ⟨p,0,none⟩)] 37));rw[hU] at EC Cq ⊢;clear hb0 hb2 ho0 NN hBx hU;refine bH (s:=4) (by omega) (gf:=111) (lb:=#[.pointer (some ⟨Bx,0,none⟩)]) rfl (enters_of func111 (by kernel_rfl) rfl) (e1:=fun x:FU=>.string (bs x.name)) (e2:=fun x:FU=>x.row)
  (Ia:=LZ w w.heap.size Bx (.pointer (some ⟨p,0,none⟩)) 37 A8 A (JT A8 A w w.heap.size)) (Iy:=PT w w.heap.size Bx (.pointer (some ⟨p,0,none⟩)) 37 A8 A (JT A8 A w w.heap.size))
  (fun xs=>bD (nZ _ _ _ _) Cq.Ao.size xs) (fun xs x=>bE (nZ _ _ _ _) Cq.Ao.size xs x)
  (ab8 2 (by omega) HM HF w.heap.size Bx (nZ _ _ _ _) U) (.inl ⟨rfl,Cq.Ao,Ab _,by have:=Db.out;omega,EC,w.heap.size+1,Cq.size,.slice none 0 0,by rw[show EP A8 A []=[] from rfl,TL];exact Cq.out,fun _=>rfl⟩)
  ?assign ?body ?done
 case assign=>
  intro l x W K hK;simp only[np] at hK ⊢
  gi_wp2
  exact hK
 case body=>
  intro l2 pre x W hy;obtain⟨hS,hG,hT,⟨v,hO,-⟩,⟨q2,c2,ED,hP,hq2,-⟩⟩:=hy;have hlen:(EP A8 A (pre.map (·.name))).length+(CF ((fileOf A8 A x.name).getD [])).length≤1000000:=by
   obtain⟨ts,hts⟩:=hT;have h1:=mG (K:=A8) (A:=A) (ks:=pre.map (·.name)++[x.name]) (ts:=ts);rw[Cw,List.singleton_append,hts,HE.out,TA,Aj] at h1;have h2:=abO (K:=A8) A (pre.map (·.name));have h3:=nY ((fileOf A8 A x.name).getD []);have:=HL.out;omega
  have hfl:=(PR (K:=A8) (A:=A) (name:=x.name)).1;have Gy:=Hi (fun(V:World) (hV:Bw W V)=>abP (w:=V) (hP.below hV) hq2 (by omega));obtain⟨qv,cv,rfl⟩:=AA hO.row;have cb:W.cell? ⟨w.heap.size,0,none⟩=some (.slice qv (EP A8 A (pre.map (·.name))).length cv):=cr hO.box;have aaK:=Ae hO.box;have HO:=Hi hO;have HS:=Hi hS;have HG:=Hi hG;have HT:=Hi hT;simp only[np];rw[ED];clear hP hq2 ED
  gi_wp2
  have cbd:W.drew.cell? ⟨w.heap.size,0,none⟩=some (.slice qv (EP A8 A (pre.map (·.name))).length cv):=cb;have o7:=Hi (fun(V:World) (hV:Bw W V) (kq:Option Addr) (kc:Nat) (hkr:Man.AQ V W.heap.size (.slice kq (CF ((fileOf A8 A x.name).getD [])).length kc) (CF ((fileOf A8 A x.name).getD [])))=>amt hO hS hG hT hV hkr hlen)
  gi_region_with_o (refine⟨trivial,(CallsIn.inRound l2 ((Cu (n:=0)).2 (Gy _ (by first|exact Ad _ _|exact(Ad _ _).drew)))).mono ?_⟩;rintro e w4 ⟨kv,rfl,hkr,hb4⟩;obtain⟨kq,kc,rfl⟩:=AA hkr;have hb4:Bw W w4:=(by first|exact hb4|exact((Ad _ W).drew).trans (hb4.mono (Ab _)));obtain⟨q7,c7,w7,LX,hc4,Vo,Vp,hnx,aAN⟩:=o7 w4 hb4 kq kc hkr;have Eg:=Hi hnx;have Tq:=Hi aAN;clear hnx aAN hkr hb4;gi_wp2)
  all_goals
   exact⟨Tq,Eg⟩
 case done=>
  intro D xs W hD hS hI hK2;obtain⟨B,v,hO,-⟩:=bI hI;rw[hS] at hO;obtain⟨q,c,rfl⟩:=AA hO.row;have Mr:=Hi (ams (K:=A8) HF.up);have hRl:(EP A8 A (GK A8 A)).length≤1000000:=by
   have:=abO (K:=A8) A (GK A8 A);rw[HE.out] at this;exact Ah this HL.out
  have Dn:=Hi (mP (w:=W) (base:=B) hO.row hRl);have HO:=Hi hO;have OI:=Hi hK2;have HD:=Hi (show w.heap.size≤D from Ah (Ah (Nat.le_succ _) Cq.size) hD);generalize EP A8 A (GK A8 A)=R at*;have cb:W.cell? ⟨w.heap.size,0,none⟩=some (.slice q R.length c):=cr hO.box;clear hS hI hK2 hD hO
  gi_wp2
  refine⟨trivial,(Cu.2 Dn).mono ?_⟩;rintro e w5⟨rv,rfl,hrr,hb5⟩;obtain⟨rq,rc,rfl⟩:=AA hrr;have NW:=(hb5.block _ (Ae HO.box)).trans HO.box;have c5:w5.cell? ⟨w.heap.size,0,none⟩=some (.slice q R.length c):=cr NW;have hf5:=Cb w5 w.heap.size 0 _ _ NW;have NY:=(hb5.block D (BZ.1 OI).1).trans OI.out;have FY:=(A7.refl (fun k=>k=w.heap.size) w5).setCell (p:=⟨w.heap.size,0,none⟩) (.inl rfl) (.slice rq (Az R).length rc);have Y5:=Bh w5 w.heap.size 0 _ _ (.slice rq (Az R).length rc) NW
  have DW:=Hi ((FY.block D (BZ.1 NY).1 (fun e=>by
   rw[e,NW] at NY;cases NY)).trans NY)
  have hoc:=HO.lt
  have Gu:=AL (Da hrr HO.Ao.size) FY (fun k hk e=>by
   have h1:=CJ hrr hk;have h2:=Ae HO.box;omega)
  have Em:=Hi ((HO.Ao.trans (hb5.mono HO.Ao.size)).setCell (p:=⟨w.heap.size,0,none⟩) (Ab _) (.slice rq (Az R).length rc));have IB:=Hi Gu
  have Tt:=Hi (show((w5.setCell ⟨w.heap.size,0,none⟩ (.slice rq (Az R).length rc)).putObj D (.deferred none)).cell? ⟨w.heap.size,0,none⟩=some (.slice rq (Az R).length rc) from by
   rw[AY _ _ _ _ _ _ (ME Y5 DW rfl)];rfl)
  clear hrr hb5 NW NY FY Y5 Gu
  gi_wp2
  refine⟨by simp,.inl ⟨_,_,rfl,run_takeDeferred DW,?_⟩⟩;have hu:A7 (fun i=>i=D) (w5.setCell ⟨w.heap.size,0,none⟩ (.slice rq (Az R).length rc)) ((w5.setCell ⟨w.heap.size,0,none⟩ (.slice rq (Az R).length rc)).putObj D (.deferred none)):=A7.of_grownBy (F:=fun i=>i=D) (grownBy_putObj' _ D (.deferred none)) (fun i e=>by cases e;rfl);refine⟨_,(by simp[results,results10,go_sem,Tt.out]),.slice rq (Az R).length rc,rfl,?_,Bu Em hu (fun i e=>by rw[e];exact HD.out) Em.size⟩;rw[←Mr.out]
  exact AL IB hu (fun k hk e=>by
   obtain⟨cs,fz,h2⟩:=Bi IB hk;rw[e,DW.out] at h2;cases h2)
end Dep
end Go.Proofs.YtmbbhdebddbhoaaGreat
