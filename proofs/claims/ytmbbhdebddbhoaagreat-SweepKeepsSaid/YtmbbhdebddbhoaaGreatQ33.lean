/- DepA SweW -/
import Derived.Test.YtmbbhdebddbhoaaGreatQ32
set_option maxHeartbeats 4000000
set_option maxRecDepth 100000
set_option linter.all false
namespace Go.Proofs.YtmbbhdebddbhoaaGreat
open Tryz
namespace Dep
open Go.RowKit Go.Maps Go.Shelf
open Wal Fil Man Prs Kp BH Hex Sha Al Mem
attribute [local go_sem] Le
attribute [local go_sem ↓] bf
def Dr(l:M):List T:=l.flatMap fun p=>(C9 p.2).getD []
theorem amI(l:M)(p:T×T):Dr (l++[p])=Dr l++(C9 p.2).getD []:=by unfold Dr;rw[Kk];simp
def Jt(A:M)(ks:List T):List T:=ks.flatMap fun t=>Dr ((fileOf A8 A t).getD [])
theorem oI(A:M)(ks:List T)(t:T):Jt A (ks++[t])=Jt A ks++Dr ((fileOf A8 A t).getD []):=by unfold Jt;rw[Kk];simp
theorem ac8(A:M)(ks:List T):Jt A ks=Dr (EE A8 A ks):=by
 induction ks using OU with
 |h0=>rfl
 |h1 ks t ih=>
  rw[oI,TA,ih];unfold Dr;rw[Kk]
theorem amJ{s:T}:((C9 s).getD []).length≤s.length:=by
 cases h:C9 s with
 |none=>exact Ar _
 |some l=>
  have h2:=Wj h;unfold Er at h2;split at h2
  ·cases ht:textsE l with
   |none=>rw[ht] at h2;cases h2
   |some a=>
    rw[ht] at h2;simp only[Dm,Bt] at h2;have h3:l.length≤a.length:=by
     clear h h2
     revert ht
     revert a
     rename_i hx
     clear hx;intro a ht
     induction l generalizing a with
     |nil=>exact Ar _
     |cons x l ih=>
      simp only[textsE] at ht;cases h1:CO x with
      |none=>rw[h1] at ht;cases ht
      |some y=>
       cases h4:textsE l with
       |none=>rw[h1,h4] at ht;cases ht
       |some z=>
        rw[h1,h4] at ht;simp only[BI,Dm,Bt] at ht;subst ht;have:=ih z h4;unfold CO at h1;split at h1
        ·simp only[Bt] at h1;subst h1;have hl2:(Crc.le 2 x.length).length=2:=Crc.Be _ _;simp only[Aj,AX,hl2];omega
        ·cases h1
    rw[←h2]
    show l.length≤_
    rw[Aj];omega
  ·cases h2
theorem amK(l:M):(Dr l).length≤(l.map fun p=>p.2.length).sum:=by
 induction l with
 |nil=>exact Ab _
 |cons p l ih=>
  show((C9 p.2).getD []++Dr l).length≤_
  rw[Aj,Bg,Cx];have:=@amJ p.2;omega
def JU(A:M)(w:World)(oc B:Nat)(ks:List T)(W:World):Prop:=
 ∃ v,DZ 9 27 1 w oc B W (Jt A ks).length (strCells (Jt A ks)) v∧(ks=[]→v=.slice none 0 0)
theorem oJ(A:M)(w:World)(oc:Nat):Rj w oc (JU A w oc) where
 below:=fun B ks W W' ⟨v,h1,h2⟩ hb=>⟨v,h1.below hb,h2⟩
 raise:=fun B B' W ⟨v,h1,h2⟩ hb hs=>by
  have e:=h2 rfl;subst e;have e2:Jt A []=[]:=rfl;rw[e2,TL] at h1;exact⟨_,by rw[e2,TL];exact DZ.raise h1 hb hs,fun _=>rfl⟩
 put:=fun B ks W k o o' ⟨v,h1,h2⟩ ho hc hk=>⟨v,h1.put ho hc hk,h2⟩
def ac9(w W:World)(oc B:Nat)(q2:Option Addr)(l:M)(acc:List T)(i:Value)(wr:World):Prop:=
 ∃ (k:Nat) (v:Value),k≤l.length∧i=.int .i64 (k:Int)∧DZ 9 27 1 w oc B wr (acc++Dr (l.take k)).length (strCells (acc++Dr (l.take k))) v∧A7 (fun j=>j=oc∨B≤j) W wr∧KeepsOthers W wr∧Av wr q2 l∧∀ p,q2=some p→l≠[]→Ap wr p.block 75
theorem amL{w wr V:World}{oc B:Nat}{acc kr:List T}{qv:Option Addr}{cv:Nat}(hO:DZ 9 27 1 w oc B wr acc.length (strCells acc) (.slice qv acc.length cv))(hV:Bw wr V){kq:Option Addr}{kc:Nat}(hkr:Man.AQ V wr.heap.size (.slice kq kr.length kc) kr)(hlen:acc.length+kr.length≤1000000000):
  ∃ q7 c7 w7,(Tn #[27,27] 27 #[.slice qv acc.length cv,.slice kq kr.length kc]).run prog V=.ok (.slice q7 (acc.length+kr.length) c7) w7∧
   V.cell? ⟨oc,0,none⟩=some (.slice qv acc.length cv)∧w7.cell? ⟨oc,0,none⟩=some (.slice qv acc.length cv)∧w7.frozen? ⟨oc,0,none⟩=false∧
   DZ 9 27 1 w oc B (w7.setCell ⟨oc,0,none⟩ (.slice q7 (acc.length+kr.length) c7)) (acc++kr).length (strCells (acc++kr)) (.slice q7 (acc.length+kr.length) c7)∧
   A7 (fun k=>k=oc∨Ap wr k 9) wr (w7.setCell ⟨oc,0,none⟩ (.slice q7 (acc.length+kr.length) c7))∧A7 (fun k=>k=oc∨B≤k) wr (w7.setCell ⟨oc,0,none⟩ (.slice q7 (acc.length+kr.length) c7))∧
   KeepsOthers wr (w7.setCell ⟨oc,0,none⟩ (.slice q7 (acc.length+kr.length) c7)):=by
 have hO4:=hO.below hV;have hkq:kq=none→kc=0:=fun e=>by
  rcases hkr.2 with⟨e1,_⟩|⟨g,cap,cur,e1,_⟩
  ·injection e1
  ·rw[e] at e1;injection e1 with e1;cases e1
 obtain⟨v7,w7,LX,JZ,Ga⟩:=abM (W:=V) hO4.row (CP hkr) hkq (by omega) hO4.size;obtain⟨q7,c7,rfl⟩:=AA JZ;have LY:=(Ga.block oc (Ae hO4.box) (fun e=>(hO4.ne e.symm).1 rfl)).trans hO4.box;refine⟨q7,c7,w7,LX,cr hO4.box,cr LY,Cb w7 oc 0 _ _ LY,?_,?_,hO.turned hV Ga _,hO.keeps hV Ga _⟩
 ·have ayR:=hO.add hV Ga JZ;rw[Aj,show strCells (acc++kr)=strCells acc++strCells kr by unfold strCells;rw[C8]];exact ayR
 ·have h1:A7 (fun k=>k=oc∨Ap wr k 9) wr V:=A7.of_below (F:=fun k=>k=oc∨Ap wr k 9) hV;have h2:A7 (fun k=>k=oc∨Ap wr k 9) V w7:=A7.of_grownBy (F:=fun k=>k=oc∨Ap wr k 9) Ga (fun k e=>.inr (Bi hO.row e));exact(h1.trans h2 (fun _ f=>.inl f)).setCell (p:=⟨oc,0,none⟩) (show(oc=oc∨_)∨_ from .inl (.inl rfl)) _
theorem amM{w:World}{p y:Nat}{A:M}(hm:Ex w p y)(hf:I8 w y A)(hl:(Cm A8 A).length≤1000000)(hlu:(Dr (Cm A8 A)).length≤1000000):
  Calls prog 45 #[.pointer (some ⟨p,0,none⟩)] w fun e w'=>∃ v,e=.returned v∧Man.AQ w' w.heap.size v (Az (Dr (Cm A8 A)))∧Bw w w':=by
 refine(Cu (n:=3)).1 ?_;have Mh:prog.follows .mixedOrders=true:=by kernel_rfl
 have HM:=Hi hm;have HF:=Hi hf;have HE:=Hi (XG (K:=A8) hf.up);have HL:=Hi hl;have HLU:=Hi hlu;clear hm hf hl hlu;refine callsIn_of_wp_marks func45 rfl trivial ?_ rfl;simp only[ntmps45,Ih,AX,FN,Nat.reduceAdd,Nat.reduceSub,JB,JA,Jz,JC,DI,FL]
 gi_wp2
 have hb0:=Am w (.cells #[.slice none 0 0] 27);have ho0:DZ 9 27 1 w w.heap.size (w.heap.size+1) (w.alloc (.cells #[.slice none 0 0] 27)) 0 [] (.slice none 0 0):=⟨hb0,Ab _,Nat.lt_succ_self _,by rw[Ai];exact Ab _,Aq w _,DJ _ _ _ _⟩;have NN:=Hi ho0;refine⟨trivial,(Cu.2 (ab7 p _)).mono ?_⟩;rintro e w2⟨rfl,hw2⟩;subst hw2
 gi_wp2
 have EC:=Hi (Aq (w.alloc (.cells #[.slice none 0 0] 27)) (.cells #[.pointer (some ⟨p,0,none⟩)] 37));have hb2:=Am (w.alloc (.cells #[.slice none 0 0] 27)) (.cells #[.pointer (some ⟨p,0,none⟩)] 37);have Cq:=Hi (NN.below hb2);have Db:=Hi (Ai w (.cells #[.slice none 0 0] 27));obtain⟨Bx,hBx⟩:=ex ((w.alloc (.cells #[.slice none 0 0] 27)).heap.size);rw[hBx] at EC Db;rw[show w.heap.size+1=Bx from Db.symm];obtain⟨U,hU⟩:=ex ((w.alloc (.cells #[.slice none 0 0] 27)).alloc (.cells #[.pointer (some ⟨p,0,none⟩)] 37));rw[hU] at EC Cq ⊢;clear hb0 hb2 ho0 NN hBx hU;refine bH (s:=4) (by omega) (gf:=111) (lb:=#[.pointer (some ⟨Bx,0,none⟩)]) rfl (enters_of func111 (by kernel_rfl) rfl) (e1:=fun x:FU=>.string (bs x.name)) (e2:=fun x:FU=>x.row)
  (Ia:=LZ w w.heap.size Bx (.pointer (some ⟨p,0,none⟩)) 37 A8 A (JU A w w.heap.size)) (Iy:=PT w w.heap.size Bx (.pointer (some ⟨p,0,none⟩)) 37 A8 A (JU A w w.heap.size))
  (fun xs=>bD (oJ _ _ _) Cq.Ao.size xs) (fun xs x=>bE (oJ _ _ _) Cq.Ao.size xs x)
  (ab8 2 (by omega) HM HF w.heap.size Bx (oJ _ _ _) U) (.inl ⟨rfl,Cq.Ao,Ab _,by have:=Db.out;omega,EC,w.heap.size+1,Cq.size,.slice none 0 0,by rw[show Jt A []=[] from rfl,TL];exact Cq.out,fun _=>rfl⟩)
  ?assign ?body ?done
 case assign=>
  intro l x W K hK;simp only[np] at hK ⊢
  gi_wp2
  exact hK
 case body=>
  intro l2 pre x W hy;obtain⟨hS,hG,hT,⟨v,hO,-⟩,⟨q2,c2,ED,hP,hq2,hPB⟩⟩:=hy;have hfl:=(PR (K:=A8) (A:=A) (name:=x.name));have HO:=Hi hO;have HS:=Hi hS;have HG:=Hi hG;have HT:=Hi hT;have HP:=Hi hP;have OV:=Hi hPB;have MK:=Hi hfl.2;have hlen:=hfl.1;simp only[np];rw[ED];clear hP hq2 ED hO hS hG hT hPB hfl;generalize hfr:(fileOf A8 A x.name).getD []=fr at*
  gi_wp2
  obtain⟨acc,ayl⟩:=ex (Jt A (pre.map (·.name)));have amN:=Hi ayl
  have TN:=Hi (show acc.length+(Dr fr).length≤1000000 from by
   obtain⟨ts,hts⟩:=HT.out;have h1:=ac8 A (GK A8 A);rw[HE.out] at h1;have h2:(Jt A (GK A8 A)).length≤1000000:=(by rw[h1];exact HLU.out);rw[←hts,show pre.map (·.name)++x.name :: ts=(pre.map (·.name)++[x.name])++ts by simp] at h2;unfold Jt at h2;rw[Kk,Aj] at h2;have h3:=oI A (pre.map (·.name)) x.name;unfold Jt at h3;rw[h3,Aj] at h2;unfold Jt at ayl;rw[ayl,hfr] at h2;omega)
  rw[ayl] at HO;have HFR:=Hi hfr;have hsb:W.heap.size=W.heap.size:=rfl;obtain⟨W0,hW0⟩:∃ W0,W0=W:=⟨_,rfl⟩;clear hfr ayl hsb
  gi_loopw [13] (fun i wr=>ac9 w W w.heap.size x.B q2 fr acc i wr) (fun i _=>fr.length -(intOf i).toNat)
  case atStart=>exact⟨0,v,Ar _,rfl,by rw[FJ,show Dr []=[] from rfl,E8];exact HO.out,A7.refl _ _,KeepsOthers.refl _,HP,OV⟩
  case round=>
   obtain⟨k,v1,hkl,rfl,h1,h2,h3,h4,h5⟩:=hrel;have H1:=Hi h1;have H2:=Hi h2;have H3:=Hi h3;have H4:=Hi h4;have H5:=Hi h5;clear h2 h3 h5;by_cases hlt:k < fr.length
   ·obtain⟨a,hix,ha,-⟩:=h4.index c2 k hlt;have c0:=ha.key;have c1:=ha.val;have hsv:=(MK _ (BF hlt)).2;have Bo:=Hi (show Dr (fr.take (k+1))=Dr (fr.take k)++(C9 fr[k].2).getD [] from by rw[BS hlt,amI])
    have XQ:=Hi (show acc.length+(Dr (fr.take k)).length+((C9 fr[k].2).getD []).length≤1000000 from by
     have h6:Dr fr=Dr (fr.take (k+1))++Dr (fr.drop (k+1)):=by
      unfold Dr;rw[←Kk,Ja]
     have h7:=TN.out;rw[h6,Bo.out,Aj,Aj] at h7;omega)
    generalize fr[k]=pr at*;have HKK:=Hi (fun(V:World)=>abb pr V hsv);generalize hkr:(C9 pr.2).getD []=kr at*;generalize hac:acc++Dr (fr.take k)=ac at*;have Vg:=Hi hac;have arH:ac.length+kr.length≤1000000:=(by rw[←hac,Aj];exact XQ.out);obtain⟨qv,cv,rfl⟩:=AA h1.row;have Bj:=Am wr (.cells #[.string (bs pr.1),.string (bs pr.2)] 75);have cb:wr.cell? ⟨w.heap.size,0,none⟩=some (.slice qv ac.length cv):=cr h1.box;have hnb:=Aq wr (.cells #[.string (bs pr.1),.string (bs pr.2)] 75);have azU:=Ai wr (.cells #[.string (bs pr.1),.string (bs pr.2)] 75);clear h1 h4 ha hac hkr
    gi_wp2
    have Ag:=Hi Bj;have oK:(wr.alloc (.cells #[.string (bs pr.1),.string (bs pr.2)] 75)).cell? ⟨wr.heap.size,0,none⟩=some (.string (bs pr.1)):=cr hnb;have VA:(wr.alloc (.cells #[.string (bs pr.1),.string (bs pr.2)] 75)).cell? ⟨wr.heap.size,1,none⟩=some (.string (bs pr.2)):=cr hnb;have cbo:(wr.alloc (.cells #[.string (bs pr.1),.string (bs pr.2)] 75)).cell? ⟨w.heap.size,0,none⟩=some (.slice qv ac.length cv):=(Bj.cell (p:=⟨w.heap.size,0,none⟩) (Bz cb)).trans cb;obtain⟨V,hV⟩:=ex (wr.alloc (.cells #[.string (bs pr.1),.string (bs pr.2)] 75));rw[hV] at Ag oK VA cbo azU ⊢;obtain⟨b,hb⟩:=ex (wr.heap.size);have MM:=Hi hb;have HSA:=Hi azU;rw[hb] at oK VA ⊢;clear hnb azU Bj hV hb c0 c1 cb hix;have o7:=Hi (fun(V2:World) (hV2:Bw wr V2) (kq:Option Addr) (kc:Nat) (hkr:Man.AQ V2 wr.heap.size (.slice kq kr.length kc) kr)=>amL H1 hV2 hkr (by omega));have arJ:V.drew.cell? ⟨w.heap.size,0,none⟩=some (.slice qv ac.length cv):=cbo;have arK:V.drew.cell? ⟨b,0,none⟩=some (.string (bs pr.1)):=oK;have arL:V.drew.cell? ⟨b,1,none⟩=some (.string (bs pr.2)):=VA
    gi_region_with_o (refine⟨trivial,(CallsIn.inRound l2 ((Cu (n:=0)).2 (HKK _))).mono ?_⟩;rintro e w4 ⟨kv,rfl,hkr,hb4⟩;obtain⟨kq,kc,rfl⟩:=AA hkr;have hb5:Bw wr w4:=(by first|exact Ag.trans (hb4.mono Ag.size)|exact Ag.trans ((Ad _ V).drew.trans (hb4.mono (Ab _)) |>.mono Ag.size));obtain⟨q7,c7,w7,LX,hc4,Vo,Vp,JZ,Q8,hv7,hk7⟩:=o7 w4 hb5 kq kc (Da hkr (by first|exact Ag.size|(rw[World.size_drew];exact Ag.size)));have HO7:=Hi JZ;have UE:=Hi Q8;have HV7:=Hi hv7;have IE:=Hi hk7;clear JZ Q8 hv7 hk7 hkr hb4 hb5;gi_wp2)
    all_goals
     have Ca:=Hi (show ac9 w W w.heap.size x.B q2 fr acc (.int .i64 ((k:Int)+1)) (w7.setCell ⟨w.heap.size,0,none⟩ (.slice q7 (ac.length+kr.length) c7)) from
      ⟨k+1,_,by omega,by go_num,by rw[Bo.out,←Cw,Vg.out];exact HO7.out,H2.trans HV7 (fun _ f=>.inl f),H3.trans IE.out,H4.upd UE (fun p e hne=>fun f=>by
       rcases f with f|⟨cs,fr,f⟩
       ·obtain⟨cs,fr,hb⟩:=H5 p e hne;rw[f,H1.box] at hb;injection hb with hb
        injection hb with _ hb
        exact absurd hb (by decide)
       ·obtain⟨cs2,fr2,hb⟩:=H5 p e hne;rw[hb] at f;injection f with f
        injection f with _ f
        exact absurd f (by decide)),fun p e hne=>by
       obtain⟨cs,fr,hb⟩:=H5 p e hne;refine⟨cs,fr,(UE.block _ (Ae hb) (fun f=>?_)).trans hb⟩;rcases f with f|⟨cs2,fr2,f⟩
       ·rw[f,H1.box] at hb;injection hb with hb
        injection hb with _ hb
        exact absurd hb (by decide)
       ·rw[hb] at f;injection f with f
        injection f with _ f
        exact absurd f (by decide)⟩)
     gi_wp2
     go_roundw
     case rel=>exact Ca.out
     case measure=>
      show fr.length -((k:Int)+1).toNat < fr.length -((k:Int)).toNat
      omega
   ·obtain rfl:k=fr.length:=(by omega);have Eg:=Hi (show LZ w w.heap.size Bx (.pointer (some ⟨p,0,none⟩)) 37 A8 A (JU A w w.heap.size) (pre++[x]) wr from bF HS HG HT H2 ⟨v1,by rw[oI,amN.out,HFR.out];have:=H1.out;rw[ET (Ab _)] at this;exact this,fun e=>by simp at e⟩);clear h1 h4
    gi_wp2
    exact⟨H3,Eg⟩
 case done=>
  intro D xs W hD hS hI hK2;obtain⟨B,v,hO,-⟩:=bI hI;rw[hS] at hO;obtain⟨q,c,rfl⟩:=AA hO.row;have Mr:=Hi (show Jt A (GK A8 A)=Dr (Cm A8 A) from by rw[ac8,HE.out]);have hRl:(Jt A (GK A8 A)).length≤1000000:=by rw[Mr.out];exact HLU.out
  have Dn:=Hi (mP (w:=W) (base:=B) hO.row hRl);have HO:=Hi hO;have OI:=Hi hK2;have HD:=Hi (show w.heap.size≤D from Ah (Ah (Nat.le_succ _) Cq.size) hD);generalize Jt A (GK A8 A)=R at*;have cb:W.cell? ⟨w.heap.size,0,none⟩=some (.slice q R.length c):=cr hO.box;clear hS hI hK2 hD hO
  gi_wp2
  refine⟨trivial,(Cu.2 Dn).mono ?_⟩;rintro e w5⟨rv,rfl,hrr,hb5⟩;obtain⟨rq,rc,rfl⟩:=AA hrr;have NW:=(hb5.block _ (Ae HO.box)).trans HO.box;have c5:w5.cell? ⟨w.heap.size,0,none⟩=some (.slice q R.length c):=cr NW;have hf5:=Cb w5 w.heap.size 0 _ _ NW;have NY:=(hb5.block D (BZ.1 OI).1).trans OI.out;have FY:=(A7.refl (fun k=>k=w.heap.size) w5).setCell (p:=⟨w.heap.size,0,none⟩) (.inl rfl) (.slice rq (Az R).length rc);have Y5:=Bh w5 w.heap.size 0 _ _ (.slice rq (Az R).length rc) NW
  have DW:=Hi ((FY.block D (BZ.1 NY).1 (fun e=>by
   rw[e,NW] at NY;cases NY)).trans NY)
  have hoc:=HO.lt
  have Gu:=AL (Da hrr HO.Ao.size) FY (fun k hk e=>by
   have h1:=CJ hrr hk;have h2:=Ae HO.box;omega)
  have Em:=Hi ((HO.Ao.trans (hb5.mono HO.Ao.size)).setCell (p:=⟨w.heap.size,0,none⟩) (Ab _) (.slice rq (Az R).length rc));have IB:=Hi Gu
  have Tt:=Hi (show((w5.setCell ⟨w.heap.size,0,none⟩ (.slice rq (Az R).length rc)).putObj D (.deferred none)).cell? ⟨w.heap.size,0,none⟩=some (.slice rq (Az R).length rc) from by
   rw[AY _ _ _ _ _ _ (ME Y5 DW rfl)];rfl)
  clear hrr hb5 NW NY FY Y5 Gu
  gi_wp2
  refine⟨by simp,.inl ⟨_,_,rfl,run_takeDeferred DW,?_⟩⟩;have hu:A7 (fun i=>i=D) (w5.setCell ⟨w.heap.size,0,none⟩ (.slice rq (Az R).length rc)) ((w5.setCell ⟨w.heap.size,0,none⟩ (.slice rq (Az R).length rc)).putObj D (.deferred none)):=A7.of_grownBy (F:=fun i=>i=D) (grownBy_putObj' _ D (.deferred none)) (fun i e=>by cases e;rfl);refine⟨_,(by simp[results,results45,go_sem,Tt.out]),.slice rq (Az R).length rc,rfl,?_,Bu Em hu (fun i e=>by rw[e];exact HD.out) Em.size⟩;rw[←Mr.out]
  exact AL IB hu (fun k hk e=>by
   obtain⟨cs,fz,h2⟩:=Bi IB hk;rw[e,DW.out] at h2;cases h2)
end Dep
namespace GL
open Go.RowKit Go.Maps
open Wal Fil Man Prs Kp BH Hex Sha Al Mem Dep
structure VK(A:M):Prop where
 O0:(Cm A9 A).length≤1000000
 M6:(Cm A8 A).length≤1000000
 keys:(Dr (Cm A8 A)).length≤1000000
 Y7:∀ t∈Au A9 A,t.length≤100000
 ach:∀ t∈Au A8 A,t.length≤100000
 aci:∀ t∈Dr (Cm A8 A),t.length≤100000
def mk(A:M)(roots rs:List T):List T:=(rs.filter fun r=>decide (r∈roots)).flatMap fun r=>(getU A r).1
theorem acj(A:M)(roots rs:List T)(r:T):mk A roots (rs++[r])=mk A roots rs++if r∈roots then(getU A r).1 else[]:=by
 unfold mk;rw[O1,Kk]
 congr 1
 by_cases h:r∈roots
 ·rw[Ac h];simp[h]
 ·rw[Aa h];simp[h]
theorem amR{K:Kind}{A:M}{k v:T}(h:Ct K A k=some v):(fileOf K A (K.nm k)).isSome=true:=by
 unfold Ct at h;cases hf:fileOf K A (K.nm k) with
 |none=>rw[hf] at h;cases h
 |some l=>rfl
theorem Y8{A:M}(hu:Up A){r:T}(h:r∈Au A8 A):(getU A r).1=JX both A r:=by
 have h1:=(LP FH hu r).1 h;obtain⟨v,hv⟩:=JD.1 h1;unfold getU;rw[Aa (fun e=>by rw[amR hv] at e;exact absurd e.2 (by decide))];unfold JX dV;have hv':Ct both.d A r=some v:=hv;rw[hv,hv'];rfl
theorem amS{A:M}(hu:Up A)(roots:List T)(t:T):t∈mk A roots (Au A8 A)↔FE both A roots t:=by
 unfold mk FE;rw[JE];constructor
 ·rintro⟨r,hr,ht⟩;obtain⟨h1,h2⟩:=CU.1 hr;rw[Y8 hu h1] at ht;exact⟨r,h1,by simpa using h2,ht⟩
 ·rintro⟨r,h1,h2,ht⟩;exact⟨r,CU.2 ⟨h1,by simpa using h2⟩,by rw[Y8 hu h1];exact ht⟩
theorem amT{A:M}(hu:Up A)(roots:List T):∀ t∈mk A roots (Au A8 A),t∈Dr (Cm A8 A):=fun t ht=>by
 unfold mk at ht;obtain⟨r,hr,ht⟩:=JE.1 ht;have h1:=(CU.1 hr).1;obtain⟨v,hv⟩:=JD.1 ((LP FH hu r).1 h1);have h2:=(Vb FH hu r v).2 hv;unfold Dr;refine JE.2 ⟨(r,v),h2,?_⟩;rw[Y8 hu h1] at ht;unfold JX dV at ht;have hv':Ct both.d A r=some v:=hv;rw[hv'] at ht;exact ht
theorem amU{A:M}{r:T}:(getU A r).1.length≤65535:=by
 unfold getU;split
 ·exact Ar _
 ·cases hv:Ct A8 A r with
  |none=>exact Ar _
  |some v=>
   show((C9 v).getD []).length≤65535
   cases hr:C9 v with
   |none=>exact Ar _
   |some l=>exact ab2 hr
theorem TP{α:Type}{a b:List α}(h:a.Sublist b)(f:α→Nat):(a.map f).sum≤(b.map f).sum:=by
 induction h with
 |slnil=>exact Ab _
 |cons x _ ih=>rw[Bg,Cx];omega
 |cons_cons x _ ih=>rw[Bg,Cx,Bg,Cx];omega
theorem amV{A:M}(hu:Up A)(roots:List T)(k:Nat):(mk A roots ((Au A8 A).take k)).length≤(Dr (Cm A8 A)).length:=by
 have h0:(mk A roots ((Au A8 A).take k)).length≤(((Au A8 A)).map fun r=>(getU A r).1.length).sum:=by
  unfold mk;rw[List.length_flatMap];refine Ah (TP (List.filter_sublist) _) (TP (List.take_sublist _ _) _)
 refine Ah h0 (Nat.le_of_eq ?_);have hp:(Au A8 A).Perm ((Cm A8 A).map (·.1)):=by
  refine(List.perm_ext_iff_of_nodup (SX _) (l7 hu)).2 fun t=>?_
  exact Df _ _
 rw[(hp.map fun r=>(getU A r).1.length).sum_nat,List.map_map];unfold Dr;rw[List.length_flatMap]
 congr 1
 refine Nb fun p hp=>?_
 have hv:=(Vb FH hu p.1 p.2).1 hp
 show(getU A p.1).1.length=_
 have hm:p.1∈Au A8 A:=(LP FH hu p.1).2 (by rw[hv];rfl);rw[Y8 hu hm];unfold JX dV;have hv':Ct both.d A p.1=some p.2:=hv;rw[hv'];rfl
theorem ack(m n:Nat)(c:T→Nat):ac6 (fun W=>FI W m c n) (.func (.func 47) #[.map (some m)] #[]) (fun t=>decide (c t=0)):=
 ⟨_,_,_,rfl,enters_of func47 (by kernel_rfl) rfl,fun W t ht h=>amD h t ht⟩
theorem FI.BV{w:World}{m n:Nat}{c:T→Nat}(h:FI w m c n){t:TypeId}:¬ Ap w m t:=by
 obtain⟨kv,⟨_,D,⟨es,clock,hm,_⟩,_⟩,_⟩:=h;rintro⟨cs,fr,hb⟩;rw[hm] at hb;injection hb with hb
 cases hb
theorem FI.upd{w w':World}{m n:Nat}{c:T→Nat}{F:Nat→Prop}(h:FI w m c n)(hu:A7 F w w')(hF:¬ F m):FI w' m c n:=by
 obtain⟨kv,h1,h2,h3⟩:=h;exact⟨kv,h1.kept (hu.block m h1.lt hF),h2,h3⟩
theorem oL{w:World}{base n c:Nat}{p:Addr}{l:List T}(h:Man.AQ w base (.slice (some p) n c) l):base≤p.block:=by
 rcases h.2 with⟨e1,_⟩|⟨g,cap',cur,e1,h1,_⟩
 ·injection e1 with e1;cases e1
 ·have e2:p=⟨g,0,none⟩:=by injection e1 with e1;injection e1
  subst e2;exact CJ h rfl
def oM(w w0:World)(m B:Nat)(A:M)(roots:List T)(s i:Value)(wr:World):Prop:=
 ∃ (k:Nat) (o:List T) (q:Option Addr) (c:Nat),k≤(Au A8 A).length∧i=.int .i64 (k:Int)∧s=.slice q o.length c∧Man.AQ wr B (.slice q o.length c) o∧o=((Au A8 A).take k).filter (fun r=>decide (r∉roots))∧
  FI wr m (fun t=>(mk A roots ((Au A8 A).take k)).count t) (mk A roots ((Au A8 A).take k)).length∧A7 (fun j=>j=m∨B≤j) w0 wr∧Bw w wr
theorem acm{w:World}{pm pd y:Nat}{A:M}{q:Option Addr}{cap:Nat}{roots:List T}(hm:DR w pm y)(hd:Ex w pd y)(hf:I8 w y A)(IG:VK A)(hr:BB w q roots)(hrl:roots.length≤1000000):
  Calls prog 23 #[.pointer (some ⟨pm,0,none⟩),.pointer (some ⟨pd,0,none⟩),.slice q roots.length cap] w fun e w'=>∃ v1 v2,e=.returned (.tuple #[v1,v2,.int .i64 0])∧Man.AQ w' w.heap.size v1 (F7 both A roots)∧Man.AQ w' w.heap.size v2 (DY both A roots)∧Bw w w':=by
 obtain⟨i0,hi0,hz0,hz1,hz2⟩:=Cz Nr;have HM:=Hi hm;have HD:=Hi hd;have HF:=Hi hf;have Ez:=Hi IG;have HR:=Hi hr;have hmm:=@run_makeMap prog;have arM:(Au A8 A).length≤1000000:=by rw[JW (K:=A8) hf.up];exact IG.M6
 clear hm hd hf IG hr;go_enter func23,ntmps23;go_wp2_with fail;refine(ac3 _ _ _).mono ?_;rintro e w1⟨rfl,hw1⟩;subst hw1;go_wp2_with fail;have Bj:=Am w (.map #[] 0);have HB0:=Hi Bj;have Jk:=Hi (FI.made w);have acn:=Hi (Y4 (HD.below Bj) (HF.below Bj) Ez.M6);have hsz:=Ai w (.map #[] 0);have Db:=Hi hsz;clear Bj hsz;refine acn.mono ?_;rintro e w2⟨v2,rfl,aua,hb2⟩;obtain⟨rq,rc,rfl⟩:=AA aua;have amW:=Hi aua;have HB2:=Hi (HB0.trans (hb2.mono HB0.size));have oN:=Hi (Jk.below hb2)
 have Qd:=Hi (show ∀ p,rq=some p→Au A8 A≠[]→w.heap.size < p.block∧p.block < w2.heap.size from fun p e hne=>by
  subst e;have h1:=oL aua;have h2:=Db.out;have h3:=(CP aua) 0 (List.length_pos_iff.2 hne);obtain⟨p2,e2,hc⟩:=h3;cases e2;have h4:=Bz hc;rw[add_block] at h4;exact⟨by omega,h4⟩)
 clear aua hb2 acn Jk;go_wp2_with fail
 go_loopw [6,26] (fun s i wr=>oM w w2 w.heap.size w2.heap.size A roots s i wr) (fun _ i _=>(Au A8 A).length -(intOf i).toNat)
 case atStart=>exact⟨0,[],none,0,Ar _,rfl,rfl,XN _ _,by simp,oN,A7.refl _ _,HB2⟩
 case round=>
  obtain⟨k,o,qo,co,hk,rfl,rfl,ast,ho,hmk,hu,hb⟩:=hrel;have Ce:=Hi ast;have HO:=Hi ho;have oO:=Hi hmk;have HU:=Hi hu;have HB:=Hi hb;have hol:o.length≤1000000:=by
   rw[ho];have:=Km (fun r=>decide (r∉roots)) ((Au A8 A).take k);rw[Aw] at this;have h2:=JW (K:=A8) HF.up;have h3:=Ez.M6;omega
  clear ast ho hmk;by_cases hlt:k < (Au A8 A).length
  ·have jG:=(CP amW).upd hu (fun p e hne f=>by
    obtain⟨l1,l2⟩:=Qd p e hne;omega)
   obtain⟨a,hix,c0⟩:=jG.index rc k hlt;have aC9:=Ez.ach _ (BF hlt);have Bo:=Hi (BS hlt);have TN:=Hi (amV HF.up roots (k+1));rw[Bo.out] at TN;generalize (Au A8 A)[k]=run at*;have HC:=Hi (mO cap (HR.below hb) run (by omega));clear hu hb jG;by_cases hin:run∈roots
   ·rw[Gs hin] at HC;have HG:=Hi (fun(V:World) (hV:Bw w V)=>abd (HD.below hV) (HF.bB hV) run (by omega));have TQ:=Hi (show mk A roots ((Au A8 A).take k++[run])=mk A roots ((Au A8 A).take k)++(getU A run).1 from by rw[acj,Ac hin]);have IQ:=Hi (show((Au A8 A).take k++[run]).filter (fun r=>decide (r∉roots))=o from by rw[O1,←HO.out];simp[hin]);clear hin;go_wp2_with fail;refine HC.mono ?_;rintro e w3⟨rfl,hb3⟩;have HB3:=Hi (HB.trans (hb3.mono HB.size));have Y9:=Hi (oO.below hb3);have Hm:=Hi (Bp Ce hb3);have EZ:=Hi (HU.trans (ub hb3) (fun _ f=>f.elim));clear hb3;go_wp2_with fail;refine(HG _ HB3).mono ?_;rintro e w4⟨kv,rfl,hkr,hb4⟩;obtain⟨kq,kc,rfl⟩:=AA hkr;have Ay:=Hi (HB3.trans (hb4.mono HB3.size));have aco:=Hi (Y9.below hb4);have Rn:=Hi (Bp Hm hb4);have Mv:=Hi (EZ.trans (ub hb4) (fun _ f=>f.elim));have hlen:=TN.out;rw[TQ.out,Aj] at hlen
    have oP:=Hi (ac5 (cap:=kc) aco (CP hkr) (fun p e hne f=>by
     subst e;have h1:=oL hkr;have h2:=Y9.lt;omega) (fun t ht=>by
      have h1:=Ez.aci t (amT HF.up roots t (by
       have:=List.mem_append_right (mk A roots ((Au A8 A).take k)) ht;rw[←TQ.out,←Bo.out] at this;unfold mk at this ⊢;obtain⟨r,hr,hx⟩:=JE.1 this;exact JE.2 ⟨r,((List.take_sublist _ _).filter _).subset hr,hx⟩))
      omega) (by have:=Ez.keys;omega) (fun t=>by have:=List.count_le_length (a:=t) (l:=mk A roots ((Au A8 A).take k));have:=Ez.keys;omega))
    clear hb4 hkr;go_wp2_with fail;refine oP.mono ?_;rintro e w5⟨⟨v5,rfl⟩,aAT,Et⟩
    have Ca:=Hi (show oM w w2 w.heap.size w2.heap.size A roots (.slice qo o.length co) (.int .i64 ((k:Int)+1)) w5 from
     ⟨k+1,o,qo,co,by omega,by go_num,rfl,AL Rn Et (fun g hg e=>by
      rw[e] at hg;exact aco.BV (Bi Rn hg)),by rw[Bo.out,IQ.out],by
      rw[Bo.out,TQ.out,Aj];have e1:(fun t=>(mk A roots ((Au A8 A).take k)++(getU A run).1).count t)=fun t=>(mk A roots ((Au A8 A).take k)).count t+((getU A run).1).count t:=by funext t;rw[List.count_append]
      rw[e1];exact aAT,Mv.trans Et (fun _ f=>.inl (.inl f)),Bu Ay Et (fun i e=>Nat.le_of_eq e.symm) Ay.size⟩)
    clear aAT Et;go_wp2_with fail;go_roundw
    case rel=>exact Ca.out
    case measure=>
     show(Au A8 A).length -((k:Int)+1).toNat < (Au A8 A).length -((k:Int)).toNat
     omega
   ·rw[Ma hin] at HC;have TQ:=Hi (show mk A roots ((Au A8 A).take k++[run])=mk A roots ((Au A8 A).take k) from by rw[acj,Aa hin,E8]);have IQ:=Hi (show((Au A8 A).take k++[run]).filter (fun r=>decide (r∉roots))=o++[run] from by rw[O1,←HO.out];simp[hin]);clear hin;go_wp2_with fail;refine HC.mono ?_;rintro e w3⟨rfl,hb3⟩;have HB3:=Hi (HB.trans (hb3.mono HB.size));have Y9:=Hi (oO.below hb3);have Hm:=Hi (Bp Ce hb3);have EZ:=Hi (HU.trans (ub hb3) (fun _ f=>f.elim));clear hb3;go_wp2_with (at_builtin;refine wpList_append_own_at _ rfl _ _ 27 rfl w2.heap.size 9 i0 _ 1 16 underlying27 hi0 hz0 hz1 hz2 rfl (by decide) _ o.length _ rfl (Hm.alloc _) ⟨w3.heap.size,0,none⟩ 1 1 [.string (bs run)] rfl rfl (by intro j u hj;rw[add_plain,CV];exact(CB▸hj)) (by simp[Value.oneCell']) (by unfold maxLen;omega) (by omega) (by have:=EZ.size;simp;omega) ?_;intro v' w4 asJ asx _ hat;obtain⟨g',cap',rfl⟩:=ownsRow_succ asJ;have HOW:=Hi asJ;have HG:=Hi asx;clear asJ asx hat)
    have Ca:=Hi (show oM w w2 w.heap.size w2.heap.size A roots (.slice (some ⟨g',0,none⟩) (o.length+1) cap') (.int .i64 ((k:Int)+1)) w4 from
     ⟨k+1,o++[run],some ⟨g',0,none⟩,cap',by omega,by go_num,by rw[Aj];rfl,by
      unfold Man.AQ;rw[Aj,show strCells (o++[run])=strCells o++[.string (bs run)] by unfold strCells;rw[C8];rfl];exact HOW.out,by rw[Bo.out,IQ.out],by
      rw[Bo.out,TQ.out];refine(Y9.below (Am w3 _)).upd (A7.of_grownBy (F:=fun j=>(Value.slice qo o.length co).ownBlock=some j) HG (fun j e=>e)) (fun e=>?_);exact Y9.BV (Bi Hm e),(EZ.alloc _).trans (A7.of_grownBy (F:=fun j=>w2.heap.size≤j) HG (fun j e=>CJ Hm e)) (fun _ f=>.inl (.inr f)),(HB3.alloc HB3.size _).grown HG (by rw[Ai];have:=HB3.size;omega) (fun j hj=>Ah HB2.size (CJ Hm hj))⟩)
    go_roundw
    case rel=>exact Ca.out
    case measure=>
     show(Au A8 A).length -((k:Int)+1).toNat < (Au A8 A).length -((k:Int)).toNat
     omega
  ·obtain rfl:k=(Au A8 A).length:=(by omega);have ho:=HO.out;have hmk:=oO.out;rw[Ck] at ho hmk;have HK:=Hi (bJ (HM.below hb) (HF.below hb) Ez.O0);have FQ:=Hi (show(Au A9 A).length≤1000000 from by rw[JW (K:=A9) HF.up];exact Ez.O0);obtain⟨n9,Ya⟩:=ex ((mk A roots (Au A8 A)).length);rw[Ya] at hmk;have oQ:=Hi hmk;have Ef:=Hi (show o=F7 both A roots from ho)
   have HE2:=Hi (show(Au A9 A).filter (fun t=>decide ((mk A roots (Au A8 A)).count t=0))=DY both A roots from by
    unfold DY;refine List.filter_congr fun t _=>?_
    rw[decide_eq_decide,List.count_eq_zero];exact not_congr (amS HF.up roots t))
   have IV:=Hi (ack w.heap.size n9 (fun t=>(mk A roots (Au A8 A)).count t));clear ho hmk Ya hu hb;go_wp2_with fail;refine HK.mono ?_;rintro e w3⟨kv,rfl,hkr,hb3⟩;obtain⟨kq,kc,rfl⟩:=AA hkr;have HB3:=Hi (HB.trans (hb3.mono HB.size));have Hm:=Hi (Bp Ce hb3);have TR:=oQ.below hb3;have Yb:=Hi (ac7 (cap:=kc) (CP hkr) IV (fun W hW=>TR.below hW) (fun t ht=>Ah (Ez.Y7 t ht) (by decide)) FQ);rw[HE2.out] at Yb;clear hb3 hkr TR;go_wp2_with fail;refine Yb.mono ?_;rintro e w4⟨u,rfl,hr4,hb4⟩;obtain⟨uq,uc,rfl⟩:=AA hr4;have HR4:=Hi (Da hr4 HB3.size);have Ay:=Hi (HB3.trans (hb4.mono HB3.size));have Rn:=Hi (Da (Bp Hm hb4) HB2.size);clear hr4 hb4;go_wp2_with fail;refine Dt (v:=.tuple #[.slice qo o.length co,.slice uq (DY both A roots).length uc,.int .i64 0]) (by simp[results,results23,go_sem]) rfl ⟨_,_,rfl,?_,HR4,Ay⟩;rw[←Ef.out];exact Rn.out
theorem amX{A:M}(hu:Up A)(t:T):t∈Az (Dr (Cm A8 A))↔Used both A t:=by
 rw[Df];unfold Used Dr;rw[JE];constructor
 ·rintro⟨p,hp,ht⟩;have hv:=(Vb FH hu p.1 p.2).1 hp;refine⟨p.1,(LP FH hu p.1).2 (by rw[hv];rfl),?_⟩;unfold JX dV;have hv':Ct both.d A p.1=some p.2:=hv;rw[hv'];exact ht
 ·rintro⟨r,hr,ht⟩;obtain⟨v,hv⟩:=JD.1 ((LP FH hu r).1 hr);refine⟨(r,v),(Vb FH hu r v).2 hv,?_⟩;unfold JX dV at ht;have hv':Ct both.d A r=some v:=hv;rw[hv'] at ht;exact ht
theorem acp{w:World}{pm pd y:Nat}{A:M}(hm:DR w pm y)(hd:Ex w pd y)(hf:I8 w y A)(IG:VK A):
  Calls prog 11 #[.pointer (some ⟨pm,0,none⟩),.pointer (some ⟨pd,0,none⟩)] w fun e w'=>∃ v,e=.returned (.tuple #[v,.int .i64 0])∧Man.AQ w' w.heap.size v (Ra both A)∧Bw w w':=by
 have HM:=Hi hm;have HD:=Hi hd;have HF:=Hi hf;have Ez:=Hi IG;have hmm:=@run_makeMap prog;clear hm hd hf IG;go_enter func11,ntmps11;go_wp2_with fail;refine(ac3 _ _ _).mono ?_;rintro e w1⟨rfl,hw1⟩;subst hw1;go_wp2_with fail;have Bj:=Am w (.map #[] 0);have HB0:=Hi Bj;have Jk:=Hi (FI.made w);have Eh:=Hi (amM (HD.below Bj) (HF.below Bj) Ez.M6 Ez.keys);have hsz:=Ai w (.map #[] 0);have Db:=Hi hsz;clear Bj hsz;refine Eh.mono ?_;rintro e w2⟨v2,rfl,aua,hb2⟩;obtain⟨rq,rc,rfl⟩:=AA aua;have HB2:=Hi (HB0.trans (hb2.mono HB0.size));have oN:=Hi (Jk.below hb2);have MP:=Hi (amX (A:=A) HF.up);have acr:=Hi (show(Az (Dr (Cm A8 A))).length≤1000000 from Ah (Ox _) Ez.keys);have acs:=Hi (show ∀ t∈Az (Dr (Cm A8 A)),t.length≤1000000 from fun t ht=>Ah (Ez.aci t ((Df _ _).1 ht)) (by decide))
 have acu:=Hi (show ∀ p,rq=some p→Az (Dr (Cm A8 A))≠[]→p.block≠w.heap.size from fun p e hne f=>by
  subst e;have h1:=oL aua;have h2:=Db.out;omega)
 obtain⟨us,EJ⟩:=ex (Az (Dr (Cm A8 A)));rw[EJ] at aua MP acr acs acu ⊢;have oP:=Hi (ac5 (cap:=rc) oN (CP aua) acu acs (by have:=acr.out;omega) (fun t=>Ar _));clear aua hb2 Eh Jk EJ;go_wp2_with fail;refine oP.mono ?_;rintro e w3⟨⟨v3,rfl⟩,TR,hu3⟩;have HB3:=Hi (Bu HB2 hu3 (fun i e=>Nat.le_of_eq e.symm) HB2.size);have HK:=Hi (bJ (HM.below HB3) (HF.below HB3) Ez.O0);have FQ:=Hi (show(Au A9 A).length≤1000000 from by rw[JW (K:=A9) HF.up];exact Ez.O0);have e1:(fun t=>0+us.count t)=fun t=>us.count t:=by funext t;rw[Fs]
 rw[e1] at TR;obtain⟨n9,Ya⟩:=ex (0+us.length);rw[Ya] at TR;have oQ:=Hi TR
 have HE2:=Hi (show(Au A9 A).filter (fun t=>decide (us.count t=0))=Ra both A from by
  unfold Ra;refine List.filter_congr fun t _=>?_
  rw[decide_eq_decide,List.count_eq_zero];exact not_congr (MP t))
 have IV:=Hi (ack w.heap.size n9 (fun t=>us.count t));clear TR hu3 Ya e1;go_wp2_with fail;refine HK.mono ?_;rintro e w4⟨kv,rfl,hkr,hb4⟩;obtain⟨kq,kc,rfl⟩:=AA hkr;have Ay:=Hi (HB3.trans (hb4.mono HB3.size));have acv:=oQ.below hb4;have Yb:=Hi (ac7 (cap:=kc) (CP hkr) IV (fun W hW=>acv.below hW) (fun t ht=>Ah (Ez.Y7 t ht) (by decide)) FQ);rw[HE2.out] at Yb;clear hb4 hkr acv;go_wp2_with fail;refine Yb.mono ?_;rintro e w5⟨u,rfl,J5,hb5⟩;obtain⟨uq,uc,rfl⟩:=AA J5;have JK:=Hi (Da J5 Ay.size);have BG:=Hi (Ay.trans (hb5.mono Ay.size));clear J5 hb5;go_wp2_with fail;go_ret2;exact⟨_,rfl,JK,BG⟩
end GL
end Go.Proofs.YtmbbhdebddbhoaaGreat
