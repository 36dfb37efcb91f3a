/- DepA SweW -/
import Derived.Test.YtmbbhdebddbhoaaGreatR31
set_option maxHeartbeats 4000000
set_option maxRecDepth 100000
set_option linter.all false
namespace Go.Proofs.YtmbbhdebddbhoaaGreat
open Tryz
namespace Dep
open Go.RowKit Go.Maps Go.Shelf
open Wal Fil Man Prs Kp Cm Hex Sha Al Mem
attribute [local go_sem] Om
attribute [local go_sem ↓] nS
def EF(l:M):List T:=l.flatMap fun p=>(CW p.2).getD []
theorem avG(l:M)(p:T×T):EF (l++[p])=EF l++(CW p.2).getD []:=by unfold EF;rw[NA];simp
def N8(A:M)(ks:List T):List T:=ks.flatMap fun t=>EF ((fileOf A9 A t).getD [])
theorem yo(A:M)(ks:List T)(t:T):N8 A (ks++[t])=N8 A ks++EF ((fileOf A9 A t).getD []):=by unfold N8;rw[NA];simp
theorem afa(A:M)(ks:List T):N8 A ks=EF (Jh A9 A ks):=by
 induction ks using Uo with
 |h0=>rfl
 |h1 ks t ih=>
  rw[yo,kY,ih];unfold EF;rw[NA]
theorem axU{s:T}:((CW s).getD []).length≤s.length:=by
 cases h:CW s with
 |none=>exact AB _
 |some l=>
  have h2:=kU h;unfold FZ at h2;split at h2
  ·cases ht:textsE l with
   |none=>rw[ht] at h2;cases h2
   |some a=>
    rw[ht] at h2;simp only[Ej,BX] at h2;have h3:l.length≤a.length:=by
     clear h h2
     revert ht
     revert a
     rename_i hx
     clear hx;intro a ht
     induction l generalizing a with
     |nil=>exact AB _
     |cons x l ih=>
      simp only[textsE] at ht;cases h1:DJ x with
      |none=>rw[h1] at ht;cases ht
      |some y=>
       cases h4:textsE l with
       |none=>rw[h1,h4] at ht;cases ht
       |some z=>
        rw[h1,h4] at ht;simp only[Cj,Ej,BX] at ht;subst ht;have:=ih z h4;unfold DJ at h1;split at h1
        ·simp only[BX] at h1;subst h1;have FV:(Crc.le 2 x.length).length=2:=Crc.BK _ _;simp only[Au,Br,FV];omega
        ·cases h1
    rw[←h2]
    show l.length≤_
    rw[Au];omega
  ·cases h2
theorem avF(l:M):(EF l).length≤(l.map fun p=>p.2.length).sum:=by
 induction l with
 |nil=>exact Ac _
 |cons p l ih=>
  show((CW p.2).getD []++EF l).length≤_
  rw[Au,BL,Dq];have:=@axU p.2;omega
def JU(A:M)(w:World)(oc B:Nat)(ks:List T)(W:World):Prop:=
 ∃ v,Fe 9 27 1 w oc B W (N8 A ks).length (strCells (N8 A ks)) v∧(ks=[]→v=.slice none 0 0)
theorem abK(A:M)(w:World)(oc:Nat):Yr w oc (JU A w oc) where
 below:=fun B ks W W' ⟨v,h1,h2⟩ hb=>⟨v,h1.below hb,h2⟩
 raise:=fun B B' W ⟨v,h1,h2⟩ hb hs=>by
  have e:=h2 rfl;subst e;have e2:N8 A []=[]:=rfl;rw[e2,ZM] at h1;exact⟨_,by rw[e2,ZM];exact Fe.raise h1 hb hs,fun _=>rfl⟩
 put:=fun B ks W k o o' ⟨v,h1,h2⟩ ho hc hk=>⟨v,h1.put ho hc hk,h2⟩
def adA(w W:World)(oc B:Nat)(q2:Option Addr)(l:M)(acc:List T)(i:Value)(wr:World):Prop:=
 ∃ (k:Nat) (v:Value),k≤l.length∧i=.int .i64 (k:Int)∧Fe 9 27 1 w oc B wr (acc++EF (l.take k)).length (strCells (acc++EF (l.take k))) v∧A7 (fun j=>j=oc∨B≤j) W wr∧KeepsOthers W wr∧AO wr q2 l∧∀ p,q2=some p→l≠[]→AA wr p.block 75
theorem avH{w wr V:World}{oc B:Nat}{acc kr:List T}{qv:Option Addr}{cv:Nat}(hO:Fe 9 27 1 w oc B wr acc.length (strCells acc) (.slice qv acc.length cv))(hV:Bw wr V){kq:Option Addr}{kc:Nat}(Ch:Man.Bp V wr.heap.size (.slice kq kr.length kc) kr)(hlen:acc.length+kr.length≤1000000000):
  ∃ q7 c7 w7,(Yy #[27,27] 27 #[.slice qv acc.length cv,.slice kq kr.length kc]).run prog V=.ok (.slice q7 (acc.length+kr.length) c7) w7∧
   V.cell? ⟨oc,0,none⟩=some (.slice qv acc.length cv)∧w7.cell? ⟨oc,0,none⟩=some (.slice qv acc.length cv)∧w7.frozen? ⟨oc,0,none⟩=false∧
   Fe 9 27 1 w oc B (w7.setCell ⟨oc,0,none⟩ (.slice q7 (acc.length+kr.length) c7)) (acc++kr).length (strCells (acc++kr)) (.slice q7 (acc.length+kr.length) c7)∧
   A7 (fun k=>k=oc∨AA wr k 9) wr (w7.setCell ⟨oc,0,none⟩ (.slice q7 (acc.length+kr.length) c7))∧A7 (fun k=>k=oc∨B≤k) wr (w7.setCell ⟨oc,0,none⟩ (.slice q7 (acc.length+kr.length) c7))∧
   KeepsOthers wr (w7.setCell ⟨oc,0,none⟩ (.slice q7 (acc.length+kr.length) c7)):=by
 have PZ:=hO.below hV;have bW:kq=none→kc=0:=fun e=>by
  rcases Ch.2 with⟨e1,_⟩|⟨g,cap,cur,e1,_⟩
  ·injection e1
  ·rw[e] at e1;injection e1 with e1;cases e1
 obtain⟨v7,w7,U9,Oa,IK⟩:=ang (W:=V) PZ.row (Ea Ch) bW (by omega) PZ.size;obtain⟨q7,c7,rfl⟩:=Bg Oa;have Q7:=(IK.block oc (Ai PZ.box) (fun e=>(PZ.ne e.symm).1 rfl)).trans PZ.box;refine⟨q7,c7,w7,U9,cr PZ.box,cr Q7,CJ w7 oc 0 _ _ Q7,?_,?_,hO.turned hV IK _,hO.keeps hV IK _⟩
 ·have qh:=hO.add hV IK Oa;rw[Au,show strCells (acc++kr)=strCells acc++strCells kr by unfold strCells;rw[CF]];exact qh
 ·have h1:A7 (fun k=>k=oc∨AA wr k 9) wr V:=A7.of_below (F:=fun k=>k=oc∨AA wr k 9) hV;have h2:A7 (fun k=>k=oc∨AA wr k 9) V w7:=A7.of_grownBy (F:=fun k=>k=oc∨AA wr k 9) IK (fun k e=>.inr (BQ hO.row e));exact(h1.trans h2 (fun _ f=>.inl f)).setCell (p:=⟨oc,0,none⟩) (show(oc=oc∨_)∨_ from .inl (.inl rfl)) _
theorem aqX{w:World}{p y:Nat}{A:M}(hm:GM w p y)(hf:Lf w y A)(hl:(Ed A9 A).length≤1000000)(hlu:(EF (Ed A9 A)).length≤1000000):
  Calls prog 45 #[.pointer (some ⟨p,0,none⟩)] w fun e w'=>∃ v,e=.returned v∧Man.Bp w' w.heap.size v (AX (EF (Ed A9 A)))∧Bw w w':=by
 refine(Di (n:=3)).1 ?_;have P6:prog.follows .mixedOrders=true:=by kernel_rfl
 have HM:=Hi hm;have HF:=Hi hf;have HE:=Hi (tY (K:=A9) hf.up);have HL:=Hi hl;have HLU:=Hi hlu;clear hm hf hl hlu;refine callsIn_of_wp_marks func45 rfl trivial ?_ rfl;simp only[ntmps45,JG,Br,Ig,Nat.reduceAdd,Nat.reduceSub,LX,LY,M3,LZ,Eu,GI]
 gi_wp2
 have Bq:=Aw w (.cells #[.slice none 0 0] 27);have Mv:Fe 9 27 1 w w.heap.size (w.heap.size+1) (w.alloc (.cells #[.slice none 0 0] 27)) 0 [] (.slice none 0 0):=⟨Bq,Ac _,Nat.lt_succ_self _,by rw[Aq];exact Ac _,AJ w _,EI _ _ _ _⟩;have Wo:=Hi Mv;refine⟨trivial,(Di.2 (afL p _)).mono ?_⟩;rintro e w2⟨rfl,Ns⟩;subst Ns
 gi_wp2
 have Hu:=Hi (AJ (w.alloc (.cells #[.slice none 0 0] 27)) (.cells #[.pointer (some ⟨p,0,none⟩)] 37));have A8:=Aw (w.alloc (.cells #[.slice none 0 0] 27)) (.cells #[.pointer (some ⟨p,0,none⟩)] 37);have DN:=Hi (Wo.below A8);have EZ:=Hi (Aq w (.cells #[.slice none 0 0] 27));obtain⟨Bx,K8⟩:=ex ((w.alloc (.cells #[.slice none 0 0] 27)).heap.size);rw[K8] at Hu EZ;rw[show w.heap.size+1=Bx from EZ.symm];obtain⟨U,hU⟩:=ex ((w.alloc (.cells #[.slice none 0 0] 27)).alloc (.cells #[.pointer (some ⟨p,0,none⟩)] 37));rw[hU] at Hu DN ⊢;clear Bq A8 Mv Wo K8 hU;refine adu (s:=4) (by omega) (gf:=111) (lb:=#[.pointer (some ⟨Bx,0,none⟩)]) rfl (enters_of func111 (by kernel_rfl) rfl) (e1:=fun x:J6=>.string (bs x.name)) (e2:=fun x:J6=>x.row)
  (Ia:=Rq w w.heap.size Bx (.pointer (some ⟨p,0,none⟩)) 37 A9 A (JU A w w.heap.size)) (Iy:=VU w w.heap.size Bx (.pointer (some ⟨p,0,none⟩)) 37 A9 A (JU A w w.heap.size))
  (fun xs=>yj (abK _ _ _) DN.Ay.size xs) (fun xs x=>ym (abK _ _ _) DN.Ay.size xs x)
  (afK 2 (by omega) HM HF w.heap.size Bx (abK _ _ _) U) (.inl ⟨rfl,DN.Ay,Ac _,by have:=EZ.out;omega,Hu,w.heap.size+1,DN.size,.slice none 0 0,by rw[show N8 A []=[] from rfl,ZM];exact DN.out,fun _=>rfl⟩)
  ?assign ?body ?done
 case assign=>
  intro l x W K hK;simp only[np] at hK ⊢
  gi_wp2
  exact hK
 case body=>
  intro l2 pre x W hy;obtain⟨hS,hG,hT,⟨v,hO,-⟩,⟨q2,c2,Hm,hP,CV,hPB⟩⟩:=hy;have Gx:=(V7 (K:=A9) (A:=A) (name:=x.name));have HO:=Hi hO;have HS:=Hi hS;have HG:=Hi hG;have HT:=Hi hT;have HP:=Hi hP;have TB:=Hi hPB;have QP:=Hi Gx.2;have hlen:=Gx.1;simp only[np];rw[Hm];clear hP CV Hm hO hS hG hT hPB Gx;generalize jo:(fileOf A9 A x.name).getD []=fr at*
  gi_wp2
  obtain⟨acc,iY⟩:=ex (N8 A (pre.map (·.name)));have aod:=Hi iY
  have mK:=Hi (show acc.length+(EF fr).length≤1000000 from by
   obtain⟨ts,Km⟩:=HT.out;have h1:=afa A (JB A9 A);rw[HE.out] at h1;have h2:(N8 A (JB A9 A)).length≤1000000:=(by rw[h1];exact HLU.out);rw[←Km,show pre.map (·.name)++x.name :: ts=(pre.map (·.name)++[x.name])++ts by simp] at h2;unfold N8 at h2;rw[NA,Au] at h2;have h3:=yo A (pre.map (·.name)) x.name;unfold N8 at h3;rw[h3,Au] at h2;unfold N8 at iY;rw[iY,jo] at h2;omega)
  rw[iY] at HO;have HFR:=Hi jo;have Od:W.heap.size=W.heap.size:=rfl;obtain⟨W0,hW0⟩:∃ W0,W0=W:=⟨_,rfl⟩;clear jo iY Od
  gi_loopw [13] (fun i wr=>adA w W w.heap.size x.B q2 fr acc i wr) (fun i _=>fr.length -(intOf i).toNat)
  case atStart=>exact⟨0,v,AB _,rfl,by rw[GZ,show EF []=[] from rfl,EH];exact HO.out,A7.refl _ _,KeepsOthers.refl _,HP,TB⟩
  case round=>
   obtain⟨k,v1,Db,rfl,h1,h2,h3,h4,h5⟩:=hrel;have H1:=Hi h1;have H2:=Hi h2;have H3:=Hi h3;have H4:=Hi h4;have H5:=Hi h5;clear h2 h3 h5;by_cases hlt:k < fr.length
   ·obtain⟨a,Cu,ha,-⟩:=h4.index c2 k hlt;have c0:=ha.key;have c1:=ha.val;have Zk:=(QP _ (Ci hlt)).2;have BN:=Hi (show EF (fr.take (k+1))=EF (fr.take k)++(CW fr[k].2).getD [] from by rw[Cw hlt,avG])
    have gp:=Hi (show acc.length+(EF (fr.take k)).length+((CW fr[k].2).getD []).length≤1000000 from by
     have h6:EF fr=EF (fr.take (k+1))++EF (fr.drop (k+1)):=by
      unfold EF;rw[←NA,M4]
     have h7:=mK.out;rw[h6,BN.out,Au,Au] at h7;omega)
    generalize fr[k]=pr at*;have aj:=Hi (fun(V:World)=>afU pr V Zk);generalize Ch:(CW pr.2).getD []=kr at*;generalize bF:acc++EF (fr.take k)=ac at*;have ZX:=Hi bF;have aBv:ac.length+kr.length≤1000000:=(by rw[←bF,Au];exact gp.out);obtain⟨qv,cv,rfl⟩:=Bg h1.row;have BP:=Aw wr (.cells #[.string (bs pr.1),.string (bs pr.2)] 75);have cb:wr.cell? ⟨w.heap.size,0,none⟩=some (.slice qv ac.length cv):=cr h1.box;have KT:=AJ wr (.cells #[.string (bs pr.1),.string (bs pr.2)] 75);have abk:=Aq wr (.cells #[.string (bs pr.1),.string (bs pr.2)] 75);clear h1 h4 ha bF Ch
    gi_wp2
    have Ao:=Hi BP;have yC:(wr.alloc (.cells #[.string (bs pr.1),.string (bs pr.2)] 75)).cell? ⟨wr.heap.size,0,none⟩=some (.string (bs pr.1)):=cr KT;have aV:(wr.alloc (.cells #[.string (bs pr.1),.string (bs pr.2)] 75)).cell? ⟨wr.heap.size,1,none⟩=some (.string (bs pr.2)):=cr KT;have cbo:(wr.alloc (.cells #[.string (bs pr.1),.string (bs pr.2)] 75)).cell? ⟨w.heap.size,0,none⟩=some (.slice qv ac.length cv):=(BP.cell (p:=⟨w.heap.size,0,none⟩) (BS cb)).trans cb;obtain⟨V,hV⟩:=ex (wr.alloc (.cells #[.string (bs pr.1),.string (bs pr.2)] 75));rw[hV] at Ao yC aV cbo abk ⊢;obtain⟨b,hb⟩:=ex (wr.heap.size);have QO:=Hi hb;have HSA:=Hi abk;rw[hb] at yC aV ⊢;clear KT abk BP hV hb c0 c1 cb Cu;have uY:=Hi (fun(V2:World) (TU:Bw wr V2) (kq:Option Addr) (kc:Nat) (Ch:Man.Bp V2 wr.heap.size (.slice kq kr.length kc) kr)=>avH H1 TU Ch (by omega));have aBa:V.drew.cell? ⟨w.heap.size,0,none⟩=some (.slice qv ac.length cv):=cbo;have aB7:V.drew.cell? ⟨b,0,none⟩=some (.string (bs pr.1)):=yC;have aB8:V.drew.cell? ⟨b,1,none⟩=some (.string (bs pr.2)):=aV
    gi_region_with_o (refine⟨trivial,(CallsIn.inRound l2 ((Di (n:=0)).2 (aj _))).mono ?_⟩;rintro e w4 ⟨kv,rfl,Ch,Ar⟩;obtain⟨kq,kc,rfl⟩:=Bg Ch;have Bf:Bw wr w4:=(by first|exact Ao.trans (Ar.mono Ao.size)|exact Ao.trans ((Af _ V).drew.trans (Ar.mono (Ac _)) |>.mono Ao.size));obtain⟨q7,c7,w7,U9,LA,bK,bN,Oa,VA,hv7,hk7⟩:=uY w4 Bf kq kc (E9 Ch (by first|exact Ao.size|(rw[World.size_drew];exact Ao.size)));have HO7:=Hi Oa;have aI:=Hi VA;have HV7:=Hi hv7;have MU:=Hi hk7;clear Oa VA hv7 hk7 Ch Ar Bf;gi_wp2)
    all_goals
     have CU:=Hi (show adA w W w.heap.size x.B q2 fr acc (.int .i64 ((k:Int)+1)) (w7.setCell ⟨w.heap.size,0,none⟩ (.slice q7 (ac.length+kr.length) c7)) from
      ⟨k+1,_,by omega,by go_num,by rw[BN.out,←Dp,ZX.out];exact HO7.out,H2.trans HV7 (fun _ f=>.inl f),H3.trans MU.out,H4.upd aI (fun p e hne=>fun f=>by
       rcases f with f|⟨cs,fr,f⟩
       ·obtain⟨cs,fr,hb⟩:=H5 p e hne;rw[f,H1.box] at hb;injection hb with hb
        injection hb with _ hb
        exact absurd hb (by decide)
       ·obtain⟨cs2,fr2,hb⟩:=H5 p e hne;rw[hb] at f;injection f with f
        injection f with _ f
        exact absurd f (by decide)),fun p e hne=>by
       obtain⟨cs,fr,hb⟩:=H5 p e hne;refine⟨cs,fr,(aI.block _ (Ai hb) (fun f=>?_)).trans hb⟩;rcases f with f|⟨cs2,fr2,f⟩
       ·rw[f,H1.box] at hb;injection hb with hb
        injection hb with _ hb
        exact absurd hb (by decide)
       ·rw[hb] at f;injection f with f
        injection f with _ f
        exact absurd f (by decide)⟩)
     gi_wp2
     go_roundw
     case rel=>exact CU.out
     case measure=>
      show fr.length -((k:Int)+1).toNat < fr.length -((k:Int)).toNat
      omega
   ·obtain rfl:k=fr.length:=(by omega);have EL:=Hi (show Rq w w.heap.size Bx (.pointer (some ⟨p,0,none⟩)) 37 A9 A (JU A w w.heap.size) (pre++[x]) wr from yn HS HG HT H2 ⟨v1,by rw[yo,aod.out,HFR.out];have:=H1.out;rw[Gn (Ac _)] at this;exact this,fun e=>by simp at e⟩);clear h1 h4
    gi_wp2
    exact⟨H3,EL⟩
 case done=>
  intro D xs W hD hS hI FM;obtain⟨B,v,hO,-⟩:=yl hI;rw[hS] at hO;obtain⟨q,c,rfl⟩:=Bg hO.row;have QN:=Hi (show N8 A (JB A9 A)=EF (Ed A9 A) from by rw[afa,HE.out]);have hRl:(N8 A (JB A9 A)).length≤1000000:=by rw[QN.out];exact HLU.out
  have Ex:=Hi (za (w:=W) (base:=B) hO.row hRl);have HO:=Hi hO;have UB:=Hi FM;have HD:=Hi (show w.heap.size≤D from Ap (Ap (Nat.le_succ _) DN.size) hD);generalize N8 A (JB A9 A)=R at*;have cb:W.cell? ⟨w.heap.size,0,none⟩=some (.slice q R.length c):=cr hO.box;clear hS hI FM hD hO
  gi_wp2
  refine⟨trivial,(Di.2 Ex).mono ?_⟩;rintro e w5⟨rv,rfl,ED,Bf⟩;obtain⟨rq,rc,rfl⟩:=Bg ED;have Sk:=(Bf.block _ (Ai HO.box)).trans HO.box;have c5:w5.cell? ⟨w.heap.size,0,none⟩=some (.slice q R.length c):=cr Sk;have hf5:=CJ w5 w.heap.size 0 _ _ Sk;have Sv:=(Bf.block D (CR.1 UB).1).trans UB.out;have IQ:=(A7.refl (fun k=>k=w.heap.size) w5).setCell (p:=⟨w.heap.size,0,none⟩) (.inl rfl) (.slice rq (AX R).length rc);have jd:=BU w5 w.heap.size 0 _ _ (.slice rq (AX R).length rc) Sk
  have Jl:=Hi ((IQ.block D (CR.1 Sv).1 (fun e=>by
   rw[e,Sk] at Sv;cases Sv)).trans Sv)
  have hoc:=HO.lt
  have Jy:=Bh (E9 ED HO.Ay.size) IQ (fun k hk e=>by
   have h1:=DC ED hk;have h2:=Ai HO.box;omega)
  have Fz:=Hi ((HO.Ay.trans (Bf.mono HO.Ay.size)).setCell (p:=⟨w.heap.size,0,none⟩) (Ac _) (.slice rq (AX R).length rc));have Lj:=Hi Jy
  have fC:=Hi (show((w5.setCell ⟨w.heap.size,0,none⟩ (.slice rq (AX R).length rc)).putObj D (.deferred none)).cell? ⟨w.heap.size,0,none⟩=some (.slice rq (AX R).length rc) from by
   rw[BA _ _ _ _ _ _ (Um jd Jl rfl)];rfl)
  clear ED Bf Sk Sv IQ jd Jy
  gi_wp2
  refine⟨by simp,.inl ⟨_,_,rfl,run_takeDeferred Jl,?_⟩⟩;have hu:A7 (fun i=>i=D) (w5.setCell ⟨w.heap.size,0,none⟩ (.slice rq (AX R).length rc)) ((w5.setCell ⟨w.heap.size,0,none⟩ (.slice rq (AX R).length rc)).putObj D (.deferred none)):=A7.of_grownBy (F:=fun i=>i=D) (grownBy_putObj' _ D (.deferred none)) (fun i e=>by cases e;rfl);refine⟨_,(by simp[results,results45,go_sem,fC.out]),.slice rq (AX R).length rc,rfl,?_,Ca Fz hu (fun i e=>by rw[e];exact HD.out) Fz.size⟩;rw[←QN.out]
  exact Bh Lj hu (fun k hk e=>by
   obtain⟨cs,fz,h2⟩:=BQ Lj hk;rw[e,Jl.out] at h2;cases h2)
end Dep
namespace IE
open Go.RowKit Go.Maps
open Wal Fil Man Prs Kp Cm Hex Sha Al Mem Dep
structure ZW(A:M):Prop where
 VK:(Ed Ae A).length≤1000000
 WK:(Ed A9 A).length≤1000000
 keys:(EF (Ed A9 A)).length≤1000000
 dG:∀ t∈Bj Ae A,t.length≤100000
 ag3:∀ t∈Bj A9 A,t.length≤100000
 ant:∀ t∈EF (Ed A9 A),t.length≤100000
def mk(A:M)(roots rs:List T):List T:=(rs.filter fun r=>decide (r∈roots)).flatMap fun r=>(getU A r).1
theorem al6(A:M)(roots rs:List T)(r:T):mk A roots (rs++[r])=mk A roots rs++if r∈roots then(getU A r).1 else[]:=by
 unfold mk;rw[Ro,NA]
 congr 1
 by_cases h:r∈roots
 ·rw[Ab h];simp[h]
 ·rw[Aa h];simp[h]
theorem aAb{K:Kind}{A:M}{k v:T}(h:Dk K A k=some v):(fileOf K A (K.nm k)).isSome=true:=by
 unfold Dk at h;cases hf:fileOf K A (K.nm k) with
 |none=>rw[hf] at h;cases h
 |some l=>rfl
theorem iD{A:M}(hu:Up A){r:T}(h:r∈Bj A9 A):(getU A r).1=Oj both A r:=by
 have h1:=(Qs I5 hu r).1 h;obtain⟨v,hv⟩:=MN.1 h1;unfold getU;rw[Aa (fun e=>by rw[aAb hv] at e;exact absurd e.2 (by decide))];unfold Oj dV;have Jd:Dk both.d A r=some v:=hv;rw[hv,Jd];rfl
theorem awq{A:M}(hu:Up A)(roots:List T)(t:T):t∈mk A roots (Bj A9 A)↔Gs both A roots t:=by
 unfold mk Gs;rw[MM];constructor
 ·rintro⟨r,hr,ht⟩;obtain⟨h1,h2⟩:=Et.1 hr;rw[iD hu h1] at ht;exact⟨r,h1,by simpa using h2,ht⟩
 ·rintro⟨r,h1,h2,ht⟩;exact⟨r,Et.2 ⟨h1,by simpa using h2⟩,by rw[iD hu h1];exact ht⟩
theorem awr{A:M}(hu:Up A)(roots:List T):∀ t∈mk A roots (Bj A9 A),t∈EF (Ed A9 A):=fun t ht=>by
 unfold mk at ht;obtain⟨r,hr,ht⟩:=MM.1 ht;have h1:=(Et.1 hr).1;obtain⟨v,hv⟩:=MN.1 ((Qs I5 hu r).1 h1);have h2:=(dE I5 hu r v).2 hv;unfold EF;refine MM.2 ⟨(r,v),h2,?_⟩;rw[iD hu h1] at ht;unfold Oj dV at ht;have Jd:Dk both.d A r=some v:=hv;rw[Jd] at ht;exact ht
theorem agZ{A:M}{r:T}:(getU A r).1.length≤65535:=by
 unfold getU;split
 ·exact AB _
 ·cases hv:Dk A9 A r with
  |none=>exact AB _
  |some v=>
   show((CW v).getD []).length≤65535
   cases hr:CW v with
   |none=>exact AB _
   |some l=>exact alZ hr
theorem ZN{α:Type}{a b:List α}(h:a.Sublist b)(f:α→Nat):(a.map f).sum≤(b.map f).sum:=by
 induction h with
 |slnil=>exact Ac _
 |cons x _ ih=>rw[BL,Dq];omega
 |cons_cons x _ ih=>rw[BL,Dq,BL,Dq];omega
theorem awp{A:M}(hu:Up A)(roots:List T)(k:Nat):(mk A roots ((Bj A9 A).take k)).length≤(EF (Ed A9 A)).length:=by
 have h0:(mk A roots ((Bj A9 A).take k)).length≤(((Bj A9 A)).map fun r=>(getU A r).1.length).sum:=by
  unfold mk;rw[List.length_flatMap];refine Ap (ZN (List.filter_sublist) _) (ZN (List.take_sublist _ _) _)
 refine Ap h0 (Nat.le_of_eq ?_);have hp:(Bj A9 A).Perm ((Ed A9 A).map (·.1)):=by
  refine(List.perm_ext_iff_of_nodup (ZI _) (zi hu)).2 fun t=>?_
  exact Eg _ _
 rw[(hp.map fun r=>(getU A r).1.length).sum_nat,List.map_map];unfold EF;rw[List.length_flatMap]
 congr 1
 refine QB fun p hp=>?_
 have hv:=(dE I5 hu p.1 p.2).1 hp
 show(getU A p.1).1.length=_
 have hm:p.1∈Bj A9 A:=(Qs I5 hu p.1).2 (by rw[hv];rfl);rw[iD hu hm];unfold Oj dV;have Jd:Dk both.d A p.1=some p.2:=hv;rw[Jd];rfl
theorem agO(m n:Nat)(c:T→Nat):adH (fun W=>I4 W m c n) (.func (.func 47) #[.map (some m)] #[]) (fun t=>decide (c t=0)):=
 ⟨_,_,_,rfl,enters_of func47 (by kernel_rfl) rfl,fun W t ht h=>asn h t ht⟩
theorem I4.Cv{w:World}{m n:Nat}{c:T→Nat}(h:I4 w m c n){t:TypeId}:¬ AA w m t:=by
 obtain⟨kv,⟨_,D,⟨es,clock,hm,_⟩,_⟩,_⟩:=h;rintro⟨cs,fr,hb⟩;rw[hm] at hb;injection hb with hb
 cases hb
theorem I4.upd{w w':World}{m n:Nat}{c:T→Nat}{F:Nat→Prop}(h:I4 w m c n)(hu:A7 F w w')(hF:¬ F m):I4 w' m c n:=by
 obtain⟨kv,h1,h2,h3⟩:=h;exact⟨kv,h1.kept (hu.block m h1.lt hF),h2,h3⟩
theorem acK{w:World}{base n c:Nat}{p:Addr}{l:List T}(h:Man.Bp w base (.slice (some p) n c) l):base≤p.block:=by
 rcases h.2 with⟨e1,_⟩|⟨g,cap',cur,e1,h1,_⟩
 ·injection e1 with e1;cases e1
 ·have e2:p=⟨g,0,none⟩:=by injection e1 with e1;injection e1
  subst e2;exact DC h rfl
def xX(w w0:World)(m B:Nat)(A:M)(roots:List T)(s i:Value)(wr:World):Prop:=
 ∃ (k:Nat) (o:List T) (q:Option Addr) (c:Nat),k≤(Bj A9 A).length∧i=.int .i64 (k:Int)∧s=.slice q o.length c∧Man.Bp wr B (.slice q o.length c) o∧o=((Bj A9 A).take k).filter (fun r=>decide (r∉roots))∧
  I4 wr m (fun t=>(mk A roots ((Bj A9 A).take k)).count t) (mk A roots ((Bj A9 A).take k)).length∧A7 (fun j=>j=m∨B≤j) w0 wr∧Bw w wr
theorem alx{w:World}{pm pd y:Nat}{A:M}{q:Option Addr}{cap:Nat}{roots:List T}(hm:Fb w pm y)(hd:GM w pd y)(hf:Lf w y A)(LC:ZW A)(hr:Cg w q roots)(Gi:roots.length≤1000000):
  Calls prog 23 #[.pointer (some ⟨pm,0,none⟩),.pointer (some ⟨pd,0,none⟩),.slice q roots.length cap] w fun e w'=>∃ v1 v2,e=.returned (.tuple #[v1,v2,.int .i64 0])∧Man.Bp w' w.heap.size v1 (Nc both A roots)∧Man.Bp w' w.heap.size v2 (I6 both A roots)∧Bw w w':=by
 obtain⟨i0,Ba,AQ,AU,AV⟩:=Du Ta;have HM:=Hi hm;have HD:=Hi hd;have HF:=Hi hf;have FO:=Hi LC;have HR:=Hi hr;have KR:=@run_makeMap prog;have aCh:(Bj A9 A).length≤1000000:=by rw[Re (K:=A9) hf.up];exact LC.WK
 clear hm hd hf LC hr;go_enter func23,ntmps23;go_wp2_with fail;refine(amA _ _ _).mono ?_;rintro e w1⟨rfl,FY⟩;subst FY;go_wp2_with fail;have BP:=Aw w (.map #[] 0);have Bc:=Hi BP;have MV:=Hi (I4.made w);have aew:=Hi (ag5 (HD.below BP) (HF.below BP) FO.WK);have hsz:=Aq w (.map #[] 0);have EZ:=Hi hsz;clear BP hsz;refine aew.mono ?_;rintro e w2⟨v2,rfl,IP,A8⟩;obtain⟨rq,rc,rfl⟩:=Bg IP;have apf:=Hi IP;have Ag:=Hi (Bc.trans (A8.mono Bc.size));have wN:=Hi (MV.below A8)
 have UF:=Hi (show ∀ p,rq=some p→Bj A9 A≠[]→w.heap.size < p.block∧p.block < w2.heap.size from fun p e hne=>by
  subst e;have h1:=acK IP;have h2:=EZ.out;have h3:=(Ea IP) 0 (List.length_pos_iff.2 hne);obtain⟨p2,e2,hc⟩:=h3;cases e2;have h4:=BS hc;rw[add_block] at h4;exact⟨by omega,h4⟩)
 clear IP A8 aew MV;go_wp2_with fail
 go_loopw [6,26] (fun s i wr=>xX w w2 w.heap.size w2.heap.size A roots s i wr) (fun _ i _=>(Bj A9 A).length -(intOf i).toNat)
 case atStart=>exact⟨0,[],none,0,AB _,rfl,rfl,kV _ _,by simp,wN,A7.refl _ _,Ag⟩
 case round=>
  obtain⟨k,o,qo,co,hk,rfl,rfl,Ah,ho,Il,hu,hb⟩:=hrel;have CZ:=Hi Ah;have HO:=Hi ho;have wP:=Hi Il;have HU:=Hi hu;have HB:=Hi hb;have P7:o.length≤1000000:=by
   rw[ho];have:=NB (fun r=>decide (r∉roots)) ((Bj A9 A).take k);rw[AL] at this;have h2:=Re (K:=A9) HF.up;have h3:=FO.WK;omega
  clear Ah ho Il;by_cases hlt:k < (Bj A9 A).length
  ·have hta:=(Ea apf).upd hu (fun p e hne f=>by
    obtain⟨l1,l2⟩:=UF p e hne;omega)
   obtain⟨a,Cu,c0⟩:=hta.index rc k hlt;have auS:=FO.ag3 _ (Ci hlt);have BN:=Hi (Cw hlt);have mK:=Hi (awp HF.up roots (k+1));rw[BN.out] at mK;generalize (Bj A9 A)[k]=run at*;have HC:=Hi (ad6 cap (HR.below hb) run (by omega));clear hu hb hta;by_cases Be:run∈roots
   ·rw[Kr Be] at HC;have HG:=Hi (fun(V:World) (hV:Bw w V)=>afR (HD.below hV) (HF.pE hV) run (by omega));have Y8:=Hi (show mk A roots ((Bj A9 A).take k++[run])=mk A roots ((Bj A9 A).take k)++(getU A run).1 from by rw[al6,Ab Be]);have M7:=Hi (show((Bj A9 A).take k++[run]).filter (fun r=>decide (r∉roots))=o from by rw[Ro,←HO.out];simp[Be]);clear Be;go_wp2_with fail;refine HC.mono ?_;rintro e w3⟨rfl,Ak⟩;have Am:=Hi (HB.trans (Ak.mono HB.size));have gF:=Hi (wP.below Ak);have JR:=Hi (C9 CZ Ak);have Gc:=Hi (HU.trans (ub Ak) (fun _ f=>f.elim));clear Ak;go_wp2_with fail;refine(HG _ Am).mono ?_;rintro e w4⟨kv,rfl,Ch,Ar⟩;obtain⟨kq,kc,rfl⟩:=Bg Ch;have AZ:=Hi (Am.trans (Ar.mono Am.size));have aei:=Hi (gF.below Ar);have Wq:=Hi (C9 JR Ar);have QQ:=Hi (Gc.trans (ub Ar) (fun _ f=>f.elim));have hlen:=mK.out;rw[Y8.out,Au] at hlen
    have wK:=Hi (akV (cap:=kc) aei (Ea Ch) (fun p e hne f=>by
     subst e;have h1:=acK Ch;have h2:=gF.lt;omega) (fun t ht=>by
      have h1:=FO.ant t (awr HF.up roots t (by
       have:=List.mem_append_right (mk A roots ((Bj A9 A).take k)) ht;rw[←Y8.out,←BN.out] at this;unfold mk at this ⊢;obtain⟨r,hr,hx⟩:=MM.1 this;exact MM.2 ⟨r,((List.take_sublist _ _).filter _).subset hr,hx⟩))
      omega) (by have:=FO.keys;omega) (fun t=>by have:=List.count_le_length (a:=t) (l:=mk A roots ((Bj A9 A).take k));have:=FO.keys;omega))
    clear Ar Ch;go_wp2_with fail;refine wK.mono ?_;rintro e w5⟨⟨v5,rfl⟩,ajh,FX⟩
    have CU:=Hi (show xX w w2 w.heap.size w2.heap.size A roots (.slice qo o.length co) (.int .i64 ((k:Int)+1)) w5 from
     ⟨k+1,o,qo,co,by omega,by go_num,rfl,Bh Wq FX (fun g hg e=>by
      rw[e] at hg;exact aei.Cv (BQ Wq hg)),by rw[BN.out,M7.out],by
      rw[BN.out,Y8.out,Au];have e1:(fun t=>(mk A roots ((Bj A9 A).take k)++(getU A run).1).count t)=fun t=>(mk A roots ((Bj A9 A).take k)).count t+((getU A run).1).count t:=by funext t;rw[List.count_append]
      rw[e1];exact ajh,QQ.trans FX (fun _ f=>.inl (.inl f)),Ca AZ FX (fun i e=>Nat.le_of_eq e.symm) AZ.size⟩)
    clear ajh FX;go_wp2_with fail;go_roundw
    case rel=>exact CU.out
    case measure=>
     show(Bj A9 A).length -((k:Int)+1).toNat < (Bj A9 A).length -((k:Int)).toNat
     omega
   ·rw[Pp Be] at HC;have Y8:=Hi (show mk A roots ((Bj A9 A).take k++[run])=mk A roots ((Bj A9 A).take k) from by rw[al6,Aa Be,EH]);have M7:=Hi (show((Bj A9 A).take k++[run]).filter (fun r=>decide (r∉roots))=o++[run] from by rw[Ro,←HO.out];simp[Be]);clear Be;go_wp2_with fail;refine HC.mono ?_;rintro e w3⟨rfl,Ak⟩;have Am:=Hi (HB.trans (Ak.mono HB.size));have gF:=Hi (wP.below Ak);have JR:=Hi (C9 CZ Ak);have Gc:=Hi (HU.trans (ub Ak) (fun _ f=>f.elim));clear Ak;go_wp2_with (at_builtin;refine wpList_append_own_at _ rfl _ _ 27 rfl w2.heap.size 9 i0 _ 1 16 underlying27 Ba AQ AU AV rfl (by decide) _ o.length _ rfl (JR.alloc _) ⟨w3.heap.size,0,none⟩ 1 1 [.string (bs run)] rfl rfl (by intro j u hj;rw[add_plain,DF];exact(Dn▸hj)) (by simp[Value.oneCell']) (by unfold maxLen;omega) (by omega) (by have:=Gc.size;simp;omega) ?_;intro v' w4 BB Az _ hat;obtain⟨g',cap',rfl⟩:=ownsRow_succ BB;have gH:=Hi BB;have HG:=Hi Az;clear BB Az hat)
    have CU:=Hi (show xX w w2 w.heap.size w2.heap.size A roots (.slice (some ⟨g',0,none⟩) (o.length+1) cap') (.int .i64 ((k:Int)+1)) w4 from
     ⟨k+1,o++[run],some ⟨g',0,none⟩,cap',by omega,by go_num,by rw[Au];rfl,by
      unfold Man.Bp;rw[Au,show strCells (o++[run])=strCells o++[.string (bs run)] by unfold strCells;rw[CF];rfl];exact gH.out,by rw[BN.out,M7.out],by
      rw[BN.out,Y8.out];refine(gF.below (Aw w3 _)).upd (A7.of_grownBy (F:=fun j=>(Value.slice qo o.length co).ownBlock=some j) HG (fun j e=>e)) (fun e=>?_);exact gF.Cv (BQ JR e),(Gc.alloc _).trans (A7.of_grownBy (F:=fun j=>w2.heap.size≤j) HG (fun j e=>DC JR e)) (fun _ f=>.inl (.inr f)),(Am.alloc Am.size _).grown HG (by rw[Aq];have:=Am.size;omega) (fun j hj=>Ap Ag.size (DC JR hj))⟩)
    go_roundw
    case rel=>exact CU.out
    case measure=>
     show(Bj A9 A).length -((k:Int)+1).toNat < (Bj A9 A).length -((k:Int)).toNat
     omega
  ·obtain rfl:k=(Bj A9 A).length:=(by omega);have ho:=HO.out;have Il:=wP.out;rw[CY] at ho Il;have HK:=Hi (sD (HM.below hb) (HF.below hb) FO.VK);have Ih:=Hi (show(Bj Ae A).length≤1000000 from by rw[Re (K:=Ae) HF.up];exact FO.VK);obtain⟨n9,jH⟩:=ex ((mk A roots (Bj A9 A)).length);rw[jH] at Il;have wO:=Hi Il;have FB:=Hi (show o=Nc both A roots from ho)
   have MR:=Hi (show(Bj Ae A).filter (fun t=>decide ((mk A roots (Bj A9 A)).count t=0))=I6 both A roots from by
    unfold I6;refine List.filter_congr fun t _=>?_
    rw[decide_eq_decide,List.count_eq_zero];exact not_congr (awq HF.up roots t))
   have Mc:=Hi (agO w.heap.size n9 (fun t=>(mk A roots (Bj A9 A)).count t));clear ho Il jH hu hb;go_wp2_with fail;refine HK.mono ?_;rintro e w3⟨kv,rfl,Ch,Ak⟩;obtain⟨kq,kc,rfl⟩:=Bg Ch;have Am:=Hi (HB.trans (Ak.mono HB.size));have JR:=Hi (C9 CZ Ak);have Z5:=wO.below Ak;have PN:=Hi (anp (cap:=kc) (Ea Ch) Mc (fun W hW=>Z5.below hW) (fun t ht=>Ap (FO.dG t ht) (by decide)) Ih);rw[MR.out] at PN;clear Ak Ch Z5;go_wp2_with fail;refine PN.mono ?_;rintro e w4⟨u,rfl,Hl,Ar⟩;obtain⟨uq,uc,rfl⟩:=Bg Hl;have Ma:=Hi (E9 Hl Am.size);have AZ:=Hi (Am.trans (Ar.mono Am.size));have Wq:=Hi (E9 (C9 JR Ar) Ag.size);clear Hl Ar;go_wp2_with fail;refine El (v:=.tuple #[.slice qo o.length co,.slice uq (I6 both A roots).length uc,.int .i64 0]) (by simp[results,results23,go_sem]) rfl ⟨_,_,rfl,?_,Ma,AZ⟩;rw[←FB.out];exact Wq.out
theorem aA0{A:M}(hu:Up A)(t:T):t∈AX (EF (Ed A9 A))↔Used both A t:=by
 rw[Eg];unfold Used EF;rw[MM];constructor
 ·rintro⟨p,hp,ht⟩;have hv:=(dE I5 hu p.1 p.2).1 hp;refine⟨p.1,(Qs I5 hu p.1).2 (by rw[hv];rfl),?_⟩;unfold Oj dV;have Jd:Dk both.d A p.1=some p.2:=hv;rw[Jd];exact ht
 ·rintro⟨r,hr,ht⟩;obtain⟨v,hv⟩:=MN.1 ((Qs I5 hu r).1 hr);refine⟨(r,v),(dE I5 hu r v).2 hv,?_⟩;unfold Oj dV at ht;have Jd:Dk both.d A r=some v:=hv;rw[Jd] at ht;exact ht
theorem akM{w:World}{pm pd y:Nat}{A:M}(hm:Fb w pm y)(hd:GM w pd y)(hf:Lf w y A)(LC:ZW A):
  Calls prog 11 #[.pointer (some ⟨pm,0,none⟩),.pointer (some ⟨pd,0,none⟩)] w fun e w'=>∃ v,e=.returned (.tuple #[v,.int .i64 0])∧Man.Bp w' w.heap.size v (Xz both A)∧Bw w w':=by
 have HM:=Hi hm;have HD:=Hi hd;have HF:=Hi hf;have FO:=Hi LC;have KR:=@run_makeMap prog;clear hm hd hf LC;go_enter func11,ntmps11;go_wp2_with fail;refine(amA _ _ _).mono ?_;rintro e w1⟨rfl,FY⟩;subst FY;go_wp2_with fail;have BP:=Aw w (.map #[] 0);have Bc:=Hi BP;have MV:=Hi (I4.made w);have Fy:=Hi (aqX (HD.below BP) (HF.below BP) FO.WK FO.keys);have hsz:=Aq w (.map #[] 0);have EZ:=Hi hsz;clear BP hsz;refine Fy.mono ?_;rintro e w2⟨v2,rfl,IP,A8⟩;obtain⟨rq,rc,rfl⟩:=Bg IP;have Ag:=Hi (Bc.trans (A8.mono Bc.size));have wN:=Hi (MV.below A8);have QR:=Hi (aA0 (A:=A) HF.up);have aeR:=Hi (show(AX (EF (Ed A9 A))).length≤1000000 from Ap (Un _) FO.keys);have aeP:=Hi (show ∀ t∈AX (EF (Ed A9 A)),t.length≤1000000 from fun t ht=>Ap (FO.ant t ((Eg _ _).1 ht)) (by decide))
 have adN:=Hi (show ∀ p,rq=some p→AX (EF (Ed A9 A))≠[]→p.block≠w.heap.size from fun p e hne f=>by
  subst e;have h1:=acK IP;have h2:=EZ.out;omega)
 obtain⟨us,GD⟩:=ex (AX (EF (Ed A9 A)));rw[GD] at IP QR aeR aeP adN ⊢;have wK:=Hi (akV (cap:=rc) wN (Ea IP) adN aeP (by have:=aeR.out;omega) (fun t=>AB _));clear IP A8 Fy MV GD;go_wp2_with fail;refine wK.mono ?_;rintro e w3⟨⟨v3,rfl⟩,Z5,CP⟩;have Am:=Hi (Ca Ag CP (fun i e=>Nat.le_of_eq e.symm) Ag.size);have HK:=Hi (sD (HM.below Am) (HF.below Am) FO.VK);have Ih:=Hi (show(Bj Ae A).length≤1000000 from by rw[Re (K:=Ae) HF.up];exact FO.VK);have e1:(fun t=>0+us.count t)=fun t=>us.count t:=by funext t;rw[GJ]
 rw[e1] at Z5;obtain⟨n9,jH⟩:=ex (0+us.length);rw[jH] at Z5;have wO:=Hi Z5
 have MR:=Hi (show(Bj Ae A).filter (fun t=>decide (us.count t=0))=Xz both A from by
  unfold Xz;refine List.filter_congr fun t _=>?_
  rw[decide_eq_decide,List.count_eq_zero];exact not_congr (QR t))
 have Mc:=Hi (agO w.heap.size n9 (fun t=>us.count t));clear Z5 CP jH e1;go_wp2_with fail;refine HK.mono ?_;rintro e w4⟨kv,rfl,Ch,Ar⟩;obtain⟨kq,kc,rfl⟩:=Bg Ch;have AZ:=Hi (Am.trans (Ar.mono Am.size));have ajg:=wO.below Ar;have PN:=Hi (anp (cap:=kc) (Ea Ch) Mc (fun W hW=>ajg.below hW) (fun t ht=>Ap (FO.dG t ht) (by decide)) Ih);rw[MR.out] at PN;clear Ar Ch ajg;go_wp2_with fail;refine PN.mono ?_;rintro e w5⟨u,rfl,Mx,Bf⟩;obtain⟨uq,uc,rfl⟩:=Bg Mx;have NN:=Hi (E9 Mx AZ.size);have Ck:=Hi (AZ.trans (Bf.mono AZ.size));clear Mx Bf;go_wp2_with fail;go_ret2;exact⟨_,rfl,NN,Ck⟩
end IE
end Go.Proofs.YtmbbhdebddbhoaaGreat
