/- RUse RSet -/
import Derived.Test.YtmbbhdebddbhoaaGreatR40
set_option maxHeartbeats 8000000
set_option maxRecDepth 100000
set_option linter.all false
namespace Go.Proofs.YtmbbhdebddbhoaaGreat
open Tryz
namespace Dep
open Go.RowKit Go.Maps
open Wal Fil Prs Kp Cm Hex Sha Mem
open Man hiding T
theorem azC(l:List T):2+2*l.length≤rowLen l:=by
 unfold rowLen
 induction l with
 |nil=>exact Ac _
 |cons x l ih=>rw[BL,Dq,Br];omega
theorem axV{s:T}{l:List T}(h:CW s=some l):2*l.length+2≤s.length:=by
 have h2:=kU h;unfold FZ at h2;split at h2
 ·cases ht:textsE l with
  |none=>rw[ht] at h2;cases h2
  |some a=>
   rw[ht] at h2;simp only[Ej,BX] at h2;have h3:=VP ht;have h4:=azC l;rw[←h2,Au,Crc.BK];omega
 ·cases h2
def y8(w:World)(q:Option Addr)(cap:Nat)(l:M)(i:Value)(wr:World):Prop:=∃ k:Nat,k≤l.length∧i=.int .i64 k∧Bw w wr∧Bo wr w.heap.size (.slice q l.length cap) l
theorem ayy(name data:T)(l:M)(h:A9.Df name data=some l)(w:World)(hd:data.length≤1000000):Calls prog 167 #[.string (bs name),.string (bs data)] w fun e w'=>∃ q cap,e=.returned (.tuple #[.slice q l.length cap,.bool true])∧Bo w' w.heap.size (.slice q l.length cap) l∧(q=none→cap=0)∧Bw w w':=by
 have Nq:=(dQ h).2;obtain⟨hne,E5,Jw,s,Gh,Jz⟩:=Pj h;have jM:Crc.Er data=(s,0):=by rw[Jz];exact Crc.acg s
 have Cz:s.length≤1000000:=by
  have:data.length=s.length+4:=by rw[Jz];unfold Crc.EW;rw[Au,Crc.BK]
  omega
 have HO:=Hi (amg data w (by omega));rw[jM] at HO;have HG:=Hi (fun(W:World)=>am8 s l (p8 Gh (Cr.Qt E5)) W (by omega));have IC:=Hi (fun p hp=>(Jw p hp).1)
 have FQ:=Hi (fun(p:T×T) (hp:p∈l)=>show ∃ ks,CW p.2=some ks∧AX ks=ks from by
  have h1:rowOk p=true:=(Jw p hp).2;unfold rowOk at h1;cases hr:CW p.2 with
  |none=>rw[hr] at h1;cases h1
  |some ks=>rw[hr] at h1;exact⟨ks,rfl,by simpa using h1⟩)
 have Ey:=Hi E5;have QP:=Hi Nq;have hlz:((l.length:Int) == 0)=false:=H9.2 (fun e=>hne (Ld.1 (by omega)));have EB:l.length≤65535:=(dQ h).1;clear h jM Gh Jz E5 Jw hne Nq;go_enter func167,ntmps167;go_wp2_with fail;refine HO.mono ?_;rintro e w1⟨rfl,Ad⟩;have HB1:=Hi Ad;clear Ad;go_wp2_with fail;refine(HG _).mono ?_;rintro e w2⟨v,rfl,Cy,A8⟩;obtain⟨q,cap,rfl,hq,hc⟩:=Es Cy;have BI:=Hi (E9 Cy HB1.size);have Ag:=Hi (HB1.trans (A8.mono HB1.size));have HQ:=Hi hq;clear Cy A8 hq hc;go_wp2_with fail
 go_loopw [9] (fun i wr=>y8 w q cap l i wr) (fun i _=>l.length -(intOf i).toNat)
 case atStart=>exact⟨0,AB _,rfl,Ag,BI⟩
 case round=>
  obtain⟨k,Db,rfl,hb,hr⟩:=hrel;have HB:=Hi hb;have HR:=Hi hr;clear hb hr Ag BI;by_cases hlt:k < l.length
  ·obtain⟨a,Cu,c0,cv⟩:=XF HR hlt;have hk1:=(QP _ (Ci hlt)).1;have Ki:=IC _ (Ci hlt);obtain⟨keys,YX,ajJ⟩:=FQ _ (Ci hlt);have PK:=Hi (QP _ (Ci hlt)).2;have gM:=Hi ajJ
   have Ih:=Hi (show keys.length≤50000 from by
    have h1:=axV YX;have h3:=(QP _ (Ci hlt)).2;omega)
   have FD:=Hi (fun(W:World) (hl:l[k].2.length≤65535)=>ayj l[k].2 W (by omega));unfold Go.Proofs.YtmbbhdebddbhoaaGreat.Lr at FD;simp only[YX] at FD;clear ajJ;by_cases hk0:k=0
   ·subst hk0;generalize l[0]=x at*;have HN:=Hi (fun(W:World)=>acG x.1 W (by omega));rw[Ki] at HN;have YW:∀ W,(Instr.indexAt 22 (.slice q l.length cap) (.int .i64 0)).run prog W=.ok (.pointer (some a)) W:=Cu;have HC:=Hi (fun(V:World) (hb:Bw wr V)=>(hb.cell (BS c0)).trans c0);clear Cu c0 Ki YX;go_wp2_with fail;refine(FD _ PK).mono ?_;rintro e w5⟨v5,rfl,Mx,Bf,-⟩;obtain⟨kq,kc,rfl⟩:=Bg Mx;have PH:=Hi (show Man.Bp w5 0 (.slice kq keys.length kc) keys from Mx);have Ck:=Hi Bf;clear Mx Bf;go_wp2_with fail;have HS:=Hi (fun(V:World) (hb:Bw w5 V)=>(show(fun V:World=>V.cell? a=some (.string (bs x.1))) V from HC V (Ck.trans (hb.mono Ck.size))));refine wp_region_held (S:=(fun V:World=>V.cell? a=some (.string (bs x.1)))) (by kernel_rfl) ?_;have BR:=Hi ((Af w5.heap.size w5).drew);refine tkH 0 ⟨some 46,.move (.tmp 11),43,"ref.go:75",#[],none⟩ (HS _ BR) ?_;try simp only[Act.put,np]
    refine tkH 1 ⟨some 47,.binOp .neq 43 (.tmp 46) (.const (.int .i64 0)) 43,4,"ref.go:75",#[⟨0,.data⟩],none⟩ (HS _ BR) ?_;try simp only[Act.put,np]
    refine tkH 2 ⟨some 48,.move (.tmp 47),4,"ref.go:75",#[⟨1,.data⟩],none⟩ (HS _ BR) ?_;try simp only[Act.put,np]
    refine tkH 3 ⟨some 49,.move (.tmp 10),27,"ref.go:75",#[⟨2,.guard⟩],some (2,false)⟩ (HS _ BR) ?_;try simp only[Act.put,np]
    refine tkH 4 ⟨some 50,.move (.tmp 10),27,"ref.go:75",#[⟨2,.guard⟩],some (2,false)⟩ (HS _ BR) ?_;try simp only[Act.put,np]
    refine LW (i:=5) (o:=⟨some 51,.call ⟨.value (.func 166),#[.tmp 50],#[27]⟩,27,"ref.go:75",#[⟨4,.data⟩,⟨2,.chain⟩,⟨2,.guard⟩],some (2,false)⟩) (by kernel_rfl) rfl (fun K1 Mj=>?_);go_simp;refine(acC (cap:=kc) (Ea (C9 PH BR)) Ih).mono ?_;rintro e w6⟨v6,rfl,I8,Cx⟩;rw[acE,gM.out] at I8;obtain⟨q6,c6,rfl⟩:=Bg I8;have Fz:=Hi (BR.trans (Cx.mono (Ac _)));have Lj:=Hi I8;clear I8 Cx;refine Mj _ _ (HS _ Fz) ?_;try simp only[Act.put,np]
    refine LW (i:=6) (o:=⟨some 52,.call ⟨.value (.func 24),#[.tmp 49,.tmp 51],#[27,27]⟩,4,"ref.go:75",#[⟨3,.data⟩,⟨5,.data⟩,⟨5,.chain⟩,⟨2,.guard⟩],some (2,false)⟩) (by kernel_rfl) rfl (fun K2 FM=>?_);go_simp;refine(acO keys keys kq q6 kc c6 _ (Ea (C9 PH Fz)) (Ea Lj) (by have:=Ih.out;unfold maxLen;omega) (by have:=Ih.out;unfold maxLen;omega)).mono ?_;rintro e w7⟨rfl,Ez⟩;have En:=Hi (Fz.trans (Ez.mono Fz.size));clear Ez;refine FM _ _ (HS _ En) ?_;try simp only[Act.put,np]
    simp only[decide_true];refine tkH 7 ⟨some 53,.unOp .not 4 (.tmp 52),4,"ref.go:75",#[⟨6,.data⟩,⟨2,.guard⟩],some (2,false)⟩ (HS _ En) ?_;try simp only[Act.put,np]
    refine tkH 8 ⟨some 54,.pick (.tmp 48) (.const (.bool true)) (.tmp 53),4,"ref.go:75",#[⟨2,.data⟩,⟨7,.data⟩],none⟩ (HS _ En) ?_;try simp only[Act.put,np]
    refine tkH 9 ⟨some 55,.move (.tmp 54),4,"ref.go:75",#[⟨8,.data⟩,⟨6,.chain⟩],none⟩ (HS _ En) ?_;try simp only[Act.put,np]
    refine tkH 10 ⟨some 56,.move (.tmp 8),22,"ref.go:75",#[⟨9,.guard⟩],some (9,false)⟩ (HS _ En) ?_;try simp only[Act.put,np]
    refine tkH 11 ⟨some 57,.move (.tmp 9),3,"ref.go:75",#[⟨9,.guard⟩],some (9,false)⟩ (HS _ En) ?_;try simp only[Act.put,np]
    refine tkH 12 ⟨some 58,.indexAddr 22 (.tmp 56) (.tmp 57),0,"ref.go:75",#[⟨10,.data⟩,⟨11,.data⟩,⟨9,.guard⟩],some (9,false)⟩ (HS _ En) ?_;try simp only[Act.put,np]
    refine tkH 13 ⟨some 59,.fieldAddr 75 (.tmp 58) 0,0,"ref.go:75",#[⟨12,.data⟩,⟨9,.guard⟩],some (9,false)⟩ (HS _ En) ?_;try simp only[Act.put,np]
    refine tkH 14 ⟨some 60,.load 9 (.tmp 59),9,"ref.go:75",#[⟨13,.data⟩,⟨9,.guard⟩],some (9,false)⟩ (HS _ En) ?_;try simp only[Act.put,np]
    refine tkH 16 ⟨some 62,.move (.tmp 0),9,"ref.go:75",#[⟨9,.guard⟩],some (9,false)⟩ (HS _ En) ?_;try simp only[Act.put,np]
    refine LW (i:=15) (o:=⟨some 61,.call ⟨.value (.func 86),#[.tmp 60],#[9]⟩,9,"ref.go:75",#[⟨14,.data⟩,⟨9,.chain⟩,⟨9,.guard⟩],some (9,false)⟩) (by kernel_rfl) rfl (fun K3 Sg=>?_);go_simp;refine(HN _).mono ?_;rintro e wA⟨rfl,Dr⟩;have Ao:=Hi (En.trans (Dr.mono En.size));clear Dr;refine Sg _ _ (HS _ Ao) ?_;try simp only[Act.put,np]
    refine tkH 17 ⟨some 63,.binOp .neq 9 (.tmp 61) (.tmp 62) 9,4,"ref.go:75",#[⟨15,.data⟩,⟨16,.data⟩,⟨9,.guard⟩],some (9,false)⟩ (HS _ Ao) ?_;try simp only[Act.put,np]
    refine tkH 18 ⟨some 64,.pick (.tmp 55) (.const (.bool true)) (.tmp 63),4,"ref.go:75",#[⟨9,.data⟩,⟨17,.data⟩],none⟩ (HS _ Ao) ?_;try simp only[Act.put,np]
    refine tkH 19 ⟨some 65,.move (.tmp 64),4,"ref.go:75",#[⟨18,.data⟩,⟨15,.chain⟩],none⟩ (HS _ Ao) ?_;try simp only[Act.put,np]
    refine tkH 20 ⟨some 66,.move (.tmp 9),3,"ref.go:75",#[⟨19,.guard⟩],some (19,false)⟩ (HS _ Ao) ?_;try simp only[Act.put,np]
    refine tkH 21 ⟨some 67,.binOp .gtr 3 (.tmp 66) (.const (.int .i64 0)) 3,4,"ref.go:75",#[⟨20,.data⟩,⟨19,.guard⟩],some (19,false)⟩ (HS _ Ao) ?_;try simp only[Act.put,np]
    refine tkH 22 ⟨some 68,.move (.tmp 67),4,"ref.go:75",#[⟨21,.data⟩,⟨19,.chain⟩,⟨19,.guard⟩],some (19,false)⟩ (HS _ Ao) ?_;try simp only[Act.put,np]
    refine tkU 23 ⟨some 69,.move (.tmp 8),22,"ref.go:75",#[⟨22,.guard⟩],some (22,true)⟩ (HS _ Ao) ?_;try simp only[Act.put,np]
    refine tkU 24 ⟨some 70,.move (.tmp 9),3,"ref.go:75",#[⟨22,.guard⟩],some (22,true)⟩ (HS _ Ao) ?_;try simp only[Act.put,np]
    refine tkU 25 ⟨some 71,.binOp .sub 3 (.tmp 70) (.const (.int .i64 1)) 3,3,"ref.go:75",#[⟨24,.data⟩,⟨22,.guard⟩],some (22,true)⟩ (HS _ Ao) ?_;try simp only[Act.put,np]
    refine tkU 26 ⟨some 72,.indexAddr 22 (.tmp 69) (.tmp 71),0,"ref.go:75",#[⟨23,.data⟩,⟨25,.data⟩,⟨22,.guard⟩],some (22,true)⟩ (HS _ Ao) ?_;try simp only[Act.put,np]
    refine tkU 27 ⟨some 73,.fieldAddr 75 (.tmp 72) 0,0,"ref.go:75",#[⟨26,.data⟩,⟨22,.guard⟩],some (22,true)⟩ (HS _ Ao) ?_;try simp only[Act.put,np]
    refine tkU 28 ⟨some 74,.load 9 (.tmp 73),9,"ref.go:75",#[⟨27,.data⟩,⟨22,.guard⟩],some (22,true)⟩ (HS _ Ao) ?_;try simp only[Act.put,np]
    refine tkU 29 ⟨some 75,.move (.tmp 8),22,"ref.go:75",#[⟨22,.guard⟩],some (22,true)⟩ (HS _ Ao) ?_;try simp only[Act.put,np]
    refine tkU 30 ⟨some 76,.move (.tmp 9),3,"ref.go:75",#[⟨22,.guard⟩],some (22,true)⟩ (HS _ Ao) ?_;try simp only[Act.put,np]
    refine tkU 31 ⟨some 77,.indexAddr 22 (.tmp 75) (.tmp 76),0,"ref.go:75",#[⟨29,.data⟩,⟨30,.data⟩,⟨22,.guard⟩],some (22,true)⟩ (HS _ Ao) ?_;try simp only[Act.put,np]
    refine tkU 32 ⟨some 78,.fieldAddr 75 (.tmp 77) 0,0,"ref.go:75",#[⟨31,.data⟩,⟨22,.guard⟩],some (22,true)⟩ (HS _ Ao) ?_;try simp only[Act.put,np]
    refine tkU 33 ⟨some 79,.load 9 (.tmp 78),9,"ref.go:75",#[⟨32,.data⟩,⟨22,.guard⟩],some (22,true)⟩ (HS _ Ao) ?_;try simp only[Act.put,np]
    refine tkU 34 ⟨some 80,.binOp .eql 9 (.tmp 74) (.tmp 79) 9,4,"ref.go:75",#[⟨28,.data⟩,⟨33,.data⟩,⟨22,.guard⟩],some (22,true)⟩ (HS _ Ao) ?_;try simp only[Act.put,np]
    refine tkH 35 ⟨some 81,.pick (.tmp 68) (.tmp 80) (.const (.bool false)),4,"ref.go:75",#[⟨22,.data⟩,⟨34,.data⟩,⟨19,.guard⟩],some (19,false)⟩ (HS _ Ao) ?_;try simp only[Act.put,np]
    refine tkH 36 ⟨some 82,.pick (.tmp 65) (.const (.bool true)) (.tmp 81),4,"ref.go:75",#[⟨19,.data⟩,⟨35,.data⟩],none⟩ (HS _ Ao) ?_;try simp only[Act.put,np]
    refine wpAnyH_done (by kernel_rfl) ?_ _;clear Mj K1 FM K2 Sg K3;have CU:=Hi (show y8 w q cap l (.int .i64 1) wA from⟨1,by omega,rfl,HB.trans ((Ck.trans (Ao.mono Ck.size)).mono HB.size),C9 (C9 HR Ck) Ao⟩);go_wp2_with fail;go_roundw
    case rel=>exact CU.out
    case measure=>show l.length -(1:Int).toNat < l.length -(0:Int).toNat;omega
   ·obtain⟨a',aaz,c1,-⟩:=XF HR (show k -1 < l.length by omega);have Qj:IntKind.i64.wrap ((k:Int) -1)=((k -1:Nat):Int):=(by rw[Ei _ (by omega)];omega);have Gy:(0:Int) < (k:Int):=(by omega);have Sr:0 < k:=(by omega);have hne:((l[k -1]'(by omega)).1 == l[k].1)=false:=by
     have h1:=List.pairwise_iff_getElem.1 Ey (k -1) k (by omega) hlt (by omega);exact H9.2 (fun e=>by rw[e] at h1;exact Rf _ h1)
    obtain⟨y,hy⟩:=ex (l[k -1]'(by omega));obtain⟨x,hx⟩:=ex (l[k]);rw[hy] at c1 hne;rw[hx] at c0 hk1 Ki hne cv PK FD YX;have HN:=Hi (fun(W:World)=>acG x.1 W (by omega));rw[Ki] at HN;have HC:=Hi (fun(V:World) (hb:Bw wr V)=>Cc ((hb.cell (BS c0)).trans c0) ((hb.cell (BS c1)).trans c1));clear c0 c1 Ki hx hy YX;go_wp2_with fail;refine(FD _ PK).mono ?_;rintro e w5⟨v5,rfl,Mx,Bf,-⟩;obtain⟨kq,kc,rfl⟩:=Bg Mx;have PH:=Hi (show Man.Bp w5 0 (.slice kq keys.length kc) keys from Mx);have Ck:=Hi Bf;clear Mx Bf;go_wp2_with fail;have HS:=Hi (fun(V:World) (hb:Bw w5 V)=>(show(fun V:World=>V.cell? a=some (.string (bs x.1))∧V.cell? a'=some (.string (bs y.1))) V from HC V (Ck.trans (hb.mono Ck.size))));refine wp_region_held (S:=(fun V:World=>V.cell? a=some (.string (bs x.1))∧V.cell? a'=some (.string (bs y.1)))) (by kernel_rfl) ?_;have BR:=Hi ((Af w5.heap.size w5).drew);refine tkH 0 ⟨some 46,.move (.tmp 11),43,"ref.go:75",#[],none⟩ (HS _ BR) ?_;try simp only[Act.put,np]
    refine tkH 1 ⟨some 47,.binOp .neq 43 (.tmp 46) (.const (.int .i64 0)) 43,4,"ref.go:75",#[⟨0,.data⟩],none⟩ (HS _ BR) ?_;try simp only[Act.put,np]
    refine tkH 2 ⟨some 48,.move (.tmp 47),4,"ref.go:75",#[⟨1,.data⟩],none⟩ (HS _ BR) ?_;try simp only[Act.put,np]
    refine tkH 3 ⟨some 49,.move (.tmp 10),27,"ref.go:75",#[⟨2,.guard⟩],some (2,false)⟩ (HS _ BR) ?_;try simp only[Act.put,np]
    refine tkH 4 ⟨some 50,.move (.tmp 10),27,"ref.go:75",#[⟨2,.guard⟩],some (2,false)⟩ (HS _ BR) ?_;try simp only[Act.put,np]
    refine LW (i:=5) (o:=⟨some 51,.call ⟨.value (.func 166),#[.tmp 50],#[27]⟩,27,"ref.go:75",#[⟨4,.data⟩,⟨2,.chain⟩,⟨2,.guard⟩],some (2,false)⟩) (by kernel_rfl) rfl (fun K1 Mj=>?_);go_simp;refine(acC (cap:=kc) (Ea (C9 PH BR)) Ih).mono ?_;rintro e w6⟨v6,rfl,I8,Cx⟩;rw[acE,gM.out] at I8;obtain⟨q6,c6,rfl⟩:=Bg I8;have Fz:=Hi (BR.trans (Cx.mono (Ac _)));have Lj:=Hi I8;clear I8 Cx;refine Mj _ _ (HS _ Fz) ?_;try simp only[Act.put,np]
    refine LW (i:=6) (o:=⟨some 52,.call ⟨.value (.func 24),#[.tmp 49,.tmp 51],#[27,27]⟩,4,"ref.go:75",#[⟨3,.data⟩,⟨5,.data⟩,⟨5,.chain⟩,⟨2,.guard⟩],some (2,false)⟩) (by kernel_rfl) rfl (fun K2 FM=>?_);go_simp;refine(acO keys keys kq q6 kc c6 _ (Ea (C9 PH Fz)) (Ea Lj) (by have:=Ih.out;unfold maxLen;omega) (by have:=Ih.out;unfold maxLen;omega)).mono ?_;rintro e w7⟨rfl,Ez⟩;have En:=Hi (Fz.trans (Ez.mono Fz.size));clear Ez;refine FM _ _ (HS _ En) ?_;try simp only[Act.put,np]
    simp only[decide_true];refine tkH 7 ⟨some 53,.unOp .not 4 (.tmp 52),4,"ref.go:75",#[⟨6,.data⟩,⟨2,.guard⟩],some (2,false)⟩ (HS _ En) ?_;try simp only[Act.put,np]
    refine tkH 8 ⟨some 54,.pick (.tmp 48) (.const (.bool true)) (.tmp 53),4,"ref.go:75",#[⟨2,.data⟩,⟨7,.data⟩],none⟩ (HS _ En) ?_;try simp only[Act.put,np]
    refine tkH 9 ⟨some 55,.move (.tmp 54),4,"ref.go:75",#[⟨8,.data⟩,⟨6,.chain⟩],none⟩ (HS _ En) ?_;try simp only[Act.put,np]
    refine tkH 10 ⟨some 56,.move (.tmp 8),22,"ref.go:75",#[⟨9,.guard⟩],some (9,false)⟩ (HS _ En) ?_;try simp only[Act.put,np]
    refine tkH 11 ⟨some 57,.move (.tmp 9),3,"ref.go:75",#[⟨9,.guard⟩],some (9,false)⟩ (HS _ En) ?_;try simp only[Act.put,np]
    refine tkH 12 ⟨some 58,.indexAddr 22 (.tmp 56) (.tmp 57),0,"ref.go:75",#[⟨10,.data⟩,⟨11,.data⟩,⟨9,.guard⟩],some (9,false)⟩ (HS _ En) ?_;try simp only[Act.put,np]
    refine tkH 13 ⟨some 59,.fieldAddr 75 (.tmp 58) 0,0,"ref.go:75",#[⟨12,.data⟩,⟨9,.guard⟩],some (9,false)⟩ (HS _ En) ?_;try simp only[Act.put,np]
    refine tkH 14 ⟨some 60,.load 9 (.tmp 59),9,"ref.go:75",#[⟨13,.data⟩,⟨9,.guard⟩],some (9,false)⟩ (HS _ En) ?_;try simp only[Act.put,np]
    refine tkH 16 ⟨some 62,.move (.tmp 0),9,"ref.go:75",#[⟨9,.guard⟩],some (9,false)⟩ (HS _ En) ?_;try simp only[Act.put,np]
    refine LW (i:=15) (o:=⟨some 61,.call ⟨.value (.func 86),#[.tmp 60],#[9]⟩,9,"ref.go:75",#[⟨14,.data⟩,⟨9,.chain⟩,⟨9,.guard⟩],some (9,false)⟩) (by kernel_rfl) rfl (fun K3 Sg=>?_);go_simp;refine(HN _).mono ?_;rintro e wA⟨rfl,Dr⟩;have Ao:=Hi (En.trans (Dr.mono En.size));clear Dr;refine Sg _ _ (HS _ Ao) ?_;try simp only[Act.put,np]
    refine tkH 17 ⟨some 63,.binOp .neq 9 (.tmp 61) (.tmp 62) 9,4,"ref.go:75",#[⟨15,.data⟩,⟨16,.data⟩,⟨9,.guard⟩],some (9,false)⟩ (HS _ Ao) ?_;try simp only[Act.put,np]
    refine tkH 18 ⟨some 64,.pick (.tmp 55) (.const (.bool true)) (.tmp 63),4,"ref.go:75",#[⟨9,.data⟩,⟨17,.data⟩],none⟩ (HS _ Ao) ?_;try simp only[Act.put,np]
    refine tkH 19 ⟨some 65,.move (.tmp 64),4,"ref.go:75",#[⟨18,.data⟩,⟨15,.chain⟩],none⟩ (HS _ Ao) ?_;try simp only[Act.put,np]
    refine tkH 20 ⟨some 66,.move (.tmp 9),3,"ref.go:75",#[⟨19,.guard⟩],some (19,false)⟩ (HS _ Ao) ?_;try simp only[Act.put,np]
    refine tkH 21 ⟨some 67,.binOp .gtr 3 (.tmp 66) (.const (.int .i64 0)) 3,4,"ref.go:75",#[⟨20,.data⟩,⟨19,.guard⟩],some (19,false)⟩ (HS _ Ao) ?_;try simp only[Act.put,np]
    refine tkH 22 ⟨some 68,.move (.tmp 67),4,"ref.go:75",#[⟨21,.data⟩,⟨19,.chain⟩,⟨19,.guard⟩],some (19,false)⟩ (HS _ Ao) ?_;try simp only[Act.put,np]
    refine tkH 23 ⟨some 69,.move (.tmp 8),22,"ref.go:75",#[⟨22,.guard⟩],some (22,true)⟩ (HS _ Ao) ?_;try simp only[Act.put,np]
    refine tkH 24 ⟨some 70,.move (.tmp 9),3,"ref.go:75",#[⟨22,.guard⟩],some (22,true)⟩ (HS _ Ao) ?_;try simp only[Act.put,np]
    refine tkH 25 ⟨some 71,.binOp .sub 3 (.tmp 70) (.const (.int .i64 1)) 3,3,"ref.go:75",#[⟨24,.data⟩,⟨22,.guard⟩],some (22,true)⟩ (HS _ Ao) ?_;try simp only[Act.put,np]
    refine tkH 26 ⟨some 72,.indexAddr 22 (.tmp 69) (.tmp 71),0,"ref.go:75",#[⟨23,.data⟩,⟨25,.data⟩,⟨22,.guard⟩],some (22,true)⟩ (HS _ Ao) ?_;try simp only[Act.put,np]
    refine tkH 27 ⟨some 73,.fieldAddr 75 (.tmp 72) 0,0,"ref.go:75",#[⟨26,.data⟩,⟨22,.guard⟩],some (22,true)⟩ (HS _ Ao) ?_;try simp only[Act.put,np]
    refine tkH 28 ⟨some 74,.load 9 (.tmp 73),9,"ref.go:75",#[⟨27,.data⟩,⟨22,.guard⟩],some (22,true)⟩ (HS _ Ao) ?_;try simp only[Act.put,np]
    refine tkH 29 ⟨some 75,.move (.tmp 8),22,"ref.go:75",#[⟨22,.guard⟩],some (22,true)⟩ (HS _ Ao) ?_;try simp only[Act.put,np]
    refine tkH 30 ⟨some 76,.move (.tmp 9),3,"ref.go:75",#[⟨22,.guard⟩],some (22,true)⟩ (HS _ Ao) ?_;try simp only[Act.put,np]
    refine tkH 31 ⟨some 77,.indexAddr 22 (.tmp 75) (.tmp 76),0,"ref.go:75",#[⟨29,.data⟩,⟨30,.data⟩,⟨22,.guard⟩],some (22,true)⟩ (HS _ Ao) ?_;try simp only[Act.put,np]
    refine tkH 32 ⟨some 78,.fieldAddr 75 (.tmp 77) 0,0,"ref.go:75",#[⟨31,.data⟩,⟨22,.guard⟩],some (22,true)⟩ (HS _ Ao) ?_;try simp only[Act.put,np]
    refine tkH 33 ⟨some 79,.load 9 (.tmp 78),9,"ref.go:75",#[⟨32,.data⟩,⟨22,.guard⟩],some (22,true)⟩ (HS _ Ao) ?_;try simp only[Act.put,np]
    refine tkH 34 ⟨some 80,.binOp .eql 9 (.tmp 74) (.tmp 79) 9,4,"ref.go:75",#[⟨28,.data⟩,⟨33,.data⟩,⟨22,.guard⟩],some (22,true)⟩ (HS _ Ao) ?_;try simp only[Act.put,np]
    refine tkH 35 ⟨some 81,.pick (.tmp 68) (.tmp 80) (.const (.bool false)),4,"ref.go:75",#[⟨22,.data⟩,⟨34,.data⟩,⟨19,.guard⟩],some (19,false)⟩ (HS _ Ao) ?_;try simp only[Act.put,np]
    refine tkH 36 ⟨some 82,.pick (.tmp 65) (.const (.bool true)) (.tmp 81),4,"ref.go:75",#[⟨19,.data⟩,⟨35,.data⟩],none⟩ (HS _ Ao) ?_;try simp only[Act.put,np]
    refine wpAnyH_done (by kernel_rfl) ?_ _;clear Mj K1 FM K2 Sg K3;have CU:=Hi (show y8 w q cap l (.int .i64 ((k:Int)+1)) wA from⟨k+1,by omega,by go_num,HB.trans ((Ck.trans (Ao.mono Ck.size)).mono HB.size),C9 (C9 HR Ck) Ao⟩);go_wp2_with fail;go_roundw
    case rel=>exact CU.out
    case measure=>
     show l.length -((k:Int)+1).toNat < l.length -((k:Int)).toNat
     omega
  ·obtain rfl:k=l.length:=(by omega);go_wp2_with fail;go_ret2;exact⟨q,cap,rfl,HR,HQ,HB⟩
theorem ay9{w:World}{r:Nat}{v:Value}{A:M}{most:Int}(h:GL w r v A most)(hA:A.length≤1000000)(name:T)(K9:∀ d,Fil.get A name=some d→d.length≤1000000)(hf:∀ d,Fil.get A name=some d→(fileOf A9 A name).isSome=true):
  Calls prog 87 #[.pointer (some ⟨r,0,none⟩),.string (bs name)] w fun e w'=>∃ q cap,e=.returned (.tuple #[.slice q ((fileOf A9 A name).getD []).length cap,.bool (Fil.get A name).isSome,.bool false])∧Bo w' w.heap.size (.slice q ((fileOf A9 A name).getD []).length cap) ((fileOf A9 A name).getD [])∧(q=none→cap=0)∧Bw w w':=by
 have HG:=Hi (am9 h hA name);have X8:∀ d,Fil.get A name=some d→fileOf A9 A name=A9.Df name d:=fun d hd=>by unfold fileOf;rw[hd];rfl
 have OW:Fil.get A name=none→fileOf A9 A name=none:=fun hd=>by unfold fileOf;rw[hd];rfl
 clear h;cases hx:Fil.get A name with
 |none=>
  rw[hx] at HG;rw[OW hx];clear hx hf X8 OW K9;go_enter func87,ntmps87;go_wp2_with fail;refine HG.mono ?_;rintro e w1⟨rfl,hb⟩;have HB:=Hi hb;clear hb;go_wp2_with fail;exact El (v:=.tuple #[.slice none 0 0,.bool false,.bool false]) (by simp[results,results87,go_sem]) rfl ⟨none,0,rfl,VN _ _,fun _=>rfl,HB⟩
 |some d=>
  rw[hx] at HG;have h1:=hf d hx;rw[X8 d hx] at h1 ⊢;obtain⟨l,hl⟩:=MN.1 h1;rw[hl];have HE:=Hi (fun(W:World)=>ayy name d l hl W (K9 d hx));clear hx hf X8 OW K9 h1 hl;go_enter func87,ntmps87;go_wp2_with fail;refine HG.mono ?_;rintro e w1⟨rfl,hb⟩;have HB:=Hi hb;clear hb;go_wp2_with fail;refine(HE _).mono ?_;rintro e w2⟨q,cap,rfl,hr,hq,A8⟩;have HR:=Hi (E9 hr HB.size);have Ag:=Hi (HB.trans (A8.mono HB.size));clear A8 hr;go_wp2_with fail;exact El (v:=.tuple #[.slice q l.length cap,.bool true,.bool false]) (by simp[results,results87,go_sem]) rfl ⟨q,cap,rfl,HR,hq,Ag⟩
theorem aA5{l:Us}{k:Nat}(hk:k < l.length):(Bi l)[k]'(by rw[Ol];exact hk)=Po l[k]:=by unfold Bi;rw[List.getElem_map]
theorem ayL{n:Nat}{A:M}{l:Us}(h1:Md l)(h2:Fits A9 (Bi l)):GX n A l=if C8 n < used (made A (ET A9 (Bi l))) then(4,A) else(0,made A (ET A9 (Bi l))):=by
 unfold GX;rw[Ab h1];exact acw I5 h2
def y7(w:World)(xb:Nat)(A:M)(l:Us)(i:Value)(wr:World):Prop:=
 ∃ (k:Nat) (vx:Value),k≤l.length∧i=.int .i64 (k:Int)∧GL wr xb vx (made A (Fj A9 (Bi (l.take k)))) (1099511627776:Nat)∧Fits A9 (Bi (l.take k))∧Bw w wr∧Md (l.take k)
theorem aym{w:World}{r n cap:Nat}{a:Option Addr}{v:Value}{A:M}{l:Us}(h:GL w r v A (C8 n))(hu:Up A)(CO:∀ k,Fil.get A (A9.nm k)=none)(hn:n≤16384)(hA:used A≤C8 n)(hk:Ls w a l)(hl:l.length≤20)(Db:∀ x∈l,x.1.length≤1000000∧x.2.length≤10000)(Fg:∀ j name,Small (Bv A9 (Bi (l.take j)) name)):
  Calls prog 31 #[.pointer (some ⟨r,0,none⟩),.slice a l.length cap] w fun e w'=>e=.returned (.int .i64 (GX n A l).1)∧∃ v',GL w' r v' (GX n A l).2 (C8 n)∧A7 (fun k=>k=r) w w':=by
 obtain⟨i0,Ba,AQ,AU,AV⟩:=Du Qu;obtain⟨vq,vc,rfl⟩:=Bg h.2;have Im:=ZJ hn;have HR:=Hi h;have HU:=Hi hu;have Eb:=Hi CO;have HK:=Hi hk;have Ih:=Hi Db;have NR:=Hi Fg
 have F4:=Hi (show ∀ k,used (made A (Fj A9 (Bi (l.take k))))≤2000000 from fun k=>by
  have h1:=VQ hu (Fj A9 (Bi (l.take k)));have h2:=anV I5 (Bi (l.take k));have h3:(Bi (l.take k)).length≤20:=by rw[Ol,AL];omega
  have h4:=NC 65560 h3;omega)
 have yP:w.cell? ⟨r,0,none⟩=some (.slice vq A.length vc):=cr h.1;have auT:=Ai h.1
 have Yq:=Hi (show GL (w.alloc (.cells #[.slice vq A.length vc,.int .i64 1099511627776] 144)) w.heap.size (.slice vq A.length vc) (made A (Fj A9 (Bi (l.take 0)))) (1099511627776:Nat) from by
  rw[GZ];exact⟨AJ w _,(h.below (Aw w _)).2⟩)
 have Bc:=Hi (Aw w (.cells #[.slice vq A.length vc,.int .i64 1099511627776] 144));clear h hu CO hk Db Fg;go_enter func31,ntmps31;go_wp2_with fail;have JO:=Hi (show y7 w w.heap.size A l (.int .i64 0) (w.alloc (.cells #[.slice vq A.length vc,.int .i64 1099511627776] 144)) from⟨0,.slice vq A.length vc,AB _,rfl,Yq,by rw[GZ];exact zq,Bc,by rw[GZ];exact fun u hu=>by simp at hu⟩);generalize w.alloc (.cells #[.slice vq A.length vc,.int .i64 1099511627776] 144)=V0 at*;clear Yq Bc yP
 go_loopw [6] (fun i wr=>y7 w w.heap.size A l i wr) (fun i _=>l.length -(intOf i).toNat)
 case atStart=>exact JO.out
 case round=>
  obtain⟨k,vx,hk,rfl,hx,BO,hb,Np⟩:=hrel;have HX:=Hi hx;have Ky:=Hi BO;have HB:=Hi hb;have Yh:=Hi Np;clear BO hb JO Np;by_cases hlt:k < l.length
  ·obtain⟨q,Cu,ha⟩:=(HK.below HB).index cap k hlt;have c0:=ha.run;obtain⟨kq,kc,c1,DY,bW⟩:=ha.keys;have KD:=Hi (Ci hlt);obtain⟨Gi,Vo⟩:=Ih _ KD.out;have BN:=Hi (Cw hlt);obtain⟨u,hu⟩:=ex (l[k]);rw[hu] at KD BN c0 c1 DY Gi Vo;obtain⟨run,keys⟩:=u;have RI:=Hi (fun(W:World) (hW:Bw wr W)=>ayg (run:=run) (kc:=kc) (DY.below hW) Vo);simp only at c0 c1 Gi Vo;clear ha hu DY hx;by_cases hz:(Cq (AX keys)).2=0
   case neg=>
    have SN:Cq (AX keys)=([],5):=by
     unfold Cq at hz ⊢;cases dw:FZ (AX keys) with
     |none=>rfl
     |some s=>rw[dw] at hz;exact absurd rfl hz
    have UH:=Hi (show GX n A l=(5,A) from by
     unfold GX;rw[Aa (fun h=>hz (h _ KD))])
    rw[SN] at RI;clear SN hz;go_wp2_with fail;refine(RI _ (Af _ _)).mono ?_;rintro e w1⟨rfl,Ad⟩;have HB1:=Hi (HB.trans ((Ad.alloc Ad.size (.cells #[.string (bs run),.string (bs [])] 75)).mono HB.size));clear Ad;go_wp2_with fail;go_ret;rw[UH.out];exact⟨rfl,_,HR.below HB1,A7.of_below HB1⟩
   case pos=>
    obtain⟨s,hs⟩:=ex ((Cq (AX keys)).1);have Xq:Cq (AX keys)=(s,0):=Prod.ext hs hz;rw[Xq] at RI;have x8:=Hi (show Md (l.take (k+1)) from by rw[BN.out];exact amn.2 ⟨Yh,hz⟩);have Ey:=Hi (show Bi (l.take (k+1))=Bi (l.take k)++[(run,s)] from by rw[BN.out,anL];unfold Po;rw[hs]);have HN:=Hi (fun(W:World)=>acG run W (by omega));have NS:=Hi (show(Bi (l.take k)).length≤20 from by rw[Ol,AL];omega);have Qb:=pz HU (K:=A9) (Bi (l.take k)) (A9.nm run);rw[Eb.out] at Qb;have OX:=oM HU Eb (ado Yh) Ky run
    have Gr:=Hi (fun(W:World) (hW:Bw wr W)=>ay9 (HX.below hW) (by have:=Rn (made A (Fj A9 (Bi (l.take k))));have:=F4 k;omega) (A9.nm run) (fun d hd=>by
     rw[Qb] at hd;split at hd
     ·injection hd with hd
      rw[←hd];cases hc:BG (Bv A9 (Bi (l.take k)) (A9.nm run)) with
      |none=>exact AB _
      |some d=>exact Ap (aX hc) (by decide)
     ·cases hd) (fun d hd=>by
     rw[Qb] at hd;rw[OX];split at hd
     ·rename_i Be
      rw[Ab Be];rfl
     ·cases hd))
    rw[agx HU Eb (ado Yh) Ky run] at Gr
    have Py:=Hi (show Fits A9 (Bi l)→(BG (Bv A9 (Bi (l.take (k+1))) (A9.nm run))).isSome=true from fun h=>by
     have h1:=h k (by rw[Ol];exact hlt);rw[←uJ,aA5 hlt] at h1;have h2:(Po l[k]).1=run:=by
      have h3:=BN.out;have h4:=Cw hlt;rw[h4] at h3;have h5:=List.append_cancel_left h3;have h6:l[k]=(run,keys):=(by injection h5);rw[h6];rfl
     rw[h2] at h1;exact h1)
    clear Qb OX hs hz Xq;generalize SC:A9.nm run=name at*;have Li:=Hi SC;clear SC;have fT:=Hi (Sb (K:=A9) (Bi (l.take k)) name);have NH:=Hi (show Bv A9 (Bi (l.take (k+1))) name=put run s (Bv A9 (Bi (l.take k)) name) from by rw[Ey.out,Nf,Ab Li.out]);have JS:=Hi (NR (k+1) name);have O6:(Bv A9 (Bi (l.take k)) name).length≤20:=by
     have h1:=pI A9 (Bi (l.take k)) name;have:=NS.out;omega
    rw[NH.out] at JS Py
    have Ll:=Hi (show Fj A9 (Bi (l.take (k+1)))=Fj A9 (Bi (l.take k))++[⟨name,(BG (put run s (Bv A9 (Bi (l.take k)) name))).getD [],false⟩] from by
     rw[←NH.out,Ey.out,uk,←Ey.out]
     congr 1
     unfold LP;rw[show A9.nm ((run,s):T×T).1=name from Li.out])
    have Tv:=Hi (show Fits A9 (Bi (l.take (k+1)))↔Fits A9 (Bi (l.take k))∧(BG (put run s (Bv A9 (Bi (l.take k)) name))).isSome=true from by
     rw[←NH.out,Ey.out,Fits.kP,←Ey.out,show A9.nm ((run,s):T×T).1=name from Li.out])
    generalize Bv A9 (Bi (l.take k)) name=G at*;generalize (Fil.get (made A (Fj A9 (Bi (l.take k)))) name).isSome=isb at*;go_wp2_with fail;refine(RI _ (Af _ _)).mono ?_;rintro e w1⟨rfl,Ad⟩;have ahS:=Aw w1 (.cells #[.string (bs run),.string (bs s)] 75);have gI:=Hi (AJ w1 (.cells #[.string (bs run),.string (bs s)] 75));have HB1:=Hi (Ad.trans (ahS.mono Ad.size));have c01:(w1.alloc (.cells #[.string (bs run),.string (bs s)] 75)).cell? q=some (.string (bs run)):=(HB1.cell (BS c0)).trans c0;have Lh:=Hi c0;clear Ad ahS c0 c1;go_wp2_with fail;obtain⟨W1,bE⟩:=ex (w1.alloc (.cells #[.string (bs run),.string (bs s)] 75));obtain⟨pb,Qg⟩:=ex (w1.heap.size);rw[bE] at gI HB1 ⊢;rw[Qg] at gI ⊢;clear bE Qg c01;refine(HN _).mono ?_;rintro e w2⟨rfl,A8⟩;have Ag:=Hi (HB1.trans (A8.mono HB1.size));have wX:=Hi ((A8.block _ (Ai gI)).trans gI);clear A8 gI;go_wp2_with fail;refine(Gr _ Ag).mono ?_;rintro e w3⟨q3,c3,rfl,Qh,LF,Ak⟩;have Am:=Hi (Ag.trans (Ak.mono Ag.size));have mR:=Hi ((Ak.block _ (Ai wX)).trans wX);have Ov:=Hi Qh;clear Qh Ak wX;have c0:w3.cell? q=some (.string (bs run)):=(Am.cell (BS Lh)).trans Lh.out;have cp0:w3.cell? ⟨pb,0,none⟩=some (.string (bs run)):=cr mR.out;have cp1:w3.cell? ⟨pb,1,none⟩=some (.string (bs s)):=cr mR.out;have Jr:Lb (G.filter (fun p=>!(p.1 == run))++[(run,s)])=put run s G:=ayY fT run s;have Vy:=JS.out;obtain⟨lf,Sw⟩:∃ lf,G.filter (fun p=>!(p.1 == run))=lf:=⟨_,rfl⟩;have auv:lf.length≤20:=by rw[←Sw];exact Ap (NB _ _) O6
    have Wy:=Hi (fun(W:World) (hW:Bw w3 W)=>ayA (w:=W) (cap:=c3) run ((AO.CG Ov).below hW) (by omega));have ae0:=Hi (fT.put run s);rw[Sw] at Wy Jr;obtain⟨G2,aa0⟩:=ex (put run s G);rw[aa0] at Jr Vy ae0 Py Ll Tv;have aoB:=Hi (show Bv A9 (Bi (l.take (k+1))) name=G2 from by rw[NH.out,aa0])
    have nC:=Hi (fun(W:World) (q:Option Addr) (c:Nat) (h:AO W q (lf++[(run,s)]))=>show Calls prog 89 #[.slice q (lf.length+1) c] W fun e w'=>∃ q c,e=.returned (.slice q G2.length c)∧Bo w' W.heap.size (.slice q G2.length c) G2∧Bw W w' from by
     have h1:=ayo (cap:=c) h (by rw[Au,Kq];omega);rw[Jr,Au,Kq] at h1;exact h1)
    obtain⟨dd,Vm⟩:=ex ((BG G2).getD []);obtain⟨cc,Jt⟩:∃ cc:Int,(if(BG G2).isSome=true then 0 else 5)=cc:=⟨_,rfl⟩
    have JL:=Hi (fun(W:World) (q:Option Addr) (c:Nat) (h:AO W q G2)=>show Calls prog 88 #[.slice q G2.length c] W fun e w'=>e=.returned (.tuple #[.string (bs dd),.int .i64 cc])∧Bw W w' from by
     have h1:=axP (cap:=c) h (Cr.Qt ae0) (by have:=Vy.1;omega) Vy.2;rw[Vm,Jt] at h1;exact h1)
    have JM:=Hi Vm;have Fa:=Hi Jt;have mJ:=Hi auv;have WY:=Aw w3 (.cells #[.string (bs run),.string (bs s)] 75);have aA:=Hi (AJ w3 (.cells #[.string (bs run),.string (bs s)] 75));have Uz:=Hi WY;have c0P:(w3.alloc (.cells #[.string (bs run),.string (bs s)] 75)).drew.cell? q=some (.string (bs run)):=(WY.cell (BS c0)).trans c0
    have HCP:=Hi (fun(V:World) (hV:Bw w3 V)=>show V.cell? ⟨pb,0,none⟩=some (.string (bs run))∧V.cell? ⟨pb,1,none⟩=some (.string (bs s)) from by
     have h1:=(hV.block _ (Ai mR)).trans mR;exact⟨cr h1,cr h1⟩)
    clear Jr Sw aa0 Vy Vm Jt WY O6;go_wp2_with fail;refine ZT ?_
    go_region_law
     (first
      |(go_simp;go_at_call 90;refine(Wy _ ((Af _ w3).drew)).mono ?_;rintro e w4 ⟨q4,c4,rfl,Hl,Ar⟩;have Ar:Bw w3 w4:=((Af _ w3).drew).trans (Ar.mono (Ac _));have Ma:=Hi (E9 Hl (show w3.heap.size≤_ from Ac _));have AZ:=Hi Ar;obtain⟨cq0,cq1⟩:=HCP w4 Ar;go_wp2_with fail)
      |(go_simp;go_at_call 90;refine(Wy _ Uz.drew).mono ?_;rintro e w4 ⟨q4,c4,rfl,Hl,Ar⟩;have hp4:w4.heap[w3.heap.size]?=some (.cells #[.string (bs run),.string (bs s)] 75):=(Ar.block _ (Ai aA)).trans aA.out;have Ar:Bw w3 w4:=Uz.trans (((Af _ _).drew.trans (Ar.mono (Ac _))).mono Uz.size);have Ma:=Hi (E9 Hl (show w3.heap.size≤_ from Uz.size));have AZ:=Hi Ar;obtain⟨cq0,cq1⟩:=HCP w4 Ar;go_wp2_with fail)
      |(go_simp;go_at_call 89;refine(nC w5 _ _ (AO.CG NN)).mono ?_;rintro e w6 ⟨q6,c6,rfl,I8,Cx⟩;have Lj:=Hi I8;have Fz:=Hi (Ck.trans (Cx.mono Ck.size));go_wp2_with fail)
      |(go_simp;go_at_call 88;refine(JL w6 q6 c6 (AO.CG Lj)).mono ?_;rintro e w7 ⟨rfl,Ez⟩;have En:=Hi (Fz.trans (Ez.mono Fz.size));go_wp2_with fail)
      |(refine step_append_lies _ (by rfl) _ _ _ (by rfl) w3.heap.size 75 i0 _ 2 32 underlying22 Ba AQ AU AV (by rfl) (by omega) (.slice q4 lf.length c4) lf.length (Da lf) (by rfl) Ma ⟨w3.heap.size,0,none⟩ 1 1 [.string (bs run),.string (bs s)] (by rfl) (by rfl) (World.news_of_block (cs:=#[.string (bs run),.string (bs s)]) (t:=75) (fr:=(0,0)) hp4) (fun u hu=>by simp at hu;rcases hu with rfl|rfl<;>rfl) (by omega) (by have:=mJ.out;unfold maxLen;omega) (by have:=mJ.out;omega) (by have:=AZ.size;omega) w4.heap.size (by simp) ?_;intro gg cap2 w5 Xl qI ahN aj8;have NN:=Hi (show Bo w5 w3.heap.size (.slice (some ⟨gg,0,none⟩) (lf++[(run,s)]).length cap2) (lf++[(run,s)]) from by unfold Bo;rw[Au,RY];exact Xl);have Ck:=Hi (show Bw w3 w5 from AZ.grown qI AZ.size (fun j e=>DC Ma e)))
      |(refine step_append_lies _ (by rfl) _ _ _ (by rfl) w3.heap.size 75 i0 _ 2 32 underlying22 Ba AQ AU AV (by rfl) (by omega) (.slice q4 lf.length c4) lf.length (Da lf) (by rfl) (Ma.alloc _) ⟨w4.heap.size,0,none⟩ 1 1 [.string (bs run),.string (bs s)] (by rfl) (by rfl) (World.news_of_block (cs:=#[.string (bs run),.string (bs s)]) (t:=75) (fr:=(0,0)) (AJ w4 _)) (fun u hu=>by simp at hu;rcases hu with rfl|rfl<;>rfl) (by omega) (by have:=mJ.out;unfold maxLen;omega) (by have:=mJ.out;omega) (by have:=AZ.size;rw[Aq];omega) (w4.heap.size+1) (by simp) ?_;intro gg cap2 w5 Xl qI ahN aj8;have NN:=Hi (show Bo w5 w3.heap.size (.slice (some ⟨gg,0,none⟩) (lf++[(run,s)]).length cap2) (lf++[(run,s)]) from by unfold Bo;rw[Au,RY];exact Xl);have Ck:=Hi (show Bw w3 w5 from(AZ.alloc AZ.size _).grown qI (by rw[Aq];have:=AZ.size;omega) (fun j e=>DC Ma e))))
    all_goals
     dsimp only[XD];have ve:=Hi (show Bw wr w7 from Am.trans (En.mono Am.size));clear Hl I8 Ar Cx Ez qI Xl ahN aj8 cq0 cq1 c0 c0P cp0 cp1;by_cases Dv:(BG G2).isSome=true
     ·have Jt:cc=0:=(by rw[←Fa.out,Ab Dv]);obtain⟨d,hd⟩:=MN.1 Dv;have Vm:dd=d:=(by rw[←JM.out,hd];rfl);rw[hd] at Ll;simp only[Option.getD_some] at Ll;subst Jt Vm;have K9:=aX hd;have QG:=Hi (Tv.2 ⟨Ky,Dv⟩);have Ee:name.length=17:=by rw[←Li.out];exact I5.len _
      have Ot:=Hi (show Aj.may ⟨name,dd,false⟩=true from by
       have h1:=acp I5 QG (p:=(run,s)) (by rw[Ey.out];simp);have h2:LP A9 (Bi (l.take (k+1))) (A9.nm ((run,s):T×T).1)=⟨name,dd,false⟩:=by
        unfold LP;rw[show A9.nm ((run,s):T×T).1=name from Li.out,aoB.out,hd];rfl
       rw[h2] at h1;exact h1)
      clear Dv hd Fa JM Py;have BP:=Aw w7 (.cells #[.string (bs name),.string (bs dd),.bool false] 65);have Qf:=AJ w7 (.cells #[.string (bs name),.string (bs dd),.bool false] 65);have Ao:=Hi (ve.trans (BP.mono ve.size));have Rw:=Hi (alS (most:=1099511627776) (cap:=1) (HX.below Ao) (HU.made _) (afs (c:=⟨name,dd,false⟩) Qf) (by omega) (by have:=F4 k;omega) (by simp) (by show 8+name.length+dd.length+0≤_;omega));have jK:VL 1099511627776 (made A (Fj A9 (Bi (l.take k)))) [⟨name,dd,false⟩]=made A (Fj A9 (Bi (l.take (k+1)))):=by
       unfold VL;have h1:=F4 (k+1);rw[Ll.out,rZ] at h1;rw[Ab ⟨by simp[Ot.out],by omega⟩,Ll.out,rZ]
      rw[jK] at Rw;have CL:=Hi (HB.trans (Ao.mono HB.size));clear BP Qf jK;generalize YB 1099511627776 (made A (Fj A9 (Bi (l.take k)))) [⟨name,dd,false⟩]=cd at*;go_wp2_with fail;refine Rw.mono ?_;rintro e w8⟨rfl,v8,hx8,LM⟩;have CU:=Hi (show y7 w w.heap.size A l (.int .i64 ((k:Int)+1)) w8 from⟨k+1,v8,by omega,by go_num,hx8,QG,Ca CL LM (fun i e=>Nat.le_of_eq e.symm) CL.size,x8⟩);clear hx8 LM;go_wp2_with fail;go_roundw
      case rel=>exact CU.out
      case measure=>
       show l.length -((k:Int)+1).toNat < l.length -((k:Int)).toNat
       omega
     ·have Jt:cc=5:=(by rw[←Fa.out,Aa Dv]);subst Jt
      have UH:=Hi (show GX n A l=(5,A) from by
       unfold GX;split
       ·unfold Gl;rw[Aa (fun hF=>Dv (Py hF))]
       ·rfl)
      have NF:=Hi (HB.trans (ve.mono HB.size));clear Dv Py Tv Fa JM;go_wp2_with fail;go_ret;rw[UH.out];exact⟨rfl,_,HR.below NF,A7.of_below NF⟩
  ·obtain rfl:k=l.length:=(by omega);have BO:=Ky.out;have Np:=Yh.out;rw[CY] at BO hx Np;have GD:=F4 l.length;rw[CY] at GD;have J4:=Hi (ayL (n:=n) (A:=A) Np BO);rw[←anJ HU.out,←tN HU.out] at J4;have Yn:=Hi (fun(W:World) (hW:Bw wr W)=>amy (hx.below hW) (by omega));have QT:=Hi hx;obtain⟨xq,xc,rfl⟩:=Bg hx.2;have Fv:=HR.below HB.out;have c1:wr.cell? ⟨r,1,none⟩=some (.int .i64 (C8 n:Int)):=cr Fv.1;clear BO hx Fv HX Np;generalize hF:made A (Fj A9 (Bi l))=F at*;obtain⟨U,iW⟩:=ex (used F);rw[iW] at Yn J4 GD;clear hF iW;by_cases Gy:C8 n < U
   ·have Qa:(C8 n:Int) < (U:Int):=(by omega);rw[Ab Gy] at J4;clear Gy;go_wp2_with fail
    go_region_held3 (fun V=>V.cell? ⟨r,1,none⟩=some (.int .i64 (C8 n:Int))) (go_keep)
     (first|(go_at_call 77;refine(Yn _ ((Af _ _).drew)).mono ?_;rintro e wA ⟨rfl,Dr⟩;have Ao:=Hi (HB.trans ((show Bw wr wA from((Af _ wr).drew).trans Dr).mono HB.size));clear Dr;have cA:wA.cell? ⟨r,1,none⟩=some (.int .i64 (C8 n:Int)):=(by rw[BA _ _ _ _ _ _ (HR.below Ao).1];rfl)))
    all_goals
     go_wp2_with fail;go_ret;rw[J4.out];exact⟨rfl,_,HR.below Ao,A7.of_below Ao⟩
   ·have Qa:¬ (C8 n:Int) < (U:Int):=(by omega);rw[Aa Gy] at J4;clear Gy;go_wp2_with fail
    go_region_held3 (fun V=>V.cell? ⟨r,1,none⟩=some (.int .i64 (C8 n:Int))) (go_keep)
     (first|(go_at_call 77;refine(Yn _ ((Af _ _).drew)).mono ?_;rintro e wA ⟨rfl,Dr⟩;have Ao:=Hi (show Bw wr wA from((Af _ wr).drew).trans Dr);clear Dr;have cA:wA.cell? ⟨r,1,none⟩=some (.int .i64 (C8 n:Int)):=(by rw[BA _ _ _ _ _ _ (HR.below (HB.trans (Ao.mono HB.size))).1];rfl)))
    all_goals
     have CL:=Hi (HB.trans (Ao.mono HB.size));have Fv:=HR.below CL.out;have Oe:=QT.below Ao.out;have d0:wA.cell? ⟨r,0,none⟩=some (.slice vq A.length vc):=cr Fv.1;have df:=CJ _ _ 0 _ _ Fv.1;have x0:wA.cell? ⟨w.heap.size,0,none⟩=some (.slice xq F.length xc):=cr Oe.1;have Hd:=Hi (Cc Fv.1 Oe.2);clear Fv c1 Oe;go_wp2_with fail;go_ret;rw[J4.out];refine⟨rfl,.slice xq F.length xc,?_,(A7.of_below (F:=fun k=>k=r) CL).setCell (p:=⟨r,0,none⟩) (.inl rfl) _⟩;refine⟨BU _ _ 0 _ _ _ Hd.1,Bh Hd.2 ((A7.refl (fun k=>k=r) wA).setCell (p:=⟨r,0,none⟩) (.inl rfl) _) (fun g hg e=>?_)⟩;rw[e] at hg;exact AA.ne (BQ Hd.2 hg) ⟨_,_,Hd.1⟩ (by decide) rfl
end Dep
end Go.Proofs.YtmbbhdebddbhoaaGreat
