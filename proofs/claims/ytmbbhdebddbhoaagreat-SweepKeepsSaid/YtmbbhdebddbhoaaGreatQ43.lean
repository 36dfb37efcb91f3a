/- RUse RSet -/
import Derived.Test.YtmbbhdebddbhoaaGreatQ42
set_option maxHeartbeats 8000000
set_option maxRecDepth 100000
set_option linter.all false
namespace Go.Proofs.YtmbbhdebddbhoaaGreat
open Tryz
namespace Dep
open Go.RowKit Go.Maps
open Wal Fil Prs Kp BH Hex Sha Mem
open Man hiding T
theorem apd(l:List T):2+2*l.length≤rowLen l:=by
 unfold rowLen
 induction l with
 |nil=>exact Ab _
 |cons x l ih=>rw[Bg,Cx,AX];omega
theorem ape{s:T}{l:List T}(h:C9 s=some l):2*l.length+2≤s.length:=by
 have h2:=Wj h;unfold Er at h2;split at h2
 ·cases ht:textsE l with
  |none=>rw[ht] at h2;cases h2
  |some a=>
   rw[ht] at h2;simp only[Dm,Bt] at h2;have h3:=Pk ht;have h4:=apd l;rw[←h2,Aj,Crc.Be];omega
 ·cases h2
def qP(w:World)(q:Option Addr)(cap:Nat)(l:M)(i:Value)(wr:World):Prop:=∃ k:Nat,k≤l.length∧i=.int .i64 k∧Bw w wr∧AP wr w.heap.size (.slice q l.length cap) l
theorem apf(name data:T)(l:M)(h:A8.Cn name data=some l)(w:World)(hd:data.length≤1000000):Calls prog 167 #[.string (bs name),.string (bs data)] w fun e w'=>∃ q cap,e=.returned (.tuple #[.slice q l.length cap,.bool true])∧AP w' w.heap.size (.slice q l.length cap) l∧(q=none→cap=0)∧Bw w w':=by
 have hsh:=(Vs h).2;obtain⟨hne,hup,hnm,s,hps,hse⟩:=KR h;have hop:Crc.Dj data=(s,0):=by rw[hse];exact Crc.fM s
 have hsl:s.length≤1000000:=by
  have:data.length=s.length+4:=by rw[hse];unfold Crc.Du;rw[Aj,Crc.Be]
  omega
 have HO:=Hi (sK data w (by omega));rw[hop] at HO;have HG:=Hi (fun(W:World)=>adz s l (aH hps (BN.LM hup)) W (by omega));have Gb:=Hi (fun p hp=>(hnm p hp).1)
 have Es:=Hi (fun(p:T×T) (hp:p∈l)=>show ∃ ks,C9 p.2=some ks∧Az ks=ks from by
  have h1:rowOk p=true:=(hnm p hp).2;unfold rowOk at h1;cases hr:C9 p.2 with
  |none=>rw[hr] at h1;cases h1
  |some ks=>rw[hr] at h1;exact⟨ks,rfl,by simpa using h1⟩)
 have Dy:=Hi hup;have MK:=Hi hsh;have hlz:((l.length:Int) == 0)=false:=Fq.2 (fun e=>hne (IL.1 (by omega)));have hll:l.length≤65535:=(Vs h).1;clear h hop hps hse hup hnm hne hsh;go_enter func167,ntmps167;go_wp2_with fail;refine HO.mono ?_;rintro e w1⟨rfl,hb1⟩;have HB1:=Hi hb1;clear hb1;go_wp2_with fail;refine(HG _).mono ?_;rintro e w2⟨v,rfl,hr2,hb2⟩;obtain⟨q,cap,rfl,hq,hc⟩:=Dl hr2;have HR2:=Hi (Da hr2 HB1.size);have HB2:=Hi (HB1.trans (hb2.mono HB1.size));have HQ:=Hi hq;clear hr2 hb2 hq hc;go_wp2_with fail
 go_loopw [9] (fun i wr=>qP w q cap l i wr) (fun i _=>l.length -(intOf i).toNat)
 case atStart=>exact⟨0,Ar _,rfl,HB2,HR2⟩
 case round=>
  obtain⟨k,hkl,rfl,hb,hr⟩:=hrel;have HB:=Hi hb;have HR:=Hi hr;clear hb hr HB2 HR2;by_cases hlt:k < l.length
  ·obtain⟨a,hix,c0,cv⟩:=Rz HR hlt;have hk1:=(MK _ (BF hlt)).1;have hnk:=Gb _ (BF hlt);obtain⟨keys,axy,aBa⟩:=Es _ (BF hlt);have M7:=Hi (MK _ (BF hlt)).2;have YE:=Hi aBa
   have FQ:=Hi (show keys.length≤50000 from by
    have h1:=ape axy;have h3:=(MK _ (BF hlt)).2;omega)
   have HRR:=Hi (fun(W:World) (hl:l[k].2.length≤65535)=>ao4 l[k].2 W (by omega));unfold Go.Proofs.YtmbbhdebddbhoaaGreat.Il at HRR;simp only[axy] at HRR;clear aBa;by_cases hk0:k=0
   ·subst hk0;generalize l[0]=x at*;have HN:=Hi (fun(W:World)=>qL x.1 W (by omega));rw[hnk] at HN;have Tk:∀ W,(Instr.indexAt 22 (.slice q l.length cap) (.int .i64 0)).run prog W=.ok (.pointer (some a)) W:=hix;have HC:=Hi (fun(V:World) (hb:Bw wr V)=>(hb.cell (Bz c0)).trans c0);clear hix c0 hnk axy;go_wp2_with fail;refine(HRR _ M7).mono ?_;rintro e w5⟨v5,rfl,J5,hb5,-⟩;obtain⟨kq,kc,rfl⟩:=AA J5;have LB:=Hi (show Man.AQ w5 0 (.slice kq keys.length kc) keys from J5);have BG:=Hi hb5;clear J5 hb5;go_wp2_with fail;have HS:=Hi (fun(V:World) (hb:Bw w5 V)=>(show(fun V:World=>V.cell? a=some (.string (bs x.1))) V from HC V (BG.trans (hb.mono BG.size))));refine wp_region_held (S:=(fun V:World=>V.cell? a=some (.string (bs x.1)))) (by kernel_rfl) ?_;have BR:=Hi ((Ad w5.heap.size w5).drew);refine tkH 0 ⟨some 46,.move (.tmp 11),43,"ref.go:75",#[],none⟩ (HS _ BR) ?_;try simp only[Act.put,np]
    refine tkH 1 ⟨some 47,.binOp .neq 43 (.tmp 46) (.const (.int .i64 0)) 43,4,"ref.go:75",#[⟨0,.data⟩],none⟩ (HS _ BR) ?_;try simp only[Act.put,np]
    refine tkH 2 ⟨some 48,.move (.tmp 47),4,"ref.go:75",#[⟨1,.data⟩],none⟩ (HS _ BR) ?_;try simp only[Act.put,np]
    refine tkH 3 ⟨some 49,.move (.tmp 10),27,"ref.go:75",#[⟨2,.guard⟩],some (2,false)⟩ (HS _ BR) ?_;try simp only[Act.put,np]
    refine tkH 4 ⟨some 50,.move (.tmp 10),27,"ref.go:75",#[⟨2,.guard⟩],some (2,false)⟩ (HS _ BR) ?_;try simp only[Act.put,np]
    refine GH (i:=5) (o:=⟨some 51,.call ⟨.value (.func 166),#[.tmp 50],#[27]⟩,27,"ref.go:75",#[⟨4,.data⟩,⟨2,.chain⟩,⟨2,.guard⟩],some (2,false)⟩) (by kernel_rfl) rfl (fun K1 hK1=>?_);go_simp;refine(qK (cap:=kc) (CP (Bp LB BR)) FQ).mono ?_;rintro e w6⟨v6,rfl,EK,hb6⟩;rw[kX,YE.out] at EK;obtain⟨q6,c6,rfl⟩:=AA EK;have Em:=Hi (BR.trans (hb6.mono (Ab _)));have IB:=Hi EK;clear EK hb6;refine hK1 _ _ (HS _ Em) ?_;try simp only[Act.put,np]
    refine GH (i:=6) (o:=⟨some 52,.call ⟨.value (.func 24),#[.tmp 49,.tmp 51],#[27,27]⟩,4,"ref.go:75",#[⟨3,.data⟩,⟨5,.data⟩,⟨5,.chain⟩,⟨2,.guard⟩],some (2,false)⟩) (by kernel_rfl) rfl (fun K2 hK2=>?_);go_simp;refine(qw keys keys kq q6 kc c6 _ (CP (Bp LB Em)) (CP IB) (by have:=FQ.out;unfold maxLen;omega) (by have:=FQ.out;unfold maxLen;omega)).mono ?_;rintro e w7⟨rfl,D8⟩;have CX:=Hi (Em.trans (D8.mono Em.size));clear D8;refine hK2 _ _ (HS _ CX) ?_;try simp only[Act.put,np]
    simp only[decide_true];refine tkH 7 ⟨some 53,.unOp .not 4 (.tmp 52),4,"ref.go:75",#[⟨6,.data⟩,⟨2,.guard⟩],some (2,false)⟩ (HS _ CX) ?_;try simp only[Act.put,np]
    refine tkH 8 ⟨some 54,.pick (.tmp 48) (.const (.bool true)) (.tmp 53),4,"ref.go:75",#[⟨2,.data⟩,⟨7,.data⟩],none⟩ (HS _ CX) ?_;try simp only[Act.put,np]
    refine tkH 9 ⟨some 55,.move (.tmp 54),4,"ref.go:75",#[⟨8,.data⟩,⟨6,.chain⟩],none⟩ (HS _ CX) ?_;try simp only[Act.put,np]
    refine tkH 10 ⟨some 56,.move (.tmp 8),22,"ref.go:75",#[⟨9,.guard⟩],some (9,false)⟩ (HS _ CX) ?_;try simp only[Act.put,np]
    refine tkH 11 ⟨some 57,.move (.tmp 9),3,"ref.go:75",#[⟨9,.guard⟩],some (9,false)⟩ (HS _ CX) ?_;try simp only[Act.put,np]
    refine tkH 12 ⟨some 58,.indexAddr 22 (.tmp 56) (.tmp 57),0,"ref.go:75",#[⟨10,.data⟩,⟨11,.data⟩,⟨9,.guard⟩],some (9,false)⟩ (HS _ CX) ?_;try simp only[Act.put,np]
    refine tkH 13 ⟨some 59,.fieldAddr 75 (.tmp 58) 0,0,"ref.go:75",#[⟨12,.data⟩,⟨9,.guard⟩],some (9,false)⟩ (HS _ CX) ?_;try simp only[Act.put,np]
    refine tkH 14 ⟨some 60,.load 9 (.tmp 59),9,"ref.go:75",#[⟨13,.data⟩,⟨9,.guard⟩],some (9,false)⟩ (HS _ CX) ?_;try simp only[Act.put,np]
    refine tkH 16 ⟨some 62,.move (.tmp 0),9,"ref.go:75",#[⟨9,.guard⟩],some (9,false)⟩ (HS _ CX) ?_;try simp only[Act.put,np]
    refine GH (i:=15) (o:=⟨some 61,.call ⟨.value (.func 86),#[.tmp 60],#[9]⟩,9,"ref.go:75",#[⟨14,.data⟩,⟨9,.chain⟩,⟨9,.guard⟩],some (9,false)⟩) (by kernel_rfl) rfl (fun K3 hK3=>?_);go_simp;refine(HN _).mono ?_;rintro e wA⟨rfl,Cv⟩;have Ag:=Hi (CX.trans (Cv.mono CX.size));clear Cv;refine hK3 _ _ (HS _ Ag) ?_;try simp only[Act.put,np]
    refine tkH 17 ⟨some 63,.binOp .neq 9 (.tmp 61) (.tmp 62) 9,4,"ref.go:75",#[⟨15,.data⟩,⟨16,.data⟩,⟨9,.guard⟩],some (9,false)⟩ (HS _ Ag) ?_;try simp only[Act.put,np]
    refine tkH 18 ⟨some 64,.pick (.tmp 55) (.const (.bool true)) (.tmp 63),4,"ref.go:75",#[⟨9,.data⟩,⟨17,.data⟩],none⟩ (HS _ Ag) ?_;try simp only[Act.put,np]
    refine tkH 19 ⟨some 65,.move (.tmp 64),4,"ref.go:75",#[⟨18,.data⟩,⟨15,.chain⟩],none⟩ (HS _ Ag) ?_;try simp only[Act.put,np]
    refine tkH 20 ⟨some 66,.move (.tmp 9),3,"ref.go:75",#[⟨19,.guard⟩],some (19,false)⟩ (HS _ Ag) ?_;try simp only[Act.put,np]
    refine tkH 21 ⟨some 67,.binOp .gtr 3 (.tmp 66) (.const (.int .i64 0)) 3,4,"ref.go:75",#[⟨20,.data⟩,⟨19,.guard⟩],some (19,false)⟩ (HS _ Ag) ?_;try simp only[Act.put,np]
    refine tkH 22 ⟨some 68,.move (.tmp 67),4,"ref.go:75",#[⟨21,.data⟩,⟨19,.chain⟩,⟨19,.guard⟩],some (19,false)⟩ (HS _ Ag) ?_;try simp only[Act.put,np]
    refine tkU 23 ⟨some 69,.move (.tmp 8),22,"ref.go:75",#[⟨22,.guard⟩],some (22,true)⟩ (HS _ Ag) ?_;try simp only[Act.put,np]
    refine tkU 24 ⟨some 70,.move (.tmp 9),3,"ref.go:75",#[⟨22,.guard⟩],some (22,true)⟩ (HS _ Ag) ?_;try simp only[Act.put,np]
    refine tkU 25 ⟨some 71,.binOp .sub 3 (.tmp 70) (.const (.int .i64 1)) 3,3,"ref.go:75",#[⟨24,.data⟩,⟨22,.guard⟩],some (22,true)⟩ (HS _ Ag) ?_;try simp only[Act.put,np]
    refine tkU 26 ⟨some 72,.indexAddr 22 (.tmp 69) (.tmp 71),0,"ref.go:75",#[⟨23,.data⟩,⟨25,.data⟩,⟨22,.guard⟩],some (22,true)⟩ (HS _ Ag) ?_;try simp only[Act.put,np]
    refine tkU 27 ⟨some 73,.fieldAddr 75 (.tmp 72) 0,0,"ref.go:75",#[⟨26,.data⟩,⟨22,.guard⟩],some (22,true)⟩ (HS _ Ag) ?_;try simp only[Act.put,np]
    refine tkU 28 ⟨some 74,.load 9 (.tmp 73),9,"ref.go:75",#[⟨27,.data⟩,⟨22,.guard⟩],some (22,true)⟩ (HS _ Ag) ?_;try simp only[Act.put,np]
    refine tkU 29 ⟨some 75,.move (.tmp 8),22,"ref.go:75",#[⟨22,.guard⟩],some (22,true)⟩ (HS _ Ag) ?_;try simp only[Act.put,np]
    refine tkU 30 ⟨some 76,.move (.tmp 9),3,"ref.go:75",#[⟨22,.guard⟩],some (22,true)⟩ (HS _ Ag) ?_;try simp only[Act.put,np]
    refine tkU 31 ⟨some 77,.indexAddr 22 (.tmp 75) (.tmp 76),0,"ref.go:75",#[⟨29,.data⟩,⟨30,.data⟩,⟨22,.guard⟩],some (22,true)⟩ (HS _ Ag) ?_;try simp only[Act.put,np]
    refine tkU 32 ⟨some 78,.fieldAddr 75 (.tmp 77) 0,0,"ref.go:75",#[⟨31,.data⟩,⟨22,.guard⟩],some (22,true)⟩ (HS _ Ag) ?_;try simp only[Act.put,np]
    refine tkU 33 ⟨some 79,.load 9 (.tmp 78),9,"ref.go:75",#[⟨32,.data⟩,⟨22,.guard⟩],some (22,true)⟩ (HS _ Ag) ?_;try simp only[Act.put,np]
    refine tkU 34 ⟨some 80,.binOp .eql 9 (.tmp 74) (.tmp 79) 9,4,"ref.go:75",#[⟨28,.data⟩,⟨33,.data⟩,⟨22,.guard⟩],some (22,true)⟩ (HS _ Ag) ?_;try simp only[Act.put,np]
    refine tkH 35 ⟨some 81,.pick (.tmp 68) (.tmp 80) (.const (.bool false)),4,"ref.go:75",#[⟨22,.data⟩,⟨34,.data⟩,⟨19,.guard⟩],some (19,false)⟩ (HS _ Ag) ?_;try simp only[Act.put,np]
    refine tkH 36 ⟨some 82,.pick (.tmp 65) (.const (.bool true)) (.tmp 81),4,"ref.go:75",#[⟨19,.data⟩,⟨35,.data⟩],none⟩ (HS _ Ag) ?_;try simp only[Act.put,np]
    refine wpAnyH_done (by kernel_rfl) ?_ _;clear hK1 K1 hK2 K2 hK3 K3;have Ca:=Hi (show qP w q cap l (.int .i64 1) wA from⟨1,by omega,rfl,HB.trans ((BG.trans (Ag.mono BG.size)).mono HB.size),Bp (Bp HR BG) Ag⟩);go_wp2_with fail;go_roundw
    case rel=>exact Ca.out
    case measure=>show l.length -(1:Int).toNat < l.length -(0:Int).toNat;omega
   ·obtain⟨a',azB,c1,-⟩:=Rz HR (show k -1 < l.length by omega);have avV:IntKind.i64.wrap ((k:Int) -1)=((k -1:Nat):Int):=(by rw[CZ _ (by omega)];omega);have hgt:(0:Int) < (k:Int):=(by omega);have awd:0 < k:=(by omega);have hne:((l[k -1]'(by omega)).1 == l[k].1)=false:=by
     have h1:=List.pairwise_iff_getElem.1 Dy (k -1) k (by omega) hlt (by omega);exact Fq.2 (fun e=>by rw[e] at h1;exact Mk _ h1)
    obtain⟨y,hy⟩:=ex (l[k -1]'(by omega));obtain⟨x,hx⟩:=ex (l[k]);rw[hy] at c1 hne;rw[hx] at c0 hk1 hnk hne cv M7 HRR axy;have HN:=Hi (fun(W:World)=>qL x.1 W (by omega));rw[hnk] at HN;have HC:=Hi (fun(V:World) (hb:Bw wr V)=>BD ((hb.cell (Bz c0)).trans c0) ((hb.cell (Bz c1)).trans c1));clear c0 c1 hnk hx hy axy;go_wp2_with fail;refine(HRR _ M7).mono ?_;rintro e w5⟨v5,rfl,J5,hb5,-⟩;obtain⟨kq,kc,rfl⟩:=AA J5;have LB:=Hi (show Man.AQ w5 0 (.slice kq keys.length kc) keys from J5);have BG:=Hi hb5;clear J5 hb5;go_wp2_with fail;have HS:=Hi (fun(V:World) (hb:Bw w5 V)=>(show(fun V:World=>V.cell? a=some (.string (bs x.1))∧V.cell? a'=some (.string (bs y.1))) V from HC V (BG.trans (hb.mono BG.size))));refine wp_region_held (S:=(fun V:World=>V.cell? a=some (.string (bs x.1))∧V.cell? a'=some (.string (bs y.1)))) (by kernel_rfl) ?_;have BR:=Hi ((Ad w5.heap.size w5).drew);refine tkH 0 ⟨some 46,.move (.tmp 11),43,"ref.go:75",#[],none⟩ (HS _ BR) ?_;try simp only[Act.put,np]
    refine tkH 1 ⟨some 47,.binOp .neq 43 (.tmp 46) (.const (.int .i64 0)) 43,4,"ref.go:75",#[⟨0,.data⟩],none⟩ (HS _ BR) ?_;try simp only[Act.put,np]
    refine tkH 2 ⟨some 48,.move (.tmp 47),4,"ref.go:75",#[⟨1,.data⟩],none⟩ (HS _ BR) ?_;try simp only[Act.put,np]
    refine tkH 3 ⟨some 49,.move (.tmp 10),27,"ref.go:75",#[⟨2,.guard⟩],some (2,false)⟩ (HS _ BR) ?_;try simp only[Act.put,np]
    refine tkH 4 ⟨some 50,.move (.tmp 10),27,"ref.go:75",#[⟨2,.guard⟩],some (2,false)⟩ (HS _ BR) ?_;try simp only[Act.put,np]
    refine GH (i:=5) (o:=⟨some 51,.call ⟨.value (.func 166),#[.tmp 50],#[27]⟩,27,"ref.go:75",#[⟨4,.data⟩,⟨2,.chain⟩,⟨2,.guard⟩],some (2,false)⟩) (by kernel_rfl) rfl (fun K1 hK1=>?_);go_simp;refine(qK (cap:=kc) (CP (Bp LB BR)) FQ).mono ?_;rintro e w6⟨v6,rfl,EK,hb6⟩;rw[kX,YE.out] at EK;obtain⟨q6,c6,rfl⟩:=AA EK;have Em:=Hi (BR.trans (hb6.mono (Ab _)));have IB:=Hi EK;clear EK hb6;refine hK1 _ _ (HS _ Em) ?_;try simp only[Act.put,np]
    refine GH (i:=6) (o:=⟨some 52,.call ⟨.value (.func 24),#[.tmp 49,.tmp 51],#[27,27]⟩,4,"ref.go:75",#[⟨3,.data⟩,⟨5,.data⟩,⟨5,.chain⟩,⟨2,.guard⟩],some (2,false)⟩) (by kernel_rfl) rfl (fun K2 hK2=>?_);go_simp;refine(qw keys keys kq q6 kc c6 _ (CP (Bp LB Em)) (CP IB) (by have:=FQ.out;unfold maxLen;omega) (by have:=FQ.out;unfold maxLen;omega)).mono ?_;rintro e w7⟨rfl,D8⟩;have CX:=Hi (Em.trans (D8.mono Em.size));clear D8;refine hK2 _ _ (HS _ CX) ?_;try simp only[Act.put,np]
    simp only[decide_true];refine tkH 7 ⟨some 53,.unOp .not 4 (.tmp 52),4,"ref.go:75",#[⟨6,.data⟩,⟨2,.guard⟩],some (2,false)⟩ (HS _ CX) ?_;try simp only[Act.put,np]
    refine tkH 8 ⟨some 54,.pick (.tmp 48) (.const (.bool true)) (.tmp 53),4,"ref.go:75",#[⟨2,.data⟩,⟨7,.data⟩],none⟩ (HS _ CX) ?_;try simp only[Act.put,np]
    refine tkH 9 ⟨some 55,.move (.tmp 54),4,"ref.go:75",#[⟨8,.data⟩,⟨6,.chain⟩],none⟩ (HS _ CX) ?_;try simp only[Act.put,np]
    refine tkH 10 ⟨some 56,.move (.tmp 8),22,"ref.go:75",#[⟨9,.guard⟩],some (9,false)⟩ (HS _ CX) ?_;try simp only[Act.put,np]
    refine tkH 11 ⟨some 57,.move (.tmp 9),3,"ref.go:75",#[⟨9,.guard⟩],some (9,false)⟩ (HS _ CX) ?_;try simp only[Act.put,np]
    refine tkH 12 ⟨some 58,.indexAddr 22 (.tmp 56) (.tmp 57),0,"ref.go:75",#[⟨10,.data⟩,⟨11,.data⟩,⟨9,.guard⟩],some (9,false)⟩ (HS _ CX) ?_;try simp only[Act.put,np]
    refine tkH 13 ⟨some 59,.fieldAddr 75 (.tmp 58) 0,0,"ref.go:75",#[⟨12,.data⟩,⟨9,.guard⟩],some (9,false)⟩ (HS _ CX) ?_;try simp only[Act.put,np]
    refine tkH 14 ⟨some 60,.load 9 (.tmp 59),9,"ref.go:75",#[⟨13,.data⟩,⟨9,.guard⟩],some (9,false)⟩ (HS _ CX) ?_;try simp only[Act.put,np]
    refine tkH 16 ⟨some 62,.move (.tmp 0),9,"ref.go:75",#[⟨9,.guard⟩],some (9,false)⟩ (HS _ CX) ?_;try simp only[Act.put,np]
    refine GH (i:=15) (o:=⟨some 61,.call ⟨.value (.func 86),#[.tmp 60],#[9]⟩,9,"ref.go:75",#[⟨14,.data⟩,⟨9,.chain⟩,⟨9,.guard⟩],some (9,false)⟩) (by kernel_rfl) rfl (fun K3 hK3=>?_);go_simp;refine(HN _).mono ?_;rintro e wA⟨rfl,Cv⟩;have Ag:=Hi (CX.trans (Cv.mono CX.size));clear Cv;refine hK3 _ _ (HS _ Ag) ?_;try simp only[Act.put,np]
    refine tkH 17 ⟨some 63,.binOp .neq 9 (.tmp 61) (.tmp 62) 9,4,"ref.go:75",#[⟨15,.data⟩,⟨16,.data⟩,⟨9,.guard⟩],some (9,false)⟩ (HS _ Ag) ?_;try simp only[Act.put,np]
    refine tkH 18 ⟨some 64,.pick (.tmp 55) (.const (.bool true)) (.tmp 63),4,"ref.go:75",#[⟨9,.data⟩,⟨17,.data⟩],none⟩ (HS _ Ag) ?_;try simp only[Act.put,np]
    refine tkH 19 ⟨some 65,.move (.tmp 64),4,"ref.go:75",#[⟨18,.data⟩,⟨15,.chain⟩],none⟩ (HS _ Ag) ?_;try simp only[Act.put,np]
    refine tkH 20 ⟨some 66,.move (.tmp 9),3,"ref.go:75",#[⟨19,.guard⟩],some (19,false)⟩ (HS _ Ag) ?_;try simp only[Act.put,np]
    refine tkH 21 ⟨some 67,.binOp .gtr 3 (.tmp 66) (.const (.int .i64 0)) 3,4,"ref.go:75",#[⟨20,.data⟩,⟨19,.guard⟩],some (19,false)⟩ (HS _ Ag) ?_;try simp only[Act.put,np]
    refine tkH 22 ⟨some 68,.move (.tmp 67),4,"ref.go:75",#[⟨21,.data⟩,⟨19,.chain⟩,⟨19,.guard⟩],some (19,false)⟩ (HS _ Ag) ?_;try simp only[Act.put,np]
    refine tkH 23 ⟨some 69,.move (.tmp 8),22,"ref.go:75",#[⟨22,.guard⟩],some (22,true)⟩ (HS _ Ag) ?_;try simp only[Act.put,np]
    refine tkH 24 ⟨some 70,.move (.tmp 9),3,"ref.go:75",#[⟨22,.guard⟩],some (22,true)⟩ (HS _ Ag) ?_;try simp only[Act.put,np]
    refine tkH 25 ⟨some 71,.binOp .sub 3 (.tmp 70) (.const (.int .i64 1)) 3,3,"ref.go:75",#[⟨24,.data⟩,⟨22,.guard⟩],some (22,true)⟩ (HS _ Ag) ?_;try simp only[Act.put,np]
    refine tkH 26 ⟨some 72,.indexAddr 22 (.tmp 69) (.tmp 71),0,"ref.go:75",#[⟨23,.data⟩,⟨25,.data⟩,⟨22,.guard⟩],some (22,true)⟩ (HS _ Ag) ?_;try simp only[Act.put,np]
    refine tkH 27 ⟨some 73,.fieldAddr 75 (.tmp 72) 0,0,"ref.go:75",#[⟨26,.data⟩,⟨22,.guard⟩],some (22,true)⟩ (HS _ Ag) ?_;try simp only[Act.put,np]
    refine tkH 28 ⟨some 74,.load 9 (.tmp 73),9,"ref.go:75",#[⟨27,.data⟩,⟨22,.guard⟩],some (22,true)⟩ (HS _ Ag) ?_;try simp only[Act.put,np]
    refine tkH 29 ⟨some 75,.move (.tmp 8),22,"ref.go:75",#[⟨22,.guard⟩],some (22,true)⟩ (HS _ Ag) ?_;try simp only[Act.put,np]
    refine tkH 30 ⟨some 76,.move (.tmp 9),3,"ref.go:75",#[⟨22,.guard⟩],some (22,true)⟩ (HS _ Ag) ?_;try simp only[Act.put,np]
    refine tkH 31 ⟨some 77,.indexAddr 22 (.tmp 75) (.tmp 76),0,"ref.go:75",#[⟨29,.data⟩,⟨30,.data⟩,⟨22,.guard⟩],some (22,true)⟩ (HS _ Ag) ?_;try simp only[Act.put,np]
    refine tkH 32 ⟨some 78,.fieldAddr 75 (.tmp 77) 0,0,"ref.go:75",#[⟨31,.data⟩,⟨22,.guard⟩],some (22,true)⟩ (HS _ Ag) ?_;try simp only[Act.put,np]
    refine tkH 33 ⟨some 79,.load 9 (.tmp 78),9,"ref.go:75",#[⟨32,.data⟩,⟨22,.guard⟩],some (22,true)⟩ (HS _ Ag) ?_;try simp only[Act.put,np]
    refine tkH 34 ⟨some 80,.binOp .eql 9 (.tmp 74) (.tmp 79) 9,4,"ref.go:75",#[⟨28,.data⟩,⟨33,.data⟩,⟨22,.guard⟩],some (22,true)⟩ (HS _ Ag) ?_;try simp only[Act.put,np]
    refine tkH 35 ⟨some 81,.pick (.tmp 68) (.tmp 80) (.const (.bool false)),4,"ref.go:75",#[⟨22,.data⟩,⟨34,.data⟩,⟨19,.guard⟩],some (19,false)⟩ (HS _ Ag) ?_;try simp only[Act.put,np]
    refine tkH 36 ⟨some 82,.pick (.tmp 65) (.const (.bool true)) (.tmp 81),4,"ref.go:75",#[⟨19,.data⟩,⟨35,.data⟩],none⟩ (HS _ Ag) ?_;try simp only[Act.put,np]
    refine wpAnyH_done (by kernel_rfl) ?_ _;clear hK1 K1 hK2 K2 hK3 K3;have Ca:=Hi (show qP w q cap l (.int .i64 ((k:Int)+1)) wA from⟨k+1,by omega,by go_num,HB.trans ((BG.trans (Ag.mono BG.size)).mono HB.size),Bp (Bp HR BG) Ag⟩);go_wp2_with fail;go_roundw
    case rel=>exact Ca.out
    case measure=>
     show l.length -((k:Int)+1).toNat < l.length -((k:Int)).toNat
     omega
  ·obtain rfl:k=l.length:=(by omega);go_wp2_with fail;go_ret2;exact⟨q,cap,rfl,HR,HQ,HB⟩
theorem apg{w:World}{r:Nat}{v:Value}{A:M}{most:Int}(h:F8 w r v A most)(hA:A.length≤1000000)(name:T)(hdl:∀ d,Fil.get A name=some d→d.length≤1000000)(hf:∀ d,Fil.get A name=some d→(fileOf A8 A name).isSome=true):
  Calls prog 87 #[.pointer (some ⟨r,0,none⟩),.string (bs name)] w fun e w'=>∃ q cap,e=.returned (.tuple #[.slice q ((fileOf A8 A name).getD []).length cap,.bool (Fil.get A name).isSome,.bool false])∧AP w' w.heap.size (.slice q ((fileOf A8 A name).getD []).length cap) ((fileOf A8 A name).getD [])∧(q=none→cap=0)∧Bw w w':=by
 have HG:=Hi (adw h hA name);have QM:∀ d,Fil.get A name=some d→fileOf A8 A name=A8.Cn name d:=fun d hd=>by unfold fileOf;rw[hd];rfl
 have hfn:Fil.get A name=none→fileOf A8 A name=none:=fun hd=>by unfold fileOf;rw[hd];rfl
 clear h;cases hx:Fil.get A name with
 |none=>
  rw[hx] at HG;rw[hfn hx];clear hx hf QM hfn hdl;go_enter func87,ntmps87;go_wp2_with fail;refine HG.mono ?_;rintro e w1⟨rfl,hb⟩;have HB:=Hi hb;clear hb;go_wp2_with fail;exact Dt (v:=.tuple #[.slice none 0 0,.bool false,.bool false]) (by simp[results,results87,go_sem]) rfl ⟨none,0,rfl,PQ _ _,fun _=>rfl,HB⟩
 |some d=>
  rw[hx] at HG;have h1:=hf d hx;rw[QM d hx] at h1 ⊢;obtain⟨l,hl⟩:=JD.1 h1;rw[hl];have HE:=Hi (fun(W:World)=>apf name d l hl W (hdl d hx));clear hx hf QM hfn hdl h1 hl;go_enter func87,ntmps87;go_wp2_with fail;refine HG.mono ?_;rintro e w1⟨rfl,hb⟩;have HB:=Hi hb;clear hb;go_wp2_with fail;refine(HE _).mono ?_;rintro e w2⟨q,cap,rfl,hr,hq,hb2⟩;have HR:=Hi (Da hr HB.size);have HB2:=Hi (HB.trans (hb2.mono HB.size));clear hb2 hr;go_wp2_with fail;exact Dt (v:=.tuple #[.slice q l.length cap,.bool true,.bool false]) (by simp[results,results87,go_sem]) rfl ⟨q,cap,rfl,HR,hq,HB2⟩
theorem aph{l:Us}{k:Nat}(hk:k < l.length):(AJ l)[k]'(by rw[Ke];exact hk)=L6 l[k]:=by unfold AJ;rw[List.getElem_map]
theorem api{n:Nat}{A:M}{l:Us}(h1:J6 l)(h2:Fits A8 (AJ l)):F9 n A l=if Br n < used (made A (DF A8 (AJ l))) then(4,A) else(0,made A (DF A8 (AJ l))):=by
 unfold F9;rw[Ac h1];exact nM FH h2
def qQ(w:World)(xb:Nat)(A:M)(l:Us)(i:Value)(wr:World):Prop:=
 ∃ (k:Nat) (vx:Value),k≤l.length∧i=.int .i64 (k:Int)∧F8 wr xb vx (made A (E5 A8 (AJ (l.take k)))) (1099511627776:Nat)∧Fits A8 (AJ (l.take k))∧Bw w wr∧J6 (l.take k)
theorem apj{w:World}{r n cap:Nat}{a:Option Addr}{v:Value}{A:M}{l:Us}(h:F8 w r v A (Br n))(hu:Up A)(hno:∀ k,Fil.get A (A8.nm k)=none)(hn:n≤16384)(hA:used A≤Br n)(hk:IJ w a l)(hl:l.length≤20)(hkl:∀ x∈l,x.1.length≤1000000∧x.2.length≤10000)(hsm:∀ j name,Small (AR A8 (AJ (l.take j)) name)):
  Calls prog 31 #[.pointer (some ⟨r,0,none⟩),.slice a l.length cap] w fun e w'=>e=.returned (.int .i64 (F9 n A l).1)∧∃ v',F8 w' r v' (F9 n A l).2 (Br n)∧A7 (fun k=>k=r) w w':=by
 obtain⟨i0,hi0,hz0,hz1,hz2⟩:=Cz LU;obtain⟨vq,vc,rfl⟩:=AA h.2;have au4:=SC hn;have HR:=Hi h;have HU:=Hi hu;have Dc:=Hi hno;have HK:=Hi hk;have FQ:=Hi hkl;have K8:=Hi hsm
 have DL:=Hi (show ∀ k,used (made A (E5 A8 (AJ (l.take k))))≤2000000 from fun k=>by
  have h1:=PG hu (E5 A8 (AJ (l.take k)));have h2:=adR FH (AJ (l.take k));have h3:(AJ (l.take k)).length≤20:=by rw[Ke,Aw];omega
  have h4:=Kj 65560 h3;omega)
 have qJ:w.cell? ⟨r,0,none⟩=some (.slice vq A.length vc):=cr h.1;have aoT:=Ae h.1
 have HX0:=Hi (show F8 (w.alloc (.cells #[.slice vq A.length vc,.int .i64 1099511627776] 144)) w.heap.size (.slice vq A.length vc) (made A (E5 A8 (AJ (l.take 0)))) (1099511627776:Nat) from by
  rw[FJ];exact⟨Aq w _,(h.below (Am w _)).2⟩)
 have HB0:=Hi (Am w (.cells #[.slice vq A.length vc,.int .i64 1099511627776] 144));clear h hu hno hk hkl hsm;go_enter func31,ntmps31;go_wp2_with fail;have Hq:=Hi (show qQ w w.heap.size A l (.int .i64 0) (w.alloc (.cells #[.slice vq A.length vc,.int .i64 1099511627776] 144)) from⟨0,.slice vq A.length vc,Ar _,rfl,HX0,by rw[FJ];exact pR,HB0,by rw[FJ];exact fun u hu=>by simp at hu⟩);generalize w.alloc (.cells #[.slice vq A.length vc,.int .i64 1099511627776] 144)=V0 at*;clear HX0 HB0 qJ
 go_loopw [6] (fun i wr=>qQ w w.heap.size A l i wr) (fun i _=>l.length -(intOf i).toNat)
 case atStart=>exact Hq.out
 case round=>
  obtain⟨k,vx,hk,rfl,hx,hft,hb,hrw⟩:=hrel;have HX:=Hi hx;have I7:=Hi hft;have HB:=Hi hb;have TY:=Hi hrw;clear hft hb Hq hrw;by_cases hlt:k < l.length
  ·obtain⟨q,hix,ha⟩:=(HK.below HB).index cap k hlt;have c0:=ha.run;obtain⟨kq,kc,c1,hks,hkq⟩:=ha.keys;have Gh:=Hi (BF hlt);obtain⟨hrl,Q0⟩:=FQ _ Gh.out;have Bo:=Hi (BS hlt);obtain⟨u,hu⟩:=ex (l[k]);rw[hu] at Gh Bo c0 c1 hks hrl Q0;obtain⟨run,keys⟩:=u;have NR:=Hi (fun(W:World) (hW:Bw wr W)=>ap5 (run:=run) (kc:=kc) (hks.below hW) Q0);simp only at c0 c1 hrl Q0;clear ha hu hks hx;by_cases hz:(BK (Az keys)).2=0
   case neg=>
    have hv5:BK (Az keys)=([],5):=by
     unfold BK at hz ⊢;cases hre:Er (Az keys) with
     |none=>rfl
     |some s=>rw[hre] at hz;exact absurd rfl hz
    have Qb:=Hi (show F9 n A l=(5,A) from by
     unfold F9;rw[Aa (fun h=>hz (h _ Gh))])
    rw[hv5] at NR;clear hv5 hz;go_wp2_with fail;refine(NR _ (Ad _ _)).mono ?_;rintro e w1⟨rfl,hb1⟩;have HB1:=Hi (HB.trans ((hb1.alloc hb1.size (.cells #[.string (bs run),.string (bs [])] 75)).mono HB.size));clear hb1;go_wp2_with fail;go_ret;rw[Qb.out];exact⟨rfl,_,HR.below HB1,A7.of_below HB1⟩
   case pos=>
    obtain⟨s,hs⟩:=ex ((BK (Az keys)).1);have hv0:BK (Az keys)=(s,0):=Prod.ext hs hz;rw[hv0] at NR;have pY:=Hi (show J6 (l.take (k+1)) from by rw[Bo.out];exact acK.2 ⟨TY,hz⟩);have Dy:=Hi (show AJ (l.take (k+1))=AJ (l.take k)++[(run,s)] from by rw[Bo.out,acL];unfold L6;rw[hs]);have HN:=Hi (fun(W:World)=>qL run W (by omega));have Mf:=Hi (show(AJ (l.take k)).length≤20 from by rw[Ke,Aw];omega);have hgs:=bZ HU (K:=A8) (AJ (l.take k)) (A8.nm run);rw[Dc.out] at hgs;have hfo:=dP HU Dc (pQ TY) I7 run
    have EO:=Hi (fun(W:World) (hW:Bw wr W)=>apg (HX.below hW) (by have:=Ml (made A (E5 A8 (AJ (l.take k))));have:=DL k;omega) (A8.nm run) (fun d hd=>by
     rw[hgs] at hd;split at hd
     ·injection hd with hd
      rw[←hd];cases hc:Bc (AR A8 (AJ (l.take k)) (A8.nm run)) with
      |none=>exact Ar _
      |some d=>exact Ah (VE hc) (by decide)
     ·cases hd) (fun d hd=>by
     rw[hgs] at hd;rw[hfo];split at hd
     ·rename_i hin
      rw[Ac hin];rfl
     ·cases hd))
    rw[acM HU Dc (pQ TY) I7 run] at EO
    have M5:=Hi (show Fits A8 (AJ l)→(Bc (AR A8 (AJ (l.take (k+1))) (A8.nm run))).isSome=true from fun h=>by
     have h1:=h k (by rw[Ke];exact hlt);rw[←dO,aph hlt] at h1;have h2:(L6 l[k]).1=run:=by
      have h3:=Bo.out;have h4:=BS hlt;rw[h4] at h3;have h5:=List.append_cancel_left h3;have h6:l[k]=(run,keys):=(by injection h5);rw[h6];rfl
     rw[h2] at h1;exact h1)
    clear hgs hfo hs hz hv0;generalize awi:A8.nm run=name at*;have IK:=Hi awi;clear awi;have YB:=Hi (NU (K:=A8) (AJ (l.take k)) name);have K9:=Hi (show AR A8 (AJ (l.take (k+1))) name=put run s (AR A8 (AJ (l.take k)) name) from by rw[Dy.out,Js,Ac IK.out]);have GV:=Hi (K8 (k+1) name);have hgl:(AR A8 (AJ (l.take k)) name).length≤20:=by
     have h1:=dh A8 (AJ (l.take k)) name;have:=Mf.out;omega
    rw[K9.out] at GV M5
    have II:=Hi (show E5 A8 (AJ (l.take (k+1)))=E5 A8 (AJ (l.take k))++[⟨name,(Bc (put run s (AR A8 (AJ (l.take k)) name))).getD [],false⟩] from by
     rw[←K9.out,Dy.out,bY,←Dy.out]
     congr 1
     unfold IC;rw[show A8.nm ((run,s):T×T).1=name from IK.out])
    have OX:=Hi (show Fits A8 (AJ (l.take (k+1)))↔Fits A8 (AJ (l.take k))∧(Bc (put run s (AR A8 (AJ (l.take k)) name))).isSome=true from by
     rw[←K9.out,Dy.out,Fits.XZ,←Dy.out,show A8.nm ((run,s):T×T).1=name from IK.out])
    generalize AR A8 (AJ (l.take k)) name=G at*;generalize (Fil.get (made A (E5 A8 (AJ (l.take k)))) name).isSome=isb at*;go_wp2_with fail;refine(NR _ (Ad _ _)).mono ?_;rintro e w1⟨rfl,hb1⟩;have ae4:=Am w1 (.cells #[.string (bs run),.string (bs s)] 75);have YF:=Hi (Aq w1 (.cells #[.string (bs run),.string (bs s)] 75));have HB1:=Hi (hb1.trans (ae4.mono hb1.size));have c01:(w1.alloc (.cells #[.string (bs run),.string (bs s)] 75)).cell? q=some (.string (bs run)):=(HB1.cell (Bz c0)).trans c0;have Io:=Hi c0;clear hb1 ae4 c0 c1;go_wp2_with fail;obtain⟨W1,hW1⟩:=ex (w1.alloc (.cells #[.string (bs run),.string (bs s)] 75));obtain⟨pb,hpb⟩:=ex (w1.heap.size);rw[hW1] at YF HB1 ⊢;rw[hpb] at YF ⊢;clear hW1 hpb c01;refine(HN _).mono ?_;rintro e w2⟨rfl,hb2⟩;have HB2:=Hi (HB1.trans (hb2.mono HB1.size));have qR:=Hi ((hb2.block _ (Ae YF)).trans YF);clear hb2 YF;go_wp2_with fail;refine(EO _ HB2).mono ?_;rintro e w3⟨q3,c3,rfl,hr3,hq3,hb3⟩;have HB3:=Hi (HB2.trans (hb3.mono HB2.size));have eY:=Hi ((hb3.block _ (Ae qR)).trans qR);have HR3:=Hi hr3;clear hr3 hb3 qR;have c0:w3.cell? q=some (.string (bs run)):=(HB3.cell (Bz Io)).trans Io.out;have cp0:w3.cell? ⟨pb,0,none⟩=some (.string (bs run)):=cr eY.out;have cp1:w3.cell? ⟨pb,1,none⟩=some (.string (bs s)):=cr eY.out;have hG2:Ic (G.filter (fun p=>!(p.1 == run))++[(run,s)])=put run s G:=anq YB run s;have hsn:=GV.out;obtain⟨lf,hlf⟩:∃ lf,G.filter (fun p=>!(p.1 == run))=lf:=⟨_,rfl⟩;have apm:lf.length≤20:=by rw[←hlf];exact Ah (Km _ _) hgl
    have Qv:=Hi (fun(W:World) (hW:Bw w3 W)=>ap3 (w:=W) (cap:=c3) run ((Av.BU HR3).below hW) (by omega));have ae5:=Hi (YB.put run s);rw[hlf] at Qv hG2;obtain⟨G2,qU⟩:=ex (put run s G);rw[qU] at hG2 hsn ae5 M5 II OX;have apn:=Hi (show AR A8 (AJ (l.take (k+1))) name=G2 from by rw[K9.out,qU])
    have eH:=Hi (fun(W:World) (q:Option Addr) (c:Nat) (h:Av W q (lf++[(run,s)]))=>show Calls prog 89 #[.slice q (lf.length+1) c] W fun e w'=>∃ q c,e=.returned (.slice q G2.length c)∧AP w' W.heap.size (.slice q G2.length c) G2∧Bw W w' from by
     have h1:=ap8 (cap:=c) h (by rw[Aj,Ii];omega);rw[hG2,Aj,Ii] at h1;exact h1)
    obtain⟨dd,hdd⟩:=ex ((Bc G2).getD []);obtain⟨cc,hcc⟩:∃ cc:Int,(if(Bc G2).isSome=true then 0 else 5)=cc:=⟨_,rfl⟩
    have Ha:=Hi (fun(W:World) (q:Option Addr) (c:Nat) (h:Av W q G2)=>show Calls prog 88 #[.slice q G2.length c] W fun e w'=>e=.returned (.tuple #[.string (bs dd),.int .i64 cc])∧Bw W w' from by
     have h1:=ap2 (cap:=c) h (BN.LM ae5) (by have:=hsn.1;omega) hsn.2;rw[hdd,hcc] at h1;exact h1)
    have H9:=Hi hdd;have FZ:=Hi hcc;have eZ:=Hi apm;have Rv:=Am w3 (.cells #[.string (bs run),.string (bs s)] 75);have VP:=Hi (Aq w3 (.cells #[.string (bs run),.string (bs s)] 75));have Qf:=Hi Rv;have c0P:(w3.alloc (.cells #[.string (bs run),.string (bs s)] 75)).drew.cell? q=some (.string (bs run)):=(Rv.cell (Bz c0)).trans c0
    have HCP:=Hi (fun(V:World) (hV:Bw w3 V)=>show V.cell? ⟨pb,0,none⟩=some (.string (bs run))∧V.cell? ⟨pb,1,none⟩=some (.string (bs s)) from by
     have h1:=(hV.block _ (Ae eY)).trans eY;exact⟨cr h1,cr h1⟩)
    clear hG2 hlf qU hsn hdd hcc Rv hgl;go_wp2_with fail;refine TB ?_
    go_region_law
     (first
      |(go_simp;go_at_call 90;refine(Qv _ ((Ad _ w3).drew)).mono ?_;rintro e w4 ⟨q4,c4,rfl,hr4,hb4⟩;have hb4:Bw w3 w4:=((Ad _ w3).drew).trans (hb4.mono (Ab _));have HR4:=Hi (Da hr4 (show w3.heap.size≤_ from Ab _));have Ay:=Hi hb4;obtain⟨cq0,cq1⟩:=HCP w4 hb4;go_wp2_with fail)
      |(go_simp;go_at_call 90;refine(Qv _ Qf.drew).mono ?_;rintro e w4 ⟨q4,c4,rfl,hr4,hb4⟩;have qf:w4.heap[w3.heap.size]?=some (.cells #[.string (bs run),.string (bs s)] 75):=(hb4.block _ (Ae VP)).trans VP.out;have hb4:Bw w3 w4:=Qf.trans (((Ad _ _).drew.trans (hb4.mono (Ab _))).mono Qf.size);have HR4:=Hi (Da hr4 (show w3.heap.size≤_ from Qf.size));have Ay:=Hi hb4;obtain⟨cq0,cq1⟩:=HCP w4 hb4;go_wp2_with fail)
      |(go_simp;go_at_call 89;refine(eH w5 _ _ (Av.BU JK)).mono ?_;rintro e w6 ⟨q6,c6,rfl,EK,hb6⟩;have IB:=Hi EK;have Em:=Hi (BG.trans (hb6.mono BG.size));go_wp2_with fail)
      |(go_simp;go_at_call 88;refine(Ha w6 q6 c6 (Av.BU IB)).mono ?_;rintro e w7 ⟨rfl,D8⟩;have CX:=Hi (Em.trans (D8.mono Em.size));go_wp2_with fail)
      |(refine step_append_lies _ (by rfl) _ _ _ (by rfl) w3.heap.size 75 i0 _ 2 32 underlying22 hi0 hz0 hz1 hz2 (by rfl) (by omega) (.slice q4 lf.length c4) lf.length (Cj lf) (by rfl) HR4 ⟨w3.heap.size,0,none⟩ 1 1 [.string (bs run),.string (bs s)] (by rfl) (by rfl) (World.news_of_block (cs:=#[.string (bs run),.string (bs s)]) (t:=75) (fr:=(0,0)) qf) (fun u hu=>by simp at hu;rcases hu with rfl|rfl<;>rfl) (by omega) (by have:=eZ.out;unfold maxLen;omega) (by have:=eZ.out;omega) (by have:=Ay.size;omega) w4.heap.size (by simp) ?_;intro gg cap2 w5 axe fo ae9 aea;have JK:=Hi (show AP w5 w3.heap.size (.slice (some ⟨gg,0,none⟩) (lf++[(run,s)]).length cap2) (lf++[(run,s)]) from by unfold AP;rw[Aj,NJ];exact axe);have BG:=Hi (show Bw w3 w5 from Ay.grown fo Ay.size (fun j e=>CJ HR4 e)))
      |(refine step_append_lies _ (by rfl) _ _ _ (by rfl) w3.heap.size 75 i0 _ 2 32 underlying22 hi0 hz0 hz1 hz2 (by rfl) (by omega) (.slice q4 lf.length c4) lf.length (Cj lf) (by rfl) (HR4.alloc _) ⟨w4.heap.size,0,none⟩ 1 1 [.string (bs run),.string (bs s)] (by rfl) (by rfl) (World.news_of_block (cs:=#[.string (bs run),.string (bs s)]) (t:=75) (fr:=(0,0)) (Aq w4 _)) (fun u hu=>by simp at hu;rcases hu with rfl|rfl<;>rfl) (by omega) (by have:=eZ.out;unfold maxLen;omega) (by have:=eZ.out;omega) (by have:=Ay.size;rw[Ai];omega) (w4.heap.size+1) (by simp) ?_;intro gg cap2 w5 axe fo ae9 aea;have JK:=Hi (show AP w5 w3.heap.size (.slice (some ⟨gg,0,none⟩) (lf++[(run,s)]).length cap2) (lf++[(run,s)]) from by unfold AP;rw[Aj,NJ];exact axe);have BG:=Hi (show Bw w3 w5 from(Ay.alloc Ay.size _).grown fo (by rw[Ai];have:=Ay.size;omega) (fun j e=>CJ HR4 e))))
    all_goals
     dsimp only[Rk];have qV:=Hi (show Bw wr w7 from HB3.trans (CX.mono HB3.size));clear hr4 EK hb4 hb6 D8 fo axe ae9 aea cq0 cq1 c0 c0P cp0 cp1;by_cases hcs:(Bc G2).isSome=true
     ·have hcc:cc=0:=(by rw[←FZ.out,Ac hcs]);obtain⟨d,hd⟩:=JD.1 hcs;have hdd:dd=d:=(by rw[←H9.out,hd];rfl);rw[hd] at II;simp only[Option.getD_some] at II;subst hcc hdd;have hdl:=VE hd;have MR:=Hi (OX.2 ⟨I7,hcs⟩);have hnl:name.length=17:=by rw[←IK.out];exact FH.len _
      have LH:=Hi (show Af.may ⟨name,dd,false⟩=true from by
       have h1:=nL FH MR (p:=(run,s)) (by rw[Dy.out];simp);have h2:IC A8 (AJ (l.take (k+1))) (A8.nm ((run,s):T×T).1)=⟨name,dd,false⟩:=by
        unfold IC;rw[show A8.nm ((run,s):T×T).1=name from IK.out,apn.out,hd];rfl
       rw[h2] at h1;exact h1)
      clear hcs hd FZ H9 M5;have Bj:=Am w7 (.cells #[.string (bs name),.string (bs dd),.bool false] 65);have hna:=Aq w7 (.cells #[.string (bs name),.string (bs dd),.bool false] 65);have Ag:=Hi (qV.trans (Bj.mono qV.size));have HCM:=Hi (adP (most:=1099511627776) (cap:=1) (HX.below Ag) (HU.made _) (yP (c:=⟨name,dd,false⟩) hna) (by omega) (by have:=DL k;omega) (by simp) (by show 8+name.length+dd.length+0≤_;omega));have hns:Qi 1099511627776 (made A (E5 A8 (AJ (l.take k)))) [⟨name,dd,false⟩]=made A (E5 A8 (AJ (l.take (k+1)))):=by
       unfold Qi;have h1:=DL (k+1);rw[II.out,Zv] at h1;rw[Ac ⟨by simp[LH.out],by omega⟩,II.out,Zv]
      rw[hns] at HCM;have BM:=Hi (HB.trans (Ag.mono HB.size));clear Bj hna hns;generalize U3 1099511627776 (made A (E5 A8 (AJ (l.take k)))) [⟨name,dd,false⟩]=cd at*;go_wp2_with fail;refine HCM.mono ?_;rintro e w8⟨rfl,v8,hx8,Iq⟩;have Ca:=Hi (show qQ w w.heap.size A l (.int .i64 ((k:Int)+1)) w8 from⟨k+1,v8,by omega,by go_num,hx8,MR,Bu BM Iq (fun i e=>Nat.le_of_eq e.symm) BM.size,pY⟩);clear hx8 Iq;go_wp2_with fail;go_roundw
      case rel=>exact Ca.out
      case measure=>
       show l.length -((k:Int)+1).toNat < l.length -((k:Int)).toNat
       omega
     ·have hcc:cc=5:=(by rw[←FZ.out,Aa hcs]);subst hcc
      have Qb:=Hi (show F9 n A l=(5,A) from by
       unfold F9;split
       ·unfold EG;rw[Aa (fun hF=>hcs (M5 hF))]
       ·rfl)
      have JQ:=Hi (HB.trans (qV.mono HB.size));clear hcs M5 OX FZ H9;go_wp2_with fail;go_ret;rw[Qb.out];exact⟨rfl,_,HR.below JQ,A7.of_below JQ⟩
  ·obtain rfl:k=l.length:=(by omega);have hft:=I7.out;have hrw:=TY.out;rw[Ck] at hft hx hrw;have EJ:=DL l.length;rw[Ck] at EJ;have Gm:=Hi (api (n:=n) (A:=A) hrw hft);rw[←acO HU.out,←cz HU.out] at Gm;have U4:=Hi (fun(W:World) (hW:Bw wr W)=>adQ (hx.below hW) (by omega));have Mg:=Hi hx;obtain⟨xq,xc,rfl⟩:=AA hx.2;have hrf:=HR.below HB.out;have c1:wr.cell? ⟨r,1,none⟩=some (.int .i64 (Br n:Int)):=cr hrf.1;clear hft hx hrf HX hrw;generalize hF:made A (E5 A8 (AJ l))=F at*;obtain⟨U,YC⟩:=ex (used F);rw[YC] at U4 Gm EJ;clear hF YC;by_cases hgt:Br n < U
   ·have hgi:(Br n:Int) < (U:Int):=(by omega);rw[Ac hgt] at Gm;clear hgt;go_wp2_with fail
    go_region_held3 (fun V=>V.cell? ⟨r,1,none⟩=some (.int .i64 (Br n:Int))) (go_keep)
     (first|(go_at_call 77;refine(U4 _ ((Ad _ _).drew)).mono ?_;rintro e wA ⟨rfl,Cv⟩;have Ag:=Hi (HB.trans ((show Bw wr wA from((Ad _ wr).drew).trans Cv).mono HB.size));clear Cv;have cA:wA.cell? ⟨r,1,none⟩=some (.int .i64 (Br n:Int)):=(by rw[AY _ _ _ _ _ _ (HR.below Ag).1];rfl)))
    all_goals
     go_wp2_with fail;go_ret;rw[Gm.out];exact⟨rfl,_,HR.below Ag,A7.of_below Ag⟩
   ·have hgi:¬ (Br n:Int) < (U:Int):=(by omega);rw[Aa hgt] at Gm;clear hgt;go_wp2_with fail
    go_region_held3 (fun V=>V.cell? ⟨r,1,none⟩=some (.int .i64 (Br n:Int))) (go_keep)
     (first|(go_at_call 77;refine(U4 _ ((Ad _ _).drew)).mono ?_;rintro e wA ⟨rfl,Cv⟩;have Ag:=Hi (show Bw wr wA from((Ad _ wr).drew).trans Cv);clear Cv;have cA:wA.cell? ⟨r,1,none⟩=some (.int .i64 (Br n:Int)):=(by rw[AY _ _ _ _ _ _ (HR.below (HB.trans (Ag.mono HB.size))).1];rfl)))
    all_goals
     have BM:=Hi (HB.trans (Ag.mono HB.size));have hrf:=HR.below BM.out;have hxa:=Mg.below Ag.out;have d0:wA.cell? ⟨r,0,none⟩=some (.slice vq A.length vc):=cr hrf.1;have df:=Cb _ _ 0 _ _ hrf.1;have x0:wA.cell? ⟨w.heap.size,0,none⟩=some (.slice xq F.length xc):=cr hxa.1;have Fg:=Hi (BD hrf.1 hxa.2);clear hrf c1 hxa;go_wp2_with fail;go_ret;rw[Gm.out];refine⟨rfl,.slice xq F.length xc,?_,(A7.of_below (F:=fun k=>k=r) BM).setCell (p:=⟨r,0,none⟩) (.inl rfl) _⟩;refine⟨Bh _ _ 0 _ _ _ Fg.1,AL Fg.2 ((A7.refl (fun k=>k=r) wA).setCell (p:=⟨r,0,none⟩) (.inl rfl) _) (fun g hg e=>?_)⟩;rw[e] at hg;exact Ap.ne (Bi Fg.2 hg) ⟨_,_,Fg.1⟩ (by decide) rfl
end Dep
end Go.Proofs.YtmbbhdebddbhoaaGreat
