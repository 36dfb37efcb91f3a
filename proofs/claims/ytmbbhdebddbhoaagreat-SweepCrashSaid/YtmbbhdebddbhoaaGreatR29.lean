/- MemD PutP PutQ -/
import Derived.Test.YtmbbhdebddbhoaaGreatR28
set_option maxHeartbeats 8000000
set_option maxRecDepth 100000
set_option linter.all false
namespace Go.Proofs.YtmbbhdebddbhoaaGreat
open Tryz hiding t1 t2
namespace Mem
open Go.RowKit Go.Maps
open Wal Fil Man Prs Kp Cm Hex Sha Al
section
variable {w w':World}{base m:Nat}{L:List (T×M)}{f:T→Nat}
theorem Dy.made(w:World)(base:Nat)(f:T→Nat)(hb:base≤w.heap.size):Dy (w.alloc (.map #[] 0)) base w.heap.size [] f:=
 ⟨⟨[],List.Perm.nil,StrMap.made w⟩,by simp,fun x hx=>by simp at hx,fun x hx=>by simp at hx,hb⟩
theorem Dy.Cv(h:Dy w base m L f){t:TypeId}:¬ AA w m t:=by
 obtain⟨kv,_,_,D,⟨es,clock,hm,_⟩,_⟩:=h.map;rintro⟨cs,fr,hb⟩;rw[hm] at hb;injection hb with hb
 cases hb
theorem Dy.insert(h:Dy w base m L f){name:T}{l:M}{b:Nat}(hn:name∉L.map (·.1))(hl:name.length≤maxLen)(he:UU w base b l)(hb:∀ x∈L,f x.1≠b)(Im:L.length < maxLen):
  ∃ w',(Instr.mapUpdate 145 (.map (some m)) (.string (bs name)) (.pointer (some ⟨b,0,none⟩))).run prog w=.ok () w'∧Dy w' base m ((name,l) :: L) (fun t=>if t=name then b else f t)∧w.grownBy w' (some m):=by
 obtain⟨kv,h1,h2⟩:=h.map;have Ki:Dh kv name=none:=by
  cases hs:Dh kv name with
  |none=>rfl
  |some v=>exact absurd ((Dy.keys h1).mem_iff.1 (Bz.2 ⟨_,lh hs,rfl⟩)) hn
 have Ch:kv.length < maxLen:=by
  have e:kv.length=L.length:=by rw[h1.length_eq,Cf]
  rw[e];exact Im
 obtain⟨w',hrun,h3,h4⟩:=h2.update underlying9 underlying145 name hl (.pointer (some ⟨b,0,none⟩)) Ch;have hu:A7 (fun k=>k=m) w w':=A7.of_grownBy (F:=fun k=>k=m) h4 (fun k e=>(G7 e).symm);have hne:∀ x∈L,x.1≠name:=fun x hx e=>hn (by rw[←e];exact Gm hx)
 have SA:∀ k,k=m→∀ t,¬ AA w k t:=fun k e t=>by rw[e];exact h.Cv
 refine⟨w',hrun,⟨⟨_,?_,h3⟩,JF.2 ⟨hn,h.nodup⟩,fun x hx=>?_,fun x hx y hy e=>?_,h.low⟩,h4⟩
 ·have hd:Ir name kv=kv:=List.filter_eq_self.2 fun p hp=>by
   have:p.1≠name:=fun e=>hn ((Dy.keys h1).mem_iff.1 (by rw[←e];exact Gm hp))
   simpa using this
  unfold Qv;rw[hd,BL];simp only[Ab];refine List.Perm.cons _ (h1.trans (List.Perm.of_eq (QB fun x hx=>?_)));rw[Aa (hne x hx)]
 ·rcases Bt.1 hx with rfl|hx
  ·simp only[Ab];exact he.upd hu (fun k e=>SA k e _) (fun k e=>SA k e _)
  ·rw[Aa (hne x hx)];exact(h.RU x hx).upd hu (fun k e=>SA k e _) (fun k e=>SA k e _)
 ·rcases Bt.1 hx with rfl|hx<;>rcases Bt.1 hy with rfl|hy
  ·rfl
  ·simp only[Ab] at e;rw[Aa (hne y hy)] at e;exact absurd e.symm (hb y hy)
  ·simp only[Ab] at e;rw[Aa (hne x hx)] at e;exact absurd e (hb x hx)
  ·rw[Aa (hne x hx),Aa (hne y hy)] at e;exact h.inj x hx y hy e
theorem Dy.set(h:Dy w base m L f){x:T×M}(hx:x∈L){v:Value}{l:M}(hv:Bo w base v l):Dy (w.setCell ⟨f x.1,0,none⟩ v) base m (setRow L x.1 l) f:=by
 obtain⟨v0,Bq,hr0,Mq⟩:=h.RU x hx;have hu:=(A7.refl (fun k=>k=f x.1) w).setCell (p:=⟨f x.1,0,none⟩) (.inl rfl) v;have bT:∀ k,k=f x.1→¬ AA w k 75:=fun k e hb=>by
  obtain⟨cs,fr,hb⟩:=hb;rw[e,Bq] at hb;injection hb with hb
  injection hb with _ hb
  exact absurd hb (by decide)
 obtain⟨kv,h1,h2⟩:=h.map;have U8:(setRow L x.1 l).map (fun y=>(y.1,Value.pointer (some ⟨f y.1,0,none⟩)))=L.map fun y=>(y.1,Value.pointer (some ⟨f y.1,0,none⟩)):=by
  unfold setRow;rw[List.map_map];exact QB fun y _=>by
   show(fun y:T×M=>(y.1,Value.pointer (some ⟨f y.1,0,none⟩))) (if y.1=x.1 then(y.1,l) else y)=_
   split<;>rfl
 refine⟨⟨kv,by rw[U8];exact h1,h2.upd hu (fun e=>h.Cv (t:=152) (by rw[e];exact⟨_,_,Bq⟩))⟩,by rw[dY];exact h.nodup,fun y hy=>?_,fun y hy z hz e=>?_,h.low⟩
 ·unfold setRow at hy;obtain⟨z,hz,rfl⟩:=Bz.1 hy;by_cases e:z.1=x.1
  ·rw[Ab e]
   show UU _ base (f z.1) l
   rw[e];exact⟨v,BU w (f x.1) 0 _ _ v Bq,Bh hv hu (fun k hk e=>bT k e (BQ hv hk)),Mq⟩
  ·rw[Aa e];obtain⟨v1,Ad,Kk,F7⟩:=h.RU z hz;exact⟨v1,(hu.block _ (Ai Ad) (fun e'=>e (h.inj z hz x hx e'))).trans Ad,Bh Kk hu (fun k hk e=>bT k e (BQ Kk hk)),F7⟩
 ·have Be:∀ y∈setRow L x.1 l,∃ z∈L,z.1=y.1:=fun y hy=>by
   have:y.1∈(setRow L x.1 l).map (·.1):=Gm hy;rw[dY] at this;exact Bz.1 this
  obtain⟨a,ha,ea⟩:=Be y hy;obtain⟨c,hc,ec⟩:=Be z hz;rw[←ea,←ec] at e ⊢;exact h.inj a ha c hc e
end
theorem arf(kb:Nat)(k:T)(p:T×T)(W:World)(hk:W.cell? ⟨kb,0,none⟩=some (.string (bs k))):
  Calls prog 110 #[.agg #[.string (bs p.1),.string (bs p.2)],.pointer (some ⟨kb,0,none⟩)] W fun e W'=>e=.returned (.bool (p.1 == k))∧Bw W W':=by
 have Kg:=BS hk;go_enter func110,ntmps110;go_wp2_with fail;go_ret;exact⟨by simp,Aw W _⟩
theorem arc(sb:Nat){q:Option Addr}{c:Nat}{ks:List T}(p:T×T)(W:World)(hk:W.cell? ⟨sb,0,none⟩=some (.slice q ks.length c))(DY:Cg W q ks)(hl:ks.length≤1000000):
  Calls prog 109 #[.agg #[.string (bs p.1),.string (bs p.2)],.pointer (some ⟨sb,0,none⟩)] W fun e W'=>e=.returned (.bool (decide (p.1∈ks)))∧Bw W W':=by
 have Kg:=BS hk;have HC:=Hi (fun(V:World) (hV:Bw W V)=>ad6 c (DY.below hV) p.1 (by omega));clear DY;generalize decide (p.1∈ks)=d at*;go_enter func109,ntmps109;go_wp2_with fail;refine(HC _ (Aw W _)).mono ?_;rintro e w1⟨rfl,hb⟩;have HB:=Hi ((Aw W _).trans (hb.mono (Aw W _).size));clear hb;go_wp2_with fail;go_ret;exact⟨rfl,HB⟩
theorem ard(kb:Nat)(k:T):VW (fun W=>W.cell? ⟨kb,0,none⟩=some (.string (bs k))) (.func (.func 110) #[] #[.pointer (some ⟨kb,0,none⟩)]) (fun p=>p.1 == k):=
 ⟨_,_,_,rfl,enters_of func110 (by kernel_rfl) rfl,fun W p h=>arf kb k p W h⟩
theorem arb(sb:Nat)(q:Option Addr)(c:Nat)(ks:List T)(hl:ks.length≤1000000):VW (fun W=>W.cell? ⟨sb,0,none⟩=some (.slice q ks.length c)∧Cg W q ks) (.func (.func 109) #[] #[.pointer (some ⟨sb,0,none⟩)]) (fun p=>decide (p.1∈ks)):=
 ⟨_,_,_,rfl,enters_of func109 (by kernel_rfl) rfl,fun W p h=>arc sb p W h.1 h.2 hl⟩
theorem amE{L:List (T×M)}{name:T}{l r:M}(h:name∉L.map (·.1)):setRow ((name,l) :: L) name r=(name,r) :: L:=by
 unfold setRow;rw[BL,Ab rfl]
 congr 1
 conv=>rhs;rw[←List.map_id L]
 exact QB fun x hx=>Aa (fun e=>h (by rw[←e];exact Gm hx))
theorem Dy.len{w:World}{base m:Nat}{L:List (T×M)}{f:T→Nat}(h:Dy w base m L f)(ty:TypeId):(Builtin.len_ #[145] ty #[.map (some m)]).run prog w=.ok (.int .i64 (L.length:Int)) w:=by
 obtain⟨kv,h2,_,D,hown,_,hsz,_⟩:=h.map;rw[hown.len underlying145 ty,hsz,h2.length_eq,Cf]
theorem arZ{K:Kind}{A:M}(hg:Fil.Good A){name:T}{l:M}(h:fileOf K A name=some l):Up l∧l.length≤65535∧rowLen (flat l)≤65537:=by
 unfold fileOf at h;cases hx:Fil.get A name with
 |none=>rw[hx] at h;cases h
 |some d=>
  rw[hx] at h;obtain⟨_,hu,_,s,hs,hd⟩:=Pj h;have Nj:d.length≤65535:=by
   have:=hg _ (get_some hx);unfold Fw at this;exact(QC this).2.2
  have Cz:s.length+4=d.length:=by rw[hd,Crc.Rk]
  refine⟨hu,(dQ h).1,?_⟩;unfold Fh at hs;split at hs
  ·cases ht:textsE (flat l) with
   |none=>rw[ht] at hs;cases hs
   |some a=>
    rw[ht] at hs;simp only[Ej,BX] at hs;have h1:=lI ht;subst hs;rw[Au,Crc.BK] at Cz;omega
  ·cases hs
theorem as0{K:Kind}{A:M}{name:T}{l:M}(h:fileOf K A name=some l):∃ a,textsE (flat l)=some a:=by
 unfold fileOf at h;cases hx:Fil.get A name with
 |none=>rw[hx] at h;cases h
 |some d=>
  rw[hx] at h;obtain⟨_,_,_,s,hs,_⟩:=Pj h;unfold Fh at hs;split at hs
  ·cases ht:textsE (flat l) with
   |none=>rw[ht] at hs;cases hs
   |some a=>exact⟨a,rfl⟩
  ·cases hs
theorem abV{K:Kind}{A:M}(hg:Fil.Good A)(ks:List T)(name:T):Cr (GG K A ks name)∧(GG K A ks name).length≤1000000∧rowLen (flat (GG K A ks name))≤1000000000:=by
 unfold GG;cases h:fileOf K A name with
 |none=>exact⟨List.Pairwise.nil,by simp,by simp[flat,rowLen]⟩
 |some l=>
  obtain⟨h1,h2,h3⟩:=arZ hg h;have Qj:(l.filter fun p=>decide (p.1∉ks)).Sublist l:=List.filter_sublist;refine⟨Cr.Qt (List.Pairwise.sublist Qj h1),?_,?_⟩
  ·have:=Qj.length_le
   show(l.filter _).length≤_
   omega
  ·obtain⟨a,ht⟩:=as0 h;obtain⟨b,hb,De⟩:=ani Qj ht;have e1:=lI ht;have e2:=lI hb
   show rowLen (flat (l.filter _))≤_
   omega
def adE(w:World)(sb m:Nat)(sv:Value)(A:M)(ks:List T)(i:Value)(wr:World):Prop:=
 ∃ (k:Nat) (L:List (T×M)) (f:T→Nat),k≤ks.length∧i=.int .i64 (k:Int)∧Dy wr w.heap.size m L f∧IA Ae A (ks.take k) L∧Bw w wr∧wr.heap[sb]?=some (.cells #[sv] 27)
theorem ann{K:Kind}{A:M}{ks:List T}(h:There K A ks){k:T}(hk:k∈ks):k.length≤65535:=by
 have h1:=h k hk;rw[lS] at h1;obtain⟨v,hv⟩:=MN.1 h1;exact((V7 (K:=K)).2 _ (get_some hv)).1
theorem anm{K:Kind}{A:M}{ks:List T}(h:There K A ks){k:T}(hk:k∈ks):(Fil.get A (K.nm k)).isSome=true∧(fileOf K A (K.nm k)).isSome=true∧((fileOf K A (K.nm k)).getD []).any (fun p=>decide (p.1∈ks))=true:=by
 obtain⟨d,l,h1,_,h3⟩:=agy h (name:=K.nm k) ((Eg _ _).2 (Gm hk));refine⟨by rw[h1];rfl,by rw[h3];rfl,?_⟩;have h4:=h k hk;rw[lS] at h4;obtain⟨v,hv⟩:=MN.1 h4;exact List.any_eq_true.2 ⟨_,get_some hv,by simpa using hk⟩
theorem aZ{K:Kind}{A:M}{kt:List T}{L:List (T×M)}(h:IA K A kt L):L.length≤kt.length:=by
 have h1:(CQ L).length=L.length:=sJ L;rw[sK h.nodup] at h1;have h2:AX (L.map (·.1))=AX (kt.map K.nm):=Qw (Iq _) (Iq _) fun t=>by rw[Eg,Eg];exact h.names t
 have h3:=Un (kt.map K.nm);rw[←h2,h1,Cf] at h3;exact h3
theorem awk{w:World}{p y:Nat}{A:M}{q:Option Addr}{cap:Nat}{ks:List T}{Q:Int→World→Prop}(hm:Fb w p y)(hg:Man.ND w y A)(O4:Fil.Good A)(hk:Cg w q ks)(hl:ks.length≤100000)(ht:There Ae A ks)
  (hf:∀ W,Bw w W→Calls prog 140 #[.pointer (some ⟨y,0,none⟩)] W fun e w'=>e=.returned (.int .i64 0)∧W=w')
  (h0:ks=[]→∀ w',Bw w w'→Q 0 w')
  (hc:∀ W q c,Bw w W→DW W q (EM Ae A ks)→Calls prog 32 #[.pointer (some ⟨y,0,none⟩),.slice q (EM Ae A ks).length c] W fun e w'=>∃ c,e=.returned (.int .i64 c)∧Q c w'):
  Calls prog 39 #[.pointer (some ⟨p,0,none⟩),.slice q ks.length cap] w fun e w'=>∃ c,e=.returned (.int .i64 c)∧Q c w':=by
 have HF:=Hi hf;have H0:=Hi h0;have HC:=Hi hc;have HM:=Hi hm;have HG:=Hi hg;have HK:=Hi hk;have HT:=Hi ht;have af:=Hi O4;have dh:=hm.lt;clear hf h0 hc hm hg hk ht O4;go_enter func39,ntmps39;go_wp2_with fail;have Bq:=Aw w (.cells #[.slice q ks.length cap] 27);refine(akY (P:=fun W w'=>W=w') (HM.below Bq) (HF _ Bq)).mono ?_;rintro e w1⟨rfl,FY⟩;subst FY;have KR:=@run_makeMap prog;go_wp2_with fail;have LK:=Aq w (.cells #[.slice q ks.length cap] 27);have aaq:=AJ w (.cells #[.slice q ks.length cap] 27);have Z8:=Dy.made (w.alloc (.cells #[.slice q ks.length cap] 27)) w.heap.size (fun _=>0) Bq.size;rw[LK] at Z8;have Ad:=Bq.alloc Bq.size (.map #[] 0);have qz:=((Aw (w.alloc (.cells #[.slice q ks.length cap] 27)) (.map #[] 0)).block _ (Ai aaq)).trans aaq;have wR:=Hi Z8;have HB1:=Hi Ad;have mD:=Hi qz;obtain⟨V,hV⟩:=ex ((w.alloc (.cells #[.slice q ks.length cap] 27)).alloc (.map #[] 0));rw[hV] at wR HB1 mD;have aV:V.cell? ⟨w.heap.size,0,none⟩=some (.slice q ks.length cap):=cr mD.out;have cb2:((w.alloc (.cells #[.slice q ks.length cap] 27)).alloc (.map #[] 0)).cell? ⟨w.heap.size,0,none⟩=some (.slice q ks.length cap):=by rw[hV];exact aV
 go_wp2_with fail;rw[hV];clear Bq Ad aaq qz Z8 LK hV aV cb2
 go_loopw [24] (fun i wr=>adE w w.heap.size (w.heap.size+1) (.slice q ks.length cap) A ks i wr) (fun i _=>ks.length -(intOf i).toNat)
 case atStart=>exact⟨0,[],_,AB _,rfl,wR,by rw[GZ];exact IA.nil,HB1,mD⟩
 case round=>
  obtain⟨k,L,f,hk,rfl,he,I7,hb,Od⟩:=hrel;have HE:=Hi he;have MQ:=Hi I7;have HB:=Hi hb;have QO:=Hi Od;clear he I7 hb Od wR HB1 mD;by_cases hlt:k < ks.length
  ·obtain⟨a,Cu,c0⟩:=(HK.below HB).index cap k hlt;have KD:=Hi (Ci hlt);have BN:=Hi (Cw hlt);generalize ks[k]=key at*;have DY:=ann HT KD.out;obtain⟨t1,t2,t3⟩:=anm HT KD.out;have GK:=Hi t1;have F3:=Hi t2;have aG:=Hi t3;have IC:=Hi (fun(W:World)=>sF key W (by omega));have Ee:(Ae.nm key).length=17:=kI key;have Si:L.length≤100000:=by
    have:=aZ MQ.out;rw[AL] at this;omega
   have gp:=Hi (AJ wr (.cells #[.string (bs key)] 9));have BP:=Aw wr (.cells #[.string (bs key)] 9);have Ao:=Hi BP;clear t1 t2 t3 BP;obtain⟨kb,Kg⟩:=ex (wr.heap.size);go_wp2_with fail;refine(IC _).mono ?_;rintro e w1⟨rfl,Ad⟩;have Qc:w1.heap[wr.heap.size]?=some (.cells #[.string (bs key)] 9):=(Ad.block _ (Ai gp)).trans gp.out;have Ud:Bw wr w1:=Ao.trans (Ad.mono Ao.size);have FB:=Hi (HE.below Ud);have HB1:=Hi (HB.trans (Ud.mono HB.size));have gN:=Hi ((Ud.block _ (Ai QO)).trans QO);have QH:=Hi Qc;clear Ad Qc Ud HE HB QO gp Ao Cu c0;rw[Kg] at QH;by_cases Be:Ae.nm key∈L.map (·.1)
   case' pos=>
    obtain⟨⟨t,l1⟩,hx,FH⟩:=Bz.1 Be;have FH:t=Ae.nm key:=FH;subst FH;have KQ:=FB.iE hx (by rw[Ee];decide);have xL:=Hi (show l1=GG Ae A (ks.take k) (Ae.nm key) from MQ.rows _ hx)
    have Pv:=Hi (show IA Ae A (ks.take (k+1)) (setRow L (Ae.nm key) (l1.filter fun p=>!(p.1 == key))) from by
     rw[BN.out,xL.out];exact MQ.more Be)
    obtain⟨w5,hw5⟩:∃ w5,w5=w1:=⟨_,rfl⟩;subst hw5;obtain⟨L1,Ng⟩:∃ L1,L1=L:=⟨_,rfl⟩;subst Ng;obtain⟨f1,U4⟩:∃ f1,f1=f:=⟨_,rfl⟩;subst U4;have Tp:=FB;have Ck:=HB1;have xg:=gN;have mH:=QH;have Tx:=Hi hx;have F7:l1.length≤1000000:=by
     have:=(V7 (K:=Ae) (A:=A) (name:=Ae.nm key)).1;have h2:=NB (fun p=>decide (p.1∉ks.take k)) ((fileOf Ae A (Ae.nm key)).getD []);rw[xL.out];unfold GG;omega
    obtain⟨v5,KJ,Ah,-⟩:=Tp.RU _ hx;obtain⟨q3,c3,rfl,LF,-⟩:=Es Ah;have c1:w5.cell? ⟨f1 (Ae.nm key),0,none⟩=some (.slice q3 l1.length c3):=cr KJ;have Px:=Hi KJ;have XZ:=Hi (ZC (AO.CG Ah) LF (Ap F7 (by decide)));clear hx Be xL MQ FB HB1 gN QH GK F3 aG IC KJ Ah;generalize Ae.nm key=name at*;obtain⟨fb,OU⟩:=ex (f1 name);have Tq:=Hi OU;rw[OU] at KQ c1 Px;clear OU;go_wp2_with fail
   case' neg=>
    have KQ:=FB.asH Be (by rw[Ee];decide);have gG:=Hi Be;have Gr:=Hi (sG (HM.below HB1) (TQ HG HB1) (Ae.nm key) (by rw[Ee];decide));have Sw:=(V7 (K:=Ae) (A:=A) (name:=Ae.nm key)).1;unfold OB at Gr;rw[GK.out,F3.out] at Gr
    have fF:=Hi (show IA Ae A (ks.take (k+1)) ((Ae.nm key,((fileOf Ae A (Ae.nm key)).getD []).filter fun p=>!(p.1 == key)) :: L) from by
     rw[BN.out];exact MQ.new Be)
    clear Be MQ GK F3 IC;generalize (fileOf Ae A (Ae.nm key)).getD []=l1 at*;generalize Ae.nm key=name at*;go_wp2_with fail;refine Gr.mono ?_;rintro e w2⟨q3,c3,rfl,Ah,LF,A8⟩;have MR:=Hi (FB.below A8);have Ag:=Hi (HB1.trans (A8.mono HB1.size));have gP:=Hi ((A8.block _ (Ai gN)).trans gN);have wh:=Hi ((A8.block _ (Ai QH)).trans QH);have BI:=Hi (E9 Ah HB1.size)
    have vJ:=Hi (ax9 c3 (AO.CG Ah) (arb w.heap.size q cap ks (by omega)) (fun W hW=>⟨by
     have h1:=(hW.block _ (Ai gP)).trans gP;rw[BA _ _ _ _ _ _ h1];rfl,HK.below (Ag.trans (hW.mono Ag.size))⟩) (by omega))
    rw[aG.out] at vJ;clear A8 Ah FB HB1 gN QH Gr aG;go_wp2_with fail;refine vJ.mono ?_;rintro e w3⟨rfl,Ak⟩;have Ar:Bw w2 (w3.alloc (.cells #[.slice q3 l1.length c3] 152)):=Ak.alloc Ak.size _;have bH:=Ag.trans (Ar.mono Ag.size);have YQ:=AJ w3 (.cells #[.slice q3 l1.length c3] 152);have auy:w.heap.size≤w3.heap.size:=Ap Ag.size Ak.size
    obtain⟨w5,ab9,bz,Ml⟩:=(MR.below Ar).insert (name:=name) (l:=l1) (b:=w3.heap.size) gG (by rw[Ee];decide) ⟨_,YQ,C9 BI Ar,auy⟩ (fun x hx e=>by
     obtain⟨v,h1,_⟩:=MR.RU x hx;have h2:=Ai h1;have h3:=Ak.size;omega) (by unfold maxLen;omega)
    have FX:A7 (fun k=>k=w.heap.size+1) (w3.alloc (.cells #[.slice q3 l1.length c3] 152)) w5:=A7.of_grownBy (F:=fun k=>k=w.heap.size+1) Ml (fun k e=>(G7 e).symm);have aj6:=bz.iE (x:=(name,l1)) (by simp) (by rw[Ee];decide);simp only[Ab] at aj6;have aiY:=(Ar.block _ (Ai wh)).trans wh.out;have ajS:=(Ar.block _ (Ai gP)).trans gP.out
    have OO:∀ {b:Nat} {cs:Array Value} {t:TypeId},(w3.alloc (.cells #[.slice q3 l1.length c3] 152)).heap[b]?=some (.cells cs t)→w5.heap[b]?=some (.cells cs t):=fun {b cs t} h=>(FX.block b (Ai h) (fun e=>by
     rw[e] at h;exact(MR.below Ar).Cv ⟨_,_,h⟩)).trans h
    have mH:=Hi (OO aiY);have xg:=Hi (OO ajS);have Px:=Hi (OO YQ);have Ck:=Hi (Ca bH FX (fun i e=>by omega) bH.size)
    have jR:=Bh (C9 BI Ar) FX (fun j hj e=>by
     have h:=BQ (C9 BI Ar) hj;rw[e] at h;exact(MR.below Ar).Cv h)
    have c1:w5.cell? ⟨w3.heap.size,0,none⟩=some (.slice q3 l1.length c3):=cr Px.out;have XZ:=Hi (ZC (AO.CG jR) LF (Ap Sw (by decide)));have F7:l1.length≤1000000:=Ap Sw (by decide)
    have Pv:=Hi (show IA Ae A (ks.take (k+1)) (setRow ((name,l1) :: L) name (l1.filter fun p=>!(p.1 == key))) from by
     rw[amE gG.out];exact fF.out)
    have Tp:=Hi bz;have Tq:=Hi (show(fun t=>if t=name then w3.heap.size else f t) name=w3.heap.size from Ab rfl);generalize (fun t=>if t=name then w3.heap.size else f t)=f1 at*;obtain⟨L1,Ng⟩:=ex ((name,l1) :: L);have Tx:=Hi (show(name,l1)∈L1 from by rw[←Ng];simp);rw[Ng] at Tp Pv;obtain⟨fb,OU⟩:=ex (w3.heap.size);rw[OU] at aj6 c1 Px Tq ab9;clear Ak Ar bH YQ bz Ml FX aiY ajS OO jR Ng fF MR Ag gP wh BI vJ Sw;go_wp2_with fail
   all_goals
    refine XZ.mono ?_;rintro e w6⟨v6,rfl,Jy,Cx⟩;obtain⟨q6,c6,rfl,jN,-⟩:=Es Jy;have aaD:=(Cx.block _ (Ai mH)).trans mH.out
    have RA:=Hi (acm Jy (ard kb key) (fun W hW=>by
     have h1:=(hW.block _ (Ai aaD) (fun e=>by
      have:=DC Jy e;have:=Ai mH;omega)).trans aaD
     rw[BA _ _ _ _ _ _ h1];rfl) F7)
    have Lj:=Hi Jy;have Fz:=Hi Cx;clear Jy Cx aaD XZ;go_wp2_with fail;refine RA.mono ?_;rintro e w7⟨v7,rfl,Vu,VA,-⟩;have Ez:Bw w5 w7:=Ca Fz VA (fun i e=>DC Lj e) Fz.size;obtain⟨q7,c7,rfl,-,-⟩:=Es Vu;have U3:=(Ez.block _ (Ai Px)).trans Px.out;have c17:w7.cell? ⟨fb,0,none⟩=some (.slice q3 l1.length c3):=cr U3;have bN:=CJ w7 fb 0 _ _ U3;have Dt:=(Tp.below Ez).set Tx (E9 Vu Ck.size);rw[Tq.out] at Dt;have LM:=(A7.refl (fun j=>j=fb) w7).setCell (p:=⟨fb,0,none⟩) (.inl rfl) (.slice q7 (l1.filter fun p=>!(p.1 == key)).length c7);have ais:w.heap.size≤fb:=by
     obtain⟨v,_,_,h⟩:=Tp.RU _ Tx.out;rw[Tq.out] at h;exact h
    have aaj:=Ck.trans (Ez.mono Ck.size);have Vw:=(Ez.block _ (Ai xg)).trans xg.out
    have CU:=Hi (show adE w w.heap.size (w.heap.size+1) (.slice q ks.length cap) A ks (.int .i64 ((k:Int)+1)) (w7.setCell ⟨fb,0,none⟩ (.slice q7 (l1.filter fun p=>!(p.1 == key)).length c7)) from
     ⟨k+1,_,f1,by omega,by go_num,Dt,Pv,Ca aaj LM (fun i e=>by rw[e];exact ais) aaj.size,(LM.block _ (Ai Vw) (fun e=>by
      rw[e,U3] at Vw;injection Vw with Vw
      injection Vw with _ Vw
      exact absurd Vw (by decide))).trans Vw⟩)
    generalize (l1.filter fun p=>!(p.1 == key)).length=n7 at*;clear Vu VA Ez U3 Dt LM ais aaj Vw;go_wp2_with fail;go_roundw
    case rel=>exact CU.out
    case measure=>
     show ks.length -((k:Int)+1).toNat < ks.length -((k:Int)).toNat
     omega
  ·obtain rfl:k=ks.length:=(by omega);have I7:=MQ.out;rw[CY] at I7;by_cases hz:ks=[]
   ·subst hz;have hL:L=[]:=by
     have:=aZ I7;exact Ld.1 (by simpa using this)
    subst hL;have Z0:=HE.len 3;have HQ:=Hi (H0 rfl wr HB);clear I7;go_wp2_with fail;go_ret;exact⟨0,rfl,HQ⟩
   ·have hL:L.length≠0:=fun e=>by
     have hL:=Ld.1 e;cases DY:ks with
     |nil=>exact hz DY
     |cons x ks'=>
      have:=(I7.names (Ae.nm x)).2 (Gm (by rw[DY];simp));rw[hL] at this;simp at this
    have Si:L.length≤100000:=Ap (aZ I7) hl;obtain⟨e1,e2⟩:=I7.ib af HT.out
    have J2:=Hi (ac4 HE (fun x hx=>by rw[I7.rows x hx];exact abV af _ _) (fun x hx=>by
     obtain⟨z,_,hz⟩:=Bz.1 ((I7.names x.1).1 (Gm hx));rw[←hz,kI];decide) Si)
    unfold Yt at J2;simp only[Ab e2,e1] at J2;have Z0:=HE.len 3;have O7:((L.length:Int) == 0)=false:=H9.2 (by omega);clear I7 e1 e2;have ay:=Hi (HM.below HB);go_wp2_with fail;refine J2.mono ?_;rintro e w8⟨q8,c8,rfl,Ua,II⟩;have NF:=Hi (HB.trans (II.mono HB.size));have Fa:=Hi (HC w8 q8 c8 NF (DW.CG Ua));have SB:=(HM.below NF).cell;generalize (EM Ae A ks).length=dn at*;clear Ua II;go_wp2_with fail;refine Fa.mono ?_;rintro e w9⟨cc,rfl,Vt⟩;go_wp2_with fail;go_ret;exact⟨cc,rfl,Vt⟩
end Mem
namespace Kp
open Go.Lib Fil Man Wal Prs
theorem Uo{α:Type}{C:List α→Prop}(h0:C [])(h1:∀ l x,C l→C (l++[x]))(l:List α):C l:=by
 have:∀ r:List α,C r.reverse:=fun r=>by
  induction r with
  |nil=>exact h0
  |cons x r ih=>rw[List.reverse_cons];exact h1 _ _ ih
 simpa using this l.reverse
section
variable {K:Kind}{A:M}
def Bv(K:Kind)(l:M)(name:T):M:=(l.filter fun p=>K.nm p.1 == name).foldl (fun acc p=>put p.1 p.2 acc) []
theorem Nf(l:M)(p:T×T)(name:T):Bv K (l++[p]) name=if K.nm p.1=name then put p.1 p.2 (Bv K l name) else Bv K l name:=by
 unfold Bv;rw[Ro,List.foldl_append];by_cases h:K.nm p.1=name
 ·rw[Ab h,Uv (by simpa using h)];rfl
 ·rw[Aa h,QA (by simpa using h)];rfl
theorem Sb(l:M)(name:T):Up (Bv K l name):=by
 unfold Bv;generalize l.filter _=k
 suffices h:∀ (k a:M),Up a→Up (k.foldl (fun acc p=>put p.1 p.2 acc) a) from h k [] Up.nil
 intro k
 induction k with
 |nil=>exact fun a h=>h
 |cons p k ih=>exact fun a h=>ih _ (h.put _ _)
theorem pJ(l:M)(name:T):∀ q∈Bv K l name,K.nm q.1=name∧q∈l:=by
 unfold Bv;have hl:∀ q∈l.filter (fun p=>K.nm p.1 == name),K.nm q.1=name∧q∈l:=fun q hq=>by
  obtain⟨h1,h2⟩:=Et.1 hq;exact⟨by simpa using h2,h1⟩
 generalize l.filter _=k at hl
 suffices h:∀ (k a:M),Up a→(∀ q∈k,K.nm q.1=name∧q∈l)→(∀ q∈a,K.nm q.1=name∧q∈l)→∀ q∈k.foldl (fun acc p=>put p.1 p.2 acc) a,K.nm q.1=name∧q∈l from h k [] Up.nil hl (fun q hq=>by simp at hq)
 intro k
 induction k with
 |nil=>exact fun a _ _ h=>h
 |cons p k ih=>
  refine fun a hu h1 h2=>ih _ (hu.put _ _) (fun q hq=>h1 q (DT _ hq)) fun q hq=>?_
  rcases(SV hu).1 hq with rfl|⟨hq,_⟩
  ·exact h1 p (by simp)
  ·exact h2 q hq
theorem iH{l:M}{name:T}(h:name∉l.map fun p=>K.nm p.1):Bv K l name=[]:=by
 cases hg:Bv K l name with
 |nil=>rfl
 |cons q r=>
  obtain⟨h1,h2⟩:=pJ (K:=K) l name q (by rw[hg];simp);exact absurd (Bz.2 ⟨q,h2,h1⟩) h
theorem aha{l:M}{p:T×T}(h:p∈l):Bv K l (K.nm p.1)≠[]:=by
 suffices hs:∀ l:M,(∃ q∈l,K.nm q.1=K.nm p.1)→Bv K l (K.nm p.1)≠[] from hs l ⟨p,h,rfl⟩
 intro l
 induction l using Uo with
 |h0=>rintro⟨q,hq,_⟩;simp at hq
 |h1 l x ih=>
  rintro⟨q,hq,e⟩;rw[Nf];split
  ·rename_i hx
   exact List.ne_nil_of_mem ((SV (Sb l _)).2 (.inl rfl))
  ·rename_i hx
   refine ih ⟨q,?_,e⟩;rcases Fp.1 hq with hq|hq
   ·exact hq
   ·rw[EX] at hq;rw[hq] at e;exact absurd e hx
def Fits(K:Kind)(l:M):Prop:=∀ j,(h:j < l.length)→(BG (Bv K (l.take (j+1)) (K.nm l[j].1))).isSome=true
instance (K:Kind) (l:M):Decidable (Fits K l):=inferInstanceAs (Decidable (∀ j,(h:j < l.length)→_))
theorem Fits.kP{l:M}{p:T×T}:Fits K (l++[p])↔Fits K l∧(BG (Bv K (l++[p]) (K.nm p.1))).isSome=true:=by
 unfold Fits;constructor
 ·intro h;refine⟨fun j hj=>?_,?_⟩
  ·have:=h j (by simp;omega);rw[Rp hj,List.take_append_of_le_length (by omega)] at this;exact this
  ·have:=h l.length (by simp);simp only[Ux (Ac _),Nat.sub_self,List.getElem_cons_zero] at this;rw[Gn (by simp)] at this;exact this
 ·rintro⟨h1,h2⟩ j hj;by_cases e:j < l.length
  ·rw[Rp e,List.take_append_of_le_length (by omega)];exact h1 j e
  ·obtain rfl:j=l.length:=(by simp at hj;omega);simp only[Ux (Ac _),Nat.sub_self,List.getElem_cons_zero];rw[Gn (by simp)];exact h2
theorem Fits.all{l:M}(h:Fits K l):∀ p∈l,(BG (Bv K l (K.nm p.1))).isSome=true:=by
 suffices hs:∀ l:M,Fits K l→∀ p∈l,(BG (Bv K l (K.nm p.1))).isSome=true from hs l h
 intro l
 induction l using Uo with
 |h0=>exact fun _ p hp=>by simp at hp
 |h1 l x ih=>
  intro hf p hp;obtain⟨h1,h2⟩:=Fits.kP.1 hf;by_cases e:K.nm x.1=K.nm p.1
  ·rw[←e];exact h2
  ·rw[Nf,Aa e];refine ih h1 p ?_;rcases Fp.1 hp with hp|hp
   ·exact hp
   ·rw[EX] at hp;rw[hp] at e;exact absurd rfl e
def LP(K:Kind)(l:M)(name:T):Aj:=⟨name,(BG (Bv K l name)).getD [],false⟩
def ET(K:Kind)(l:M):List Aj:=(AX (l.map fun p=>K.nm p.1)).map (LP K l)
def Fj(K:Kind)(l:M):List Aj:=(List.range l.length).map fun j=>LP K (l.take (j+1)) (K.nm (l.getD j ([],[])).1)
theorem uk(l:M)(p:T×T):Fj K (l++[p])=Fj K l++[LP K (l++[p]) (K.nm p.1)]:=by
 unfold Fj;rw[Au,Kq,List.range_succ,CF,List.map_singleton]
 congr 1
 ·refine QB fun j hj=>?_
  have hj:=List.mem_range.1 hj;rw[List.take_append_of_le_length (by omega)]
  congr 2
  simp[GY,List.getElem?_append_left hj]
 ·rw[Gn (by simp)];simp[GY]
theorem azQ{F G:M}(hF:Up F)(hG:Up G)(h:∀ k,get F k=get G k):F=G:=
 ZQ hF hG fun p=>⟨fun hp=>get_some (by rw[←h];exact get_mem hF (show(p.1,p.2)∈F from hp)),fun hp=>get_some (by rw[h];exact get_mem hG (show(p.1,p.2)∈G from hp))⟩
theorem pz(hu:Up A)(l:M)(name:T):get (made A (Fj K l)) name=if name∈l.map (fun p=>K.nm p.1) then some ((BG (Bv K l name)).getD []) else get A name:=by
 induction l using Uo with
 |h0=>rfl
 |h1 l p ih=>
  rw[uk,ac3]
  show get (put (K.nm p.1) _ (made A (Fj K l))) name=_
  rw[get_put (hu.made _),CF,List.map_singleton];by_cases e:name=K.nm p.1
  ·subst e;rw[Ab rfl,Ab (by simp)];rfl
  ·have e2:¬ K.nm p.1=name:=fun h=>e h.symm
   rw[Aa e,ih,Nf,Aa e2];by_cases hm:name∈l.map fun p=>K.nm p.1
   ·rw[Ab hm,Ab (List.mem_append_left _ hm)]
   ·have hn:¬ name∈(l.map fun p=>K.nm p.1)++[K.nm p.1]:=fun h=>(Fp.1 h).elim hm (fun h=>e (EX.1 h))
    rw[Aa hm,Aa hn]
theorem alD(l:M):(ET K l).map (·.name)=AX (l.map fun p=>K.nm p.1):=by
 unfold ET;rw[List.map_map]
 conv=>rhs;rw[←List.map_id (AX (l.map fun p=>K.nm p.1))]
 exact QB fun x _=>rfl
theorem zH(hu:Up A)(l:M)(name:T):get (made A (ET K l)) name=if name∈l.map (fun p=>K.nm p.1) then some ((BG (Bv K l name)).getD []) else get A name:=by
 by_cases hm:name∈l.map fun p=>K.nm p.1
 ·rw[Ab hm];have hc:LP K l name∈ET K l:=Gm ((Eg _ _).2 hm);have:=ah2 hu (by rw[alD];exact ZI _) hc;exact this
 ·rw[Aa hm];exact ah3 hu (by rw[alD,Eg];exact hm)
theorem tN(hu:Up A)(l:M):made A (Fj K l)=made A (ET K l):=azQ (hu.made _) (hu.made _) fun k=>by rw[pz hu,zH hu]
theorem aX{l:M}{d:T}(h:BG l=some d):d.length≤65535:=by
 unfold BG at h;cases h1:Fh l with
 |none=>rw[h1] at h;cases h
 |some s=>
  rw[h1] at h;simp only[Cj] at h;split at h
  ·simp only[BX] at h;subst h;rw[Crc.Rk];omega
  ·cases h
theorem acp(hK:K.BM){l:M}(h:Fits K l){p:T×T}(hp:p∈l):(LP K l (K.nm p.1)).may=true:=by
 obtain⟨d,hd⟩:=MN.1 (h.all p hp);have hl:=hK.len p.1;have hne:K.nm p.1≠[]:=fun e=>by rw[e] at hl;cases hl
 have:=aX hd;unfold LP Aj.may Fw;rw[hd];simp[hne,hl,this]
theorem alC(hK:K.BM){l:M}(h:Fits K l):(ET K l).all Aj.may=true:=by
 rw[Nz];intro c hc;obtain⟨name,hn,rfl⟩:=Bz.1 hc;obtain⟨p,hp,rfl⟩:=Bz.1 ((Eg _ _).1 hn);exact acp hK h hp
def Gl(K:Kind)(n:Nat)(A:M)(l:M):Int×M:=if Fits K l then(Gu n A (ET K l),F9 n A (ET K l)) else(5,A)
theorem acw(hK:K.BM){n:Nat}{l:M}(h:Fits K l):Gl K n A l=if C8 n < used (made A (ET K l)) then(4,A) else(0,made A (ET K l)):=by
 unfold Gl Gu F9;rw[Ab h,alC hK h];by_cases hr:C8 n < used (made A (ET K l))
 ·rw[Ab hr,Aa (by simp),Ab hr,Aa (fun e=>by have:=e.2;omega)]
 ·rw[Aa hr,Aa (by simp),Aa hr,Ab ⟨rfl,by omega⟩]
end
end Kp
namespace Kp
open Go.Lib Go.RowKit Fil Man Wal Prs
structure Ec(K:Kind)(lt:M)(L:List (T×M)):Prop where
 nodup:(L.map (·.1)).Nodup
 names:∀ t,t∈L.map (·.1)↔t∈lt.map fun p=>K.nm p.1
 rows:∀ x∈L,x.2=Bv K lt x.1
section
variable {K:Kind}{A:M}
theorem Ec.nil:Ec K [] []:=⟨by simp,fun t=>by simp,fun x hx=>by simp at hx⟩
theorem Ec.more{lt:M}{L:List (T×M)}(h:Ec K lt L){p:T×T}(hk:K.nm p.1∈L.map (·.1)):Ec K (lt++[p]) (setRow L (K.nm p.1) (put p.1 p.2 (Bv K lt (K.nm p.1)))):=by
 refine⟨by rw[dY];exact h.nodup,fun t=>?_,fun x hx=>?_⟩
 ·rw[dY,h.names,CF,Fp];constructor
  ·exact .inl
  ·rintro(e|e)
   ·exact e
   ·rw[List.map_singleton,EX] at e;rw[e];exact(h.names _).1 hk
 ·unfold setRow at hx;obtain⟨y,hy,rfl⟩:=Bz.1 hx;by_cases e:y.1=K.nm p.1
  ·rw[Ab e]
   show _=Bv K (lt++[p]) y.1
   rw[e,Nf,Ab rfl]
  ·rw[Aa e,Nf,Aa (fun e'=>e e'.symm)];exact h.rows y hy
theorem Ec.new{lt:M}{L:List (T×M)}(h:Ec K lt L){p:T×T}(hk:K.nm p.1∉L.map (·.1)):Ec K (lt++[p]) ((K.nm p.1,put p.1 p.2 []) :: L):=by
 refine⟨JF.2 ⟨hk,h.nodup⟩,fun t=>?_,fun x hx=>?_⟩
 ·rw[BL,Bt,h.names,CF,Fp];constructor
  ·rintro(e|e)
   ·exact .inr (by simp[e])
   ·exact .inl e
  ·rintro(e|e)
   ·exact .inr e
   ·exact .inl (by simpa using e)
 ·rcases Bt.1 hx with rfl|hx
  ·show _=Bv K (lt++[p]) (K.nm p.1)
   rw[Nf,Ab rfl,iH (fun e=>hk ((h.names _).2 e))]
  ·rw[h.rows x hx,Nf,Aa (fun e=>hk (by rw[e];exact Gm hx))]
theorem tF{lt:M}{L:List (T×M)}(h:Ec K lt L):L.length≤lt.length:=by
 have h1:(CQ L).length=L.length:=sJ L;rw[sK h.nodup] at h1;have h2:AX (L.map (·.1))=AX (lt.map fun p=>K.nm p.1):=Qw (Iq _) (Iq _) fun t=>by rw[Eg,Eg];exact h.names t
 have h3:=Un (lt.map fun p=>K.nm p.1);rw[←h2,h1,Cf] at h3;exact h3
theorem Ec.ib{l:M}{L:List (T×M)}(h:Ec K l L):K7 L=ET K l:=by
 have hn:CQ L=AX (l.map fun p=>K.nm p.1):=by
  rw[sK h.nodup];refine Qw (Iq _) (Iq _) fun t=>?_
  rw[Eg,Eg];exact h.names t
 unfold K7 ET;rw[hn];refine QB fun t ht=>?_
 rw[←hn] at ht;obtain⟨x,hx,rfl⟩:=Bz.1 (kL.1 ht);rw[kW h.nodup hx,h.rows x hx];obtain⟨p,hp,e⟩:=Bz.1 ((h.names x.1).1 (Gm hx));unfold Lu LP;rw[Aa];rw[←e];exact aha hp
theorem Ec.fits{l:M}{L:List (T×M)}(h:Ec K l L)(hf:Fits K l):OH L=true:=by
 unfold OH;rw[Nz];intro t ht;obtain⟨x,hx,rfl⟩:=Bz.1 (kL.1 ht);rw[kW h.nodup hx,h.rows x hx];obtain⟨p,hp,e⟩:=Bz.1 ((h.names x.1).1 (Gm hx));unfold Mh;rw[←e,hf.all p hp];simp
theorem al5{l:M}(hu:Up l)(p:T×T):Kn [l.filter (fun q=>!(q.1 == p.1)),[p]]=put p.1 p.2 l:=by
 have hd:del p.1 l=l.filter (fun q=>!(q.1 == p.1)):=rfl
 show mrg (mrg [] (EG (l.filter _))) (EG [p])=_
 rw[kM,←hd,amZ (hu.del _),←awD hu p.1 p.2]
 congr 1
 exact amZ (Tf _ _)
end
end Kp
end Go.Proofs.YtmbbhdebddbhoaaGreat
