/- MemD PutP PutQ -/
import Derived.Test.YtmbbhdebddbhoaaGreatQ28
import Derived.Test.YtmbbhdebddbhoaaGreatQ29
set_option maxHeartbeats 8000000
set_option maxRecDepth 100000
set_option linter.all false
namespace Go.Proofs.YtmbbhdebddbhoaaGreat
open Tryz hiding t1 t2
namespace Mem
open Go.RowKit Go.Maps
open Wal Fil Man Prs Kp BH Hex Sha Al
section
variable {w w':World}{base m:Nat}{L:List (T×M)}{f:T→Nat}
theorem CL.made(w:World)(base:Nat)(f:T→Nat)(hb:base≤w.heap.size):CL (w.alloc (.map #[] 0)) base w.heap.size [] f:=
 ⟨⟨[],List.Perm.nil,StrMap.made w⟩,by simp,fun x hx=>by simp at hx,fun x hx=>by simp at hx,hb⟩
theorem CL.BV(h:CL w base m L f){t:TypeId}:¬ Ap w m t:=by
 obtain⟨kv,_,_,D,⟨es,clock,hm,_⟩,_⟩:=h.map;rintro⟨cs,fr,hb⟩;rw[hm] at hb;injection hb with hb
 cases hb
theorem CL.insert(h:CL w base m L f){name:T}{l:M}{b:Nat}(hn:name∉L.map (·.1))(hl:name.length≤maxLen)(he:PW w base b l)(hb:∀ x∈L,f x.1≠b)(au4:L.length < maxLen):
  ∃ w',(Instr.mapUpdate 145 (.map (some m)) (.string (bs name)) (.pointer (some ⟨b,0,none⟩))).run prog w=.ok () w'∧CL w' base m ((name,l) :: L) (fun t=>if t=name then b else f t)∧w.grownBy w' (some m):=by
 obtain⟨kv,h1,h2⟩:=h.map;have hnk:Cr kv name=none:=by
  cases hs:Cr kv name with
  |none=>rfl
  |some v=>exact absurd ((CL.keys h1).mem_iff.1 (AV.2 ⟨_,WA hs,rfl⟩)) hn
 have hkr:kv.length < maxLen:=by
  have e:kv.length=L.length:=by rw[h1.length_eq,BQ]
  rw[e];exact au4
 obtain⟨w',hrun,h3,h4⟩:=h2.update underlying9 underlying145 name hl (.pointer (some ⟨b,0,none⟩)) hkr;have hu:A7 (fun k=>k=m) w w':=A7.of_grownBy (F:=fun k=>k=m) h4 (fun k e=>(EH e).symm);have hne:∀ x∈L,x.1≠name:=fun x hx e=>hn (by rw[←e];exact ES hx)
 have hmb:∀ k,k=m→∀ t,¬ Ap w k t:=fun k e t=>by rw[e];exact h.BV
 refine⟨w',hrun,⟨⟨_,?_,h3⟩,Hu.2 ⟨hn,h.nodup⟩,fun x hx=>?_,fun x hx y hy e=>?_,h.low⟩,h4⟩
 ·have hd:FP name kv=kv:=List.filter_eq_self.2 fun p hp=>by
   have:p.1≠name:=fun e=>hn ((CL.keys h1).mem_iff.1 (by rw[←e];exact ES hp))
   simpa using this
  unfold Ll;rw[hd,Bg];simp only[Ac];refine List.Perm.cons _ (h1.trans (List.Perm.of_eq (Nb fun x hx=>?_)));rw[Aa (hne x hx)]
 ·rcases AZ.1 hx with rfl|hx
  ·simp only[Ac];exact he.upd hu (fun k e=>hmb k e _) (fun k e=>hmb k e _)
  ·rw[Aa (hne x hx)];exact(h.NP x hx).upd hu (fun k e=>hmb k e _) (fun k e=>hmb k e _)
 ·rcases AZ.1 hx with rfl|hx<;>rcases AZ.1 hy with rfl|hy
  ·rfl
  ·simp only[Ac] at e;rw[Aa (hne y hy)] at e;exact absurd e.symm (hb y hy)
  ·simp only[Ac] at e;rw[Aa (hne x hx)] at e;exact absurd e (hb x hx)
  ·rw[Aa (hne x hx),Aa (hne y hy)] at e;exact h.inj x hx y hy e
theorem CL.set(h:CL w base m L f){x:T×M}(hx:x∈L){v:Value}{l:M}(hv:AP w base v l):CL (w.setCell ⟨f x.1,0,none⟩ v) base m (setRow L x.1 l) f:=by
 obtain⟨v0,hb0,hr0,hlo⟩:=h.NP x hx;have hu:=(A7.refl (fun k=>k=f x.1) w).setCell (p:=⟨f x.1,0,none⟩) (.inl rfl) v;have axZ:∀ k,k=f x.1→¬ Ap w k 75:=fun k e hb=>by
  obtain⟨cs,fr,hb⟩:=hb;rw[e,hb0] at hb;injection hb with hb
  injection hb with _ hb
  exact absurd hb (by decide)
 obtain⟨kv,h1,h2⟩:=h.map;have aww:(setRow L x.1 l).map (fun y=>(y.1,Value.pointer (some ⟨f y.1,0,none⟩)))=L.map fun y=>(y.1,Value.pointer (some ⟨f y.1,0,none⟩)):=by
  unfold setRow;rw[List.map_map];exact Nb fun y _=>by
   show(fun y:T×M=>(y.1,Value.pointer (some ⟨f y.1,0,none⟩))) (if y.1=x.1 then(y.1,l) else y)=_
   split<;>rfl
 refine⟨⟨kv,by rw[aww];exact h1,h2.upd hu (fun e=>h.BV (t:=152) (by rw[e];exact⟨_,_,hb0⟩))⟩,by rw[Vu];exact h.nodup,fun y hy=>?_,fun y hy z hz e=>?_,h.low⟩
 ·unfold setRow at hy;obtain⟨z,hz,rfl⟩:=AV.1 hy;by_cases e:z.1=x.1
  ·rw[Ac e]
   show PW _ base (f z.1) l
   rw[e];exact⟨v,Bh w (f x.1) 0 _ _ v hb0,AL hv hu (fun k hk e=>axZ k e (Bi hv hk)),hlo⟩
  ·rw[Aa e];obtain⟨v1,hb1,hr1,hl1⟩:=h.NP z hz;exact⟨v1,(hu.block _ (Ae hb1) (fun e'=>e (h.inj z hz x hx e'))).trans hb1,AL hr1 hu (fun k hk e=>axZ k e (Bi hr1 hk)),hl1⟩
 ·have hin:∀ y∈setRow L x.1 l,∃ z∈L,z.1=y.1:=fun y hy=>by
   have:y.1∈(setRow L x.1 l).map (·.1):=ES hy;rw[Vu] at this;exact AV.1 this
  obtain⟨a,ha,ea⟩:=hin y hy;obtain⟨c,hc,ec⟩:=hin z hz;rw[←ea,←ec] at e ⊢;exact h.inj a ha c hc e
end
theorem am5(kb:Nat)(k:T)(p:T×T)(W:World)(hk:W.cell? ⟨kb,0,none⟩=some (.string (bs k))):
  Calls prog 110 #[.agg #[.string (bs p.1),.string (bs p.2)],.pointer (some ⟨kb,0,none⟩)] W fun e W'=>e=.returned (.bool (p.1 == k))∧Bw W W':=by
 have hkb:=Bz hk;go_enter func110,ntmps110;go_wp2_with fail;go_ret;exact⟨by simp,Am W _⟩
theorem am6(sb:Nat){q:Option Addr}{c:Nat}{ks:List T}(p:T×T)(W:World)(hk:W.cell? ⟨sb,0,none⟩=some (.slice q ks.length c))(hks:BB W q ks)(hl:ks.length≤1000000):
  Calls prog 109 #[.agg #[.string (bs p.1),.string (bs p.2)],.pointer (some ⟨sb,0,none⟩)] W fun e W'=>e=.returned (.bool (decide (p.1∈ks)))∧Bw W W':=by
 have hkb:=Bz hk;have HC:=Hi (fun(V:World) (hV:Bw W V)=>mO c (hks.below hV) p.1 (by omega));clear hks;generalize decide (p.1∈ks)=d at*;go_enter func109,ntmps109;go_wp2_with fail;refine(HC _ (Am W _)).mono ?_;rintro e w1⟨rfl,hb⟩;have HB:=Hi ((Am W _).trans (hb.mono (Am W _).size));clear hb;go_wp2_with fail;go_ret;exact⟨rfl,HB⟩
theorem am7(kb:Nat)(k:T):Ro (fun W=>W.cell? ⟨kb,0,none⟩=some (.string (bs k))) (.func (.func 110) #[] #[.pointer (some ⟨kb,0,none⟩)]) (fun p=>p.1 == k):=
 ⟨_,_,_,rfl,enters_of func110 (by kernel_rfl) rfl,fun W p h=>am5 kb k p W h⟩
theorem am8(sb:Nat)(q:Option Addr)(c:Nat)(ks:List T)(hl:ks.length≤1000000):Ro (fun W=>W.cell? ⟨sb,0,none⟩=some (.slice q ks.length c)∧BB W q ks) (.func (.func 109) #[] #[.pointer (some ⟨sb,0,none⟩)]) (fun p=>decide (p.1∈ks)):=
 ⟨_,_,_,rfl,enters_of func109 (by kernel_rfl) rfl,fun W p h=>am6 sb p W h.1 h.2 hl⟩
theorem abh{L:List (T×M)}{name:T}{l r:M}(h:name∉L.map (·.1)):setRow ((name,l) :: L) name r=(name,r) :: L:=by
 unfold setRow;rw[Bg,Ac rfl]
 congr 1
 conv=>rhs;rw[←List.map_id L]
 exact Nb fun x hx=>Aa (fun e=>h (by rw[←e];exact ES hx))
theorem CL.len{w:World}{base m:Nat}{L:List (T×M)}{f:T→Nat}(h:CL w base m L f)(ty:TypeId):(Builtin.len_ #[145] ty #[.map (some m)]).run prog w=.ok (.int .i64 (L.length:Int)) w:=by
 obtain⟨kv,h2,_,D,hown,_,hsz,_⟩:=h.map;rw[hown.len underlying145 ty,hsz,h2.length_eq,BQ]
theorem am9{K:Kind}{A:M}(hg:Fil.Good A){name:T}{l:M}(h:fileOf K A name=some l):Up l∧l.length≤65535∧rowLen (flat l)≤65537:=by
 unfold fileOf at h;cases hx:Fil.get A name with
 |none=>rw[hx] at h;cases h
 |some d=>
  rw[hx] at h;obtain⟨_,hu,_,s,hs,hd⟩:=KR h;have hd2:d.length≤65535:=by
   have:=hg _ (get_some hx);unfold E9 at this;exact(Ld this).2.2
  have hsl:s.length+4=d.length:=by rw[hd,Crc.Mc]
  refine⟨hu,(Vs h).1,?_⟩;unfold DX at hs;split at hs
  ·cases ht:textsE (flat l) with
   |none=>rw[ht] at hs;cases hs
   |some a=>
    rw[ht] at hs;simp only[Dm,Bt] at hs;have h1:=XK ht;subst hs;rw[Aj,Crc.Be] at hsl;omega
  ·cases hs
theorem ama{K:Kind}{A:M}{name:T}{l:M}(h:fileOf K A name=some l):∃ a,textsE (flat l)=some a:=by
 unfold fileOf at h;cases hx:Fil.get A name with
 |none=>rw[hx] at h;cases h
 |some d=>
  rw[hx] at h;obtain⟨_,_,_,s,hs,_⟩:=KR h;unfold DX at hs;split at hs
  ·cases ht:textsE (flat l) with
   |none=>rw[ht] at hs;cases hs
   |some a=>exact⟨a,rfl⟩
  ·cases hs
theorem ny{K:Kind}{A:M}(hg:Fil.Good A)(ks:List T)(name:T):BN (EM K A ks name)∧(EM K A ks name).length≤1000000∧rowLen (flat (EM K A ks name))≤1000000000:=by
 unfold EM;cases h:fileOf K A name with
 |none=>exact⟨List.Pairwise.nil,by simp,by simp[flat,rowLen]⟩
 |some l=>
  obtain⟨h1,h2,h3⟩:=am9 hg h;have avV:(l.filter fun p=>decide (p.1∉ks)).Sublist l:=List.filter_sublist;refine⟨BN.LM (List.Pairwise.sublist avV h1),?_,?_⟩
  ·have:=avV.length_le
   show(l.filter _).length≤_
   omega
  ·obtain⟨a,ht⟩:=ama h;obtain⟨b,hb,hbl⟩:=zX avV ht;have e1:=XK ht;have e2:=XK hb
   show rowLen (flat (l.filter _))≤_
   omega
def abj(w:World)(sb m:Nat)(sv:Value)(A:M)(ks:List T)(i:Value)(wr:World):Prop:=
 ∃ (k:Nat) (L:List (T×M)) (f:T→Nat),k≤ks.length∧i=.int .i64 (k:Int)∧CL wr w.heap.size m L f∧Gc A9 A (ks.take k) L∧Bw w wr∧wr.heap[sb]?=some (.cells #[sv] 27)
theorem abk{K:Kind}{A:M}{ks:List T}(h:There K A ks){k:T}(hk:k∈ks):k.length≤65535:=by
 have h1:=h k hk;rw[XB] at h1;obtain⟨v,hv⟩:=JD.1 h1;exact((PR (K:=K)).2 _ (get_some hv)).1
theorem abl{K:Kind}{A:M}{ks:List T}(h:There K A ks){k:T}(hk:k∈ks):(Fil.get A (K.nm k)).isSome=true∧(fileOf K A (K.nm k)).isSome=true∧((fileOf K A (K.nm k)).getD []).any (fun p=>decide (p.1∈ks))=true:=by
 obtain⟨d,l,h1,_,h3⟩:=zY h (name:=K.nm k) ((Df _ _).2 (ES hk));refine⟨by rw[h1];rfl,by rw[h3];rfl,?_⟩;have h4:=h k hk;rw[XB] at h4;obtain⟨v,hv⟩:=JD.1 h4;exact List.any_eq_true.2 ⟨_,get_some hv,by simpa using hk⟩
theorem Vy{K:Kind}{A:M}{kt:List T}{L:List (T×M)}(h:Gc K A kt L):L.length≤kt.length:=by
 have h1:(BX L).length=L.length:=bK L;rw[bL h.nodup] at h1;have h2:Az (L.map (·.1))=Az (kt.map K.nm):=LK (Ew _) (Ew _) fun t=>by rw[Df,Df];exact h.names t
 have h3:=Ox (kt.map K.nm);rw[←h2,h1,BQ] at h3;exact h3
theorem amb{w:World}{p y:Nat}{A:M}{q:Option Addr}{cap:Nat}{ks:List T}{Q:Int→World→Prop}(hm:DR w p y)(hg:Man.JR w y A)(hgd:Fil.Good A)(hk:BB w q ks)(hl:ks.length≤100000)(ht:There A9 A ks)
  (hf:∀ W,Bw w W→Calls prog 140 #[.pointer (some ⟨y,0,none⟩)] W fun e w'=>e=.returned (.int .i64 0)∧W=w')
  (h0:ks=[]→∀ w',Bw w w'→Q 0 w')
  (hc:∀ W q c,Bw w W→D7 W q (DC A9 A ks)→Calls prog 32 #[.pointer (some ⟨y,0,none⟩),.slice q (DC A9 A ks).length c] W fun e w'=>∃ c,e=.returned (.int .i64 c)∧Q c w'):
  Calls prog 39 #[.pointer (some ⟨p,0,none⟩),.slice q ks.length cap] w fun e w'=>∃ c,e=.returned (.int .i64 c)∧Q c w':=by
 have HF:=Hi hf;have H0:=Hi h0;have HC:=Hi hc;have HM:=Hi hm;have HG:=Hi hg;have HK:=Hi hk;have HT:=Hi ht;have Vz:=Hi hgd;have Vq:=hm.lt;clear hf h0 hc hm hg hk ht hgd;go_enter func39,ntmps39;go_wp2_with fail;have hb0:=Am w (.cells #[.slice q ks.length cap] 27);refine(aaQ (P:=fun W w'=>W=w') (HM.below hb0) (HF _ hb0)).mono ?_;rintro e w1⟨rfl,hw1⟩;subst hw1;have hmm:=@run_makeMap prog;go_wp2_with fail;have auP:=Ai w (.cells #[.slice q ks.length cap] 27);have azx:=Aq w (.cells #[.slice q ks.length cap] 27);have hmp:=CL.made (w.alloc (.cells #[.slice q ks.length cap] 27)) w.heap.size (fun _=>0) hb0.size;rw[auP] at hmp;have hb1:=hb0.alloc hb0.size (.map #[] 0);have abm:=((Am (w.alloc (.cells #[.slice q ks.length cap] 27)) (.map #[] 0)).block _ (Ae azx)).trans azx;have nz:=Hi hmp;have HB1:=Hi hb1;have bV:=Hi abm;obtain⟨V,hV⟩:=ex ((w.alloc (.cells #[.slice q ks.length cap] 27)).alloc (.map #[] 0));rw[hV] at nz HB1 bV;have VA:V.cell? ⟨w.heap.size,0,none⟩=some (.slice q ks.length cap):=cr bV.out;have cb2:((w.alloc (.cells #[.slice q ks.length cap] 27)).alloc (.map #[] 0)).cell? ⟨w.heap.size,0,none⟩=some (.slice q ks.length cap):=by rw[hV];exact VA
 go_wp2_with fail;rw[hV];clear hb0 hb1 azx abm hmp auP hV VA cb2
 go_loopw [24] (fun i wr=>abj w w.heap.size (w.heap.size+1) (.slice q ks.length cap) A ks i wr) (fun i _=>ks.length -(intOf i).toNat)
 case atStart=>exact⟨0,[],_,Ar _,rfl,nz,by rw[FJ];exact Gc.nil,HB1,bV⟩
 case round=>
  obtain⟨k,L,f,hk,rfl,he,hds,hb,hsb⟩:=hrel;have HE:=Hi he;have Jr:=Hi hds;have HB:=Hi hb;have MM:=Hi hsb;clear he hds hb hsb nz HB1 bV;by_cases hlt:k < ks.length
  ·obtain⟨a,hix,c0⟩:=(HK.below HB).index cap k hlt;have Gh:=Hi (BF hlt);have Bo:=Hi (BS hlt);generalize ks[k]=key at*;have hks:=abk HT Gh.out;obtain⟨t1,t2,t3⟩:=abl HT Gh.out;have HT1:=Hi t1;have HT2:=Hi t2;have HT3:=Hi t3;have Gb:=Hi (fun(W:World)=>bq key W (by omega));have hnl:(A9.nm key).length=17:=XC key;have NT:L.length≤100000:=by
    have:=Vy Jr.out;rw[Aw] at this;omega
   have XQ:=Hi (Aq wr (.cells #[.string (bs key)] 9));have Bj:=Am wr (.cells #[.string (bs key)] 9);have Ag:=Hi Bj;clear t1 t2 t3 Bj;obtain⟨kb,hkb⟩:=ex (wr.heap.size);go_wp2_with fail;refine(Gb _).mono ?_;rintro e w1⟨rfl,hb1⟩;have hkc:w1.heap[wr.heap.size]?=some (.cells #[.string (bs key)] 9):=(hb1.block _ (Ae XQ)).trans XQ.out;have hwb:Bw wr w1:=Ag.trans (hb1.mono Ag.size);have Ef:=Hi (HE.below hwb);have HB1:=Hi (HB.trans (hwb.mono HB.size));have XR:=Hi ((hwb.block _ (Ae MM)).trans MM);have MN:=Hi hkc;clear hb1 hkc hwb HE HB MM XQ Ag hix c0;rw[hkb] at MN;by_cases hin:A9.nm key∈L.map (·.1)
   case' pos=>
    obtain⟨⟨t,l1⟩,hx,El⟩:=AV.1 hin;have El:t=A9.nm key:=El;subst El;have I9:=Ef.XJ hx (by rw[hnl];decide);have nA:=Hi (show l1=EM A9 A (ks.take k) (A9.nm key) from Jr.rows _ hx)
    have M0:=Hi (show Gc A9 A (ks.take (k+1)) (setRow L (A9.nm key) (l1.filter fun p=>!(p.1 == key))) from by
     rw[Bo.out,nA.out];exact Jr.more hin)
    obtain⟨w5,nC⟩:∃ w5,w5=w1:=⟨_,rfl⟩;subst nC;obtain⟨L1,hL1⟩:∃ L1,L1=L:=⟨_,rfl⟩;subst hL1;obtain⟨f1,hf1⟩:∃ f1,f1=f:=⟨_,rfl⟩;subst hf1;have OO:=Ef;have BG:=HB1;have nD:=XR;have bW:=MN;have OH:=Hi hx;have hl1:l1.length≤1000000:=by
     have:=(PR (K:=A9) (A:=A) (name:=A9.nm key)).1;have h2:=Km (fun p=>decide (p.1∉ks.take k)) ((fileOf A9 A (A9.nm key)).getD []);rw[nA.out];unfold EM;omega
    obtain⟨v5,auy,ast,-⟩:=OO.NP _ hx;obtain⟨q3,c3,rfl,hq3,-⟩:=Dl ast;have c1:w5.cell? ⟨f1 (A9.nm key),0,none⟩=some (.slice q3 l1.length c3):=cr auy;have M3:=Hi auy;have TH:=Hi (Ta (Av.BU ast) hq3 (Ah hl1 (by decide)));clear hx hin nA Jr Ef HB1 XR MN HT1 HT2 HT3 Gb auy ast;generalize A9.nm key=name at*;obtain⟨fb,Jp⟩:=ex (f1 name);have OP:=Hi Jp;rw[Jp] at I9 c1 M3;clear Jp;go_wp2_with fail
   case' neg=>
    have I9:=Ef.alx hin (by rw[hnl];decide);have XT:=Hi hin;have EO:=Hi (bz (HM.below HB1) (OJ HG HB1) (A9.nm key) (by rw[hnl];decide));have hlf:=(PR (K:=A9) (A:=A) (name:=A9.nm key)).1;unfold KW at EO;rw[HT1.out,HT2.out] at EO
    have XU:=Hi (show Gc A9 A (ks.take (k+1)) ((A9.nm key,((fileOf A9 A (A9.nm key)).getD []).filter fun p=>!(p.1 == key)) :: L) from by
     rw[Bo.out];exact Jr.new hin)
    clear hin Jr HT1 HT2 Gb;generalize (fileOf A9 A (A9.nm key)).getD []=l1 at*;generalize A9.nm key=name at*;go_wp2_with fail;refine EO.mono ?_;rintro e w2⟨q3,c3,rfl,ast,hq3,hb2⟩;have HE2:=Hi (Ef.below hb2);have HB2:=Hi (HB1.trans (hb2.mono HB1.size));have XV:=Hi ((hb2.block _ (Ae XR)).trans XR);have nE:=Hi ((hb2.block _ (Ae MN)).trans MN);have HR2:=Hi (Da ast HB1.size)
    have nG:=Hi (alS c3 (Av.BU ast) (am8 w.heap.size q cap ks (by omega)) (fun W hW=>⟨by
     have h1:=(hW.block _ (Ae XV)).trans XV;rw[AY _ _ _ _ _ _ h1];rfl,HK.below (HB2.trans (hW.mono HB2.size))⟩) (by omega))
    rw[HT3.out] at nG;clear hb2 ast Ef HB1 XR MN EO HT3;go_wp2_with fail;refine nG.mono ?_;rintro e w3⟨rfl,hb3⟩;have hb4:Bw w2 (w3.alloc (.cells #[.slice q3 l1.length c3] 152)):=hb3.alloc hb3.size _;have VB:=HB2.trans (hb4.mono HB2.size);have TI:=Aq w3 (.cells #[.slice q3 l1.length c3] 152);have aBW:w.heap.size≤w3.heap.size:=Ah HB2.size hb3.size
    obtain⟨w5,nH,VC,hg5⟩:=(HE2.below hb4).insert (name:=name) (l:=l1) (b:=w3.heap.size) XT (by rw[hnl];decide) ⟨_,TI,Bp HR2 hb4,aBW⟩ (fun x hx e=>by
     obtain⟨v,h1,_⟩:=HE2.NP x hx;have h2:=Ae h1;have h3:=hb3.size;omega) (by unfold maxLen;omega)
    have Et:A7 (fun k=>k=w.heap.size+1) (w3.alloc (.cells #[.slice q3 l1.length c3] 152)) w5:=A7.of_grownBy (F:=fun k=>k=w.heap.size+1) hg5 (fun k e=>(EH e).symm);have abn:=VC.XJ (x:=(name,l1)) (by simp) (by rw[hnl];decide);simp only[Ac] at abn;have abo:=(hb4.block _ (Ae nE)).trans nE.out;have abp:=(hb4.block _ (Ae XV)).trans XV.out
    have KE:∀ {b:Nat} {cs:Array Value} {t:TypeId},(w3.alloc (.cells #[.slice q3 l1.length c3] 152)).heap[b]?=some (.cells cs t)→w5.heap[b]?=some (.cells cs t):=fun {b cs t} h=>(Et.block b (Ae h) (fun e=>by
     rw[e] at h;exact(HE2.below hb4).BV ⟨_,_,h⟩)).trans h
    have bW:=Hi (KE abo);have nD:=Hi (KE abp);have M3:=Hi (KE TI);have BG:=Hi (Bu VB Et (fun i e=>by omega) VB.size)
    have XW:=AL (Bp HR2 hb4) Et (fun j hj e=>by
     have h:=Bi (Bp HR2 hb4) hj;rw[e] at h;exact(HE2.below hb4).BV h)
    have c1:w5.cell? ⟨w3.heap.size,0,none⟩=some (.slice q3 l1.length c3):=cr M3.out;have TH:=Hi (Ta (Av.BU XW) hq3 (Ah hlf (by decide)));have hl1:l1.length≤1000000:=Ah hlf (by decide)
    have M0:=Hi (show Gc A9 A (ks.take (k+1)) (setRow ((name,l1) :: L) name (l1.filter fun p=>!(p.1 == key))) from by
     rw[abh XT.out];exact XU.out)
    have OO:=Hi VC;have OP:=Hi (show(fun t=>if t=name then w3.heap.size else f t) name=w3.heap.size from Ac rfl);generalize (fun t=>if t=name then w3.heap.size else f t)=f1 at*;obtain⟨L1,hL1⟩:=ex ((name,l1) :: L);have OH:=Hi (show(name,l1)∈L1 from by rw[←hL1];simp);rw[hL1] at OO M0;obtain⟨fb,Jp⟩:=ex (w3.heap.size);rw[Jp] at abn c1 M3 OP nH;clear hb3 hb4 VB TI VC hg5 Et abo abp KE XW hL1 XU HE2 HB2 XV nE HR2 nG hlf;go_wp2_with fail
   all_goals
    refine TH.mono ?_;rintro e w6⟨v6,rfl,Gu,hb6⟩;obtain⟨q6,c6,rfl,XX,-⟩:=Dl Gu;have nI:=(hb6.block _ (Ae bW)).trans bW.out
    have Nn:=Hi (nu Gu (am7 kb key) (fun W hW=>by
     have h1:=(hW.block _ (Ae nI) (fun e=>by
      have:=CJ Gu e;have:=Ae bW;omega)).trans nI
     rw[AY _ _ _ _ _ _ h1];rfl) hl1)
    have IB:=Hi Gu;have Em:=Hi hb6;clear Gu hb6 nI TH;go_wp2_with fail;refine Nn.mono ?_;rintro e w7⟨v7,rfl,Q7,Q8,-⟩;have D8:Bw w5 w7:=Bu Em Q8 (fun i e=>CJ IB e) Em.size;obtain⟨q7,c7,rfl,-,-⟩:=Dl Q7;have OQ:=(D8.block _ (Ae M3)).trans M3.out;have c17:w7.cell? ⟨fb,0,none⟩=some (.slice q3 l1.length c3):=cr OQ;have Vp:=Cb w7 fb 0 _ _ OQ;have asR:=(OO.below D8).set OH (Da Q7 BG.size);rw[OP.out] at asR;have Iq:=(A7.refl (fun j=>j=fb) w7).setCell (p:=⟨fb,0,none⟩) (.inl rfl) (.slice q7 (l1.filter fun p=>!(p.1 == key)).length c7);have abq:w.heap.size≤fb:=by
     obtain⟨v,_,_,h⟩:=OO.NP _ OH.out;rw[OP.out] at h;exact h
    have nJ:=BG.trans (D8.mono BG.size);have Q9:=(D8.block _ (Ae nD)).trans nD.out
    have Ca:=Hi (show abj w w.heap.size (w.heap.size+1) (.slice q ks.length cap) A ks (.int .i64 ((k:Int)+1)) (w7.setCell ⟨fb,0,none⟩ (.slice q7 (l1.filter fun p=>!(p.1 == key)).length c7)) from
     ⟨k+1,_,f1,by omega,by go_num,asR,M0,Bu nJ Iq (fun i e=>by rw[e];exact abq) nJ.size,(Iq.block _ (Ae Q9) (fun e=>by
      rw[e,OQ] at Q9;injection Q9 with Q9
      injection Q9 with _ Q9
      exact absurd Q9 (by decide))).trans Q9⟩)
    generalize (l1.filter fun p=>!(p.1 == key)).length=n7 at*;clear Q7 Q8 D8 OQ asR Iq abq nJ Q9;go_wp2_with fail;go_roundw
    case rel=>exact Ca.out
    case measure=>
     show ks.length -((k:Int)+1).toNat < ks.length -((k:Int)).toNat
     omega
  ·obtain rfl:k=ks.length:=(by omega);have hds:=Jr.out;rw[Ck] at hds;by_cases hz:ks=[]
   ·subst hz;have hL:L=[]:=by
     have:=Vy hds;exact IL.1 (by simpa using this)
    subst hL;have hln:=HE.len 3;have HQ:=Hi (H0 rfl wr HB);clear hds;go_wp2_with fail;go_ret;exact⟨0,rfl,HQ⟩
   ·have hL:L.length≠0:=fun e=>by
     have hL:=IL.1 e;cases hks:ks with
     |nil=>exact hz hks
     |cons x ks'=>
      have:=(hds.names (A9.nm x)).2 (ES (by rw[hks];simp));rw[hL] at this;simp at this
    have NT:L.length≤100000:=Ah (Vy hds) hl;obtain⟨e1,e2⟩:=hds.XP Vz HT.out
    have Gq:=Hi (mK HE (fun x hx=>by rw[hds.rows x hx];exact ny Vz _ _) (fun x hx=>by
     obtain⟨z,_,hz⟩:=AV.1 ((hds.names x.1).1 (ES hx));rw[←hz,XC];decide) NT)
    unfold TC at Gq;simp only[Ac e2,e1] at Gq;have hln:=HE.len 3;have hlb:((L.length:Int) == 0)=false:=Fq.2 (by omega);clear hds e1 e2;have VD:=Hi (HM.below HB);go_wp2_with fail;refine Gq.mono ?_;rintro e w8⟨q8,c8,rfl,OT,G7⟩;have JQ:=Hi (HB.trans (G7.mono HB.size));have FZ:=Hi (HC w8 q8 c8 JQ (D7.BU OT));have hmc:=(HM.below JQ).cell;generalize (DC A9 A ks).length=dn at*;clear OT G7;go_wp2_with fail;refine FZ.mono ?_;rintro e w9⟨cc,rfl,Qa⟩;go_wp2_with fail;go_ret;exact⟨cc,rfl,Qa⟩
end Mem
namespace Kp
open Go.Lib Fil Man Wal Prs
theorem OU{α:Type}{C:List α→Prop}(h0:C [])(h1:∀ l x,C l→C (l++[x]))(l:List α):C l:=by
 have:∀ r:List α,C r.reverse:=fun r=>by
  induction r with
  |nil=>exact h0
  |cons x r ih=>rw[List.reverse_cons];exact h1 _ _ ih
 simpa using this l.reverse
section
variable {K:Kind}{A:M}
def AR(K:Kind)(l:M)(name:T):M:=(l.filter fun p=>K.nm p.1 == name).foldl (fun acc p=>put p.1 p.2 acc) []
theorem Js(l:M)(p:T×T)(name:T):AR K (l++[p]) name=if K.nm p.1=name then put p.1 p.2 (AR K l name) else AR K l name:=by
 unfold AR;rw[O1,List.foldl_append];by_cases h:K.nm p.1=name
 ·rw[Ac h,Qn (by simpa using h)];rfl
 ·rw[Aa h,N9 (by simpa using h)];rfl
theorem NU(l:M)(name:T):Up (AR K l name):=by
 unfold AR;generalize l.filter _=k
 suffices h:∀ (k a:M),Up a→Up (k.foldl (fun acc p=>put p.1 p.2 acc) a) from h k [] Up.nil
 intro k
 induction k with
 |nil=>exact fun a h=>h
 |cons p k ih=>exact fun a h=>ih _ (h.put _ _)
theorem bX(l:M)(name:T):∀ q∈AR K l name,K.nm q.1=name∧q∈l:=by
 unfold AR;have hl:∀ q∈l.filter (fun p=>K.nm p.1 == name),K.nm q.1=name∧q∈l:=fun q hq=>by
  obtain⟨h1,h2⟩:=CU.1 hq;exact⟨by simpa using h2,h1⟩
 generalize l.filter _=k at hl
 suffices h:∀ (k a:M),Up a→(∀ q∈k,K.nm q.1=name∧q∈l)→(∀ q∈a,K.nm q.1=name∧q∈l)→∀ q∈k.foldl (fun acc p=>put p.1 p.2 acc) a,K.nm q.1=name∧q∈l from h k [] Up.nil hl (fun q hq=>by simp at hq)
 intro k
 induction k with
 |nil=>exact fun a _ _ h=>h
 |cons p k ih=>
  refine fun a hu h1 h2=>ih _ (hu.put _ _) (fun q hq=>h1 q (Dh _ hq)) fun q hq=>?_
  rcases(Nh hu).1 hq with rfl|⟨hq,_⟩
  ·exact h1 p (by simp)
  ·exact h2 q hq
theorem XY{l:M}{name:T}(h:name∉l.map fun p=>K.nm p.1):AR K l name=[]:=by
 cases hg:AR K l name with
 |nil=>rfl
 |cons q r=>
  obtain⟨h1,h2⟩:=bX (K:=K) l name q (by rw[hg];simp);exact absurd (AV.2 ⟨q,h2,h1⟩) h
theorem abr{l:M}{p:T×T}(h:p∈l):AR K l (K.nm p.1)≠[]:=by
 suffices hs:∀ l:M,(∃ q∈l,K.nm q.1=K.nm p.1)→AR K l (K.nm p.1)≠[] from hs l ⟨p,h,rfl⟩
 intro l
 induction l using OU with
 |h0=>rintro⟨q,hq,_⟩;simp at hq
 |h1 l x ih=>
  rintro⟨q,hq,e⟩;rw[Js];split
  ·rename_i hx
   exact List.ne_nil_of_mem ((Nh (NU l _)).2 (.inl rfl))
  ·rename_i hx
   refine ih ⟨q,?_,e⟩;rcases Ee.1 hq with hq|hq
   ·exact hq
   ·rw[DT] at hq;rw[hq] at e;exact absurd e hx
def Fits(K:Kind)(l:M):Prop:=∀ j,(h:j < l.length)→(Bc (AR K (l.take (j+1)) (K.nm l[j].1))).isSome=true
instance (K:Kind) (l:M):Decidable (Fits K l):=inferInstanceAs (Decidable (∀ j,(h:j < l.length)→_))
theorem Fits.XZ{l:M}{p:T×T}:Fits K (l++[p])↔Fits K l∧(Bc (AR K (l++[p]) (K.nm p.1))).isSome=true:=by
 unfold Fits;constructor
 ·intro h;refine⟨fun j hj=>?_,?_⟩
  ·have:=h j (by simp;omega);rw[O3 hj,List.take_append_of_le_length (by omega)] at this;exact this
  ·have:=h l.length (by simp);simp only[Qm (Ab _),Nat.sub_self,List.getElem_cons_zero] at this;rw[ET (by simp)] at this;exact this
 ·rintro⟨h1,h2⟩ j hj;by_cases e:j < l.length
  ·rw[O3 e,List.take_append_of_le_length (by omega)];exact h1 j e
  ·obtain rfl:j=l.length:=(by simp at hj;omega);simp only[Qm (Ab _),Nat.sub_self,List.getElem_cons_zero];rw[ET (by simp)];exact h2
theorem Fits.all{l:M}(h:Fits K l):∀ p∈l,(Bc (AR K l (K.nm p.1))).isSome=true:=by
 suffices hs:∀ l:M,Fits K l→∀ p∈l,(Bc (AR K l (K.nm p.1))).isSome=true from hs l h
 intro l
 induction l using OU with
 |h0=>exact fun _ p hp=>by simp at hp
 |h1 l x ih=>
  intro hf p hp;obtain⟨h1,h2⟩:=Fits.XZ.1 hf;by_cases e:K.nm x.1=K.nm p.1
  ·rw[←e];exact h2
  ·rw[Js,Aa e];refine ih h1 p ?_;rcases Ee.1 hp with hp|hp
   ·exact hp
   ·rw[DT] at hp;rw[hp] at e;exact absurd rfl e
def IC(K:Kind)(l:M)(name:T):Af:=⟨name,(Bc (AR K l name)).getD [],false⟩
def DF(K:Kind)(l:M):List Af:=(Az (l.map fun p=>K.nm p.1)).map (IC K l)
def E5(K:Kind)(l:M):List Af:=(List.range l.length).map fun j=>IC K (l.take (j+1)) (K.nm (l.getD j ([],[])).1)
theorem bY(l:M)(p:T×T):E5 K (l++[p])=E5 K l++[IC K (l++[p]) (K.nm p.1)]:=by
 unfold E5;rw[Aj,Ii,List.range_succ,C8,List.map_singleton]
 congr 1
 ·refine Nb fun j hj=>?_
  have hj:=List.mem_range.1 hj;rw[List.take_append_of_le_length (by omega)]
  congr 2
  simp[FK,List.getElem?_append_left hj]
 ·rw[ET (by simp)];simp[FK]
theorem amd{F G:M}(hF:Up F)(hG:Up G)(h:∀ k,get F k=get G k):F=G:=
 Sd hF hG fun p=>⟨fun hp=>get_some (by rw[←h];exact get_mem hF (show(p.1,p.2)∈F from hp)),fun hp=>get_some (by rw[h];exact get_mem hG (show(p.1,p.2)∈G from hp))⟩
theorem bZ(hu:Up A)(l:M)(name:T):get (made A (E5 K l)) name=if name∈l.map (fun p=>K.nm p.1) then some ((Bc (AR K l name)).getD []) else get A name:=by
 induction l using OU with
 |h0=>rfl
 |h1 l p ih=>
  rw[bY,il]
  show get (put (K.nm p.1) _ (made A (E5 K l))) name=_
  rw[get_put (hu.made _),C8,List.map_singleton];by_cases e:name=K.nm p.1
  ·subst e;rw[Ac rfl,Ac (by simp)];rfl
  ·have e2:¬ K.nm p.1=name:=fun h=>e h.symm
   rw[Aa e,ih,Js,Aa e2];by_cases hm:name∈l.map fun p=>K.nm p.1
   ·rw[Ac hm,Ac (List.mem_append_left _ hm)]
   ·have hn:¬ name∈(l.map fun p=>K.nm p.1)++[K.nm p.1]:=fun h=>(Ee.1 h).elim hm (fun h=>e (DT.1 h))
    rw[Aa hm,Aa hn]
theorem abt(l:M):(DF K l).map (·.name)=Az (l.map fun p=>K.nm p.1):=by
 unfold DF;rw[List.map_map]
 conv=>rhs;rw[←List.map_id (Az (l.map fun p=>K.nm p.1))]
 exact Nb fun x _=>rfl
theorem nK(hu:Up A)(l:M)(name:T):get (made A (DF K l)) name=if name∈l.map (fun p=>K.nm p.1) then some ((Bc (AR K l name)).getD []) else get A name:=by
 by_cases hm:name∈l.map fun p=>K.nm p.1
 ·rw[Ac hm];have hc:IC K l name∈DF K l:=ES ((Df _ _).2 hm);have:=aa0 hu (by rw[abt];exact SX _) hc;exact this
 ·rw[Aa hm];exact aa1 hu (by rw[abt,Df];exact hm)
theorem cz(hu:Up A)(l:M):made A (E5 K l)=made A (DF K l):=amd (hu.made _) (hu.made _) fun k=>by rw[bZ hu,nK hu]
theorem VE{l:M}{d:T}(h:Bc l=some d):d.length≤65535:=by
 unfold Bc at h;cases h1:DX l with
 |none=>rw[h1] at h;cases h
 |some s=>
  rw[h1] at h;simp only[BI] at h;split at h
  ·simp only[Bt] at h;subst h;rw[Crc.Mc];omega
  ·cases h
theorem nL(hK:K.Bf){l:M}(h:Fits K l){p:T×T}(hp:p∈l):(IC K l (K.nm p.1)).may=true:=by
 obtain⟨d,hd⟩:=JD.1 (h.all p hp);have hl:=hK.len p.1;have hne:K.nm p.1≠[]:=fun e=>by rw[e] at hl;cases hl
 have:=VE hd;unfold IC Af.may E9;rw[hd];simp[hne,hl,this]
theorem abu(hK:K.Bf){l:M}(h:Fits K l):(DF K l).all Af.may=true:=by
 rw[Kl];intro c hc;obtain⟨name,hn,rfl⟩:=AV.1 hc;obtain⟨p,hp,rfl⟩:=AV.1 ((Df _ _).1 hn);exact nL hK h hp
def EG(K:Kind)(n:Nat)(A:M)(l:M):Int×M:=if Fits K l then(EL n A (DF K l),DN n A (DF K l)) else(5,A)
theorem nM(hK:K.Bf){n:Nat}{l:M}(h:Fits K l):EG K n A l=if Br n < used (made A (DF K l)) then(4,A) else(0,made A (DF K l)):=by
 unfold EG EL DN;rw[Ac h,abu hK h];by_cases hr:Br n < used (made A (DF K l))
 ·rw[Ac hr,Aa (by simp),Ac hr,Aa (fun e=>by have:=e.2;omega)]
 ·rw[Aa hr,Aa (by simp),Aa hr,Ac ⟨rfl,by omega⟩]
end
end Kp
namespace Kp
open Go.Lib Go.RowKit Fil Man Wal Prs
structure Dg(K:Kind)(lt:M)(L:List (T×M)):Prop where
 nodup:(L.map (·.1)).Nodup
 names:∀ t,t∈L.map (·.1)↔t∈lt.map fun p=>K.nm p.1
 rows:∀ x∈L,x.2=AR K lt x.1
section
variable {K:Kind}{A:M}
theorem Dg.nil:Dg K [] []:=⟨by simp,fun t=>by simp,fun x hx=>by simp at hx⟩
theorem Dg.more{lt:M}{L:List (T×M)}(h:Dg K lt L){p:T×T}(hk:K.nm p.1∈L.map (·.1)):Dg K (lt++[p]) (setRow L (K.nm p.1) (put p.1 p.2 (AR K lt (K.nm p.1)))):=by
 refine⟨by rw[Vu];exact h.nodup,fun t=>?_,fun x hx=>?_⟩
 ·rw[Vu,h.names,C8,Ee];constructor
  ·exact .inl
  ·rintro(e|e)
   ·exact e
   ·rw[List.map_singleton,DT] at e;rw[e];exact(h.names _).1 hk
 ·unfold setRow at hx;obtain⟨y,hy,rfl⟩:=AV.1 hx;by_cases e:y.1=K.nm p.1
  ·rw[Ac e]
   show _=AR K (lt++[p]) y.1
   rw[e,Js,Ac rfl]
  ·rw[Aa e,Js,Aa (fun e'=>e e'.symm)];exact h.rows y hy
theorem Dg.new{lt:M}{L:List (T×M)}(h:Dg K lt L){p:T×T}(hk:K.nm p.1∉L.map (·.1)):Dg K (lt++[p]) ((K.nm p.1,put p.1 p.2 []) :: L):=by
 refine⟨Hu.2 ⟨hk,h.nodup⟩,fun t=>?_,fun x hx=>?_⟩
 ·rw[Bg,AZ,h.names,C8,Ee];constructor
  ·rintro(e|e)
   ·exact .inr (by simp[e])
   ·exact .inl e
  ·rintro(e|e)
   ·exact .inr e
   ·exact .inl (by simpa using e)
 ·rcases AZ.1 hx with rfl|hx
  ·show _=AR K (lt++[p]) (K.nm p.1)
   rw[Js,Ac rfl,XY (fun e=>hk ((h.names _).2 e))]
  ·rw[h.rows x hx,Js,Aa (fun e=>hk (by rw[e];exact ES hx))]
theorem cK{lt:M}{L:List (T×M)}(h:Dg K lt L):L.length≤lt.length:=by
 have h1:(BX L).length=L.length:=bK L;rw[bL h.nodup] at h1;have h2:Az (L.map (·.1))=Az (lt.map fun p=>K.nm p.1):=LK (Ew _) (Ew _) fun t=>by rw[Df,Df];exact h.names t
 have h3:=Ox (lt.map fun p=>K.nm p.1);rw[←h2,h1,BQ] at h3;exact h3
theorem Dg.XP{l:M}{L:List (T×M)}(h:Dg K l L):Ho L=DF K l:=by
 have hn:BX L=Az (l.map fun p=>K.nm p.1):=by
  rw[bL h.nodup];refine LK (Ew _) (Ew _) fun t=>?_
  rw[Df,Df];exact h.names t
 unfold Ho DF;rw[hn];refine Nb fun t ht=>?_
 rw[←hn] at ht;obtain⟨x,hx,rfl⟩:=AV.1 (XI.1 ht);rw[XH h.nodup hx,h.rows x hx];obtain⟨p,hp,e⟩:=AV.1 ((h.names x.1).1 (ES hx));unfold IA IC;rw[Aa];rw[←e];exact abr hp
theorem Dg.fits{l:M}{L:List (T×M)}(h:Dg K l L)(hf:Fits K l):KY L=true:=by
 unfold KY;rw[Kl];intro t ht;obtain⟨x,hx,rfl⟩:=AV.1 (XI.1 ht);rw[XH h.nodup hx,h.rows x hx];obtain⟨p,hp,e⟩:=AV.1 ((h.names x.1).1 (ES hx));unfold J4;rw[←e,hf.all p hp];simp
theorem abv{l:M}(hu:Up l)(p:T×T):Hg [l.filter (fun q=>!(q.1 == p.1)),[p]]=put p.1 p.2 l:=by
 have hd:del p.1 l=l.filter (fun q=>!(q.1 == p.1)):=rfl
 show mrg (mrg [] (Dp (l.filter _))) (Dp [p])=_
 rw[Xj,←hd,zM (hu.del _),←aki hu p.1 p.2]
 congr 1
 exact zM (P9 _ _)
end
end Kp
end Go.Proofs.YtmbbhdebddbhoaaGreat
