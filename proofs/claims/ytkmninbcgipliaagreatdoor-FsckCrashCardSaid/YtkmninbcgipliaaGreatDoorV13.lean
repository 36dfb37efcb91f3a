/- DepF DepD SweM SweT DepA SweW FckW BrF FckO SweS SweF FckM ChgIn DepS HvS REnt RPut ManE -/
import Derived.Test.YtkmninbcgipliaaGreatDoorV12
import Derived.Laws.EntriesVeiled
set_option maxHeartbeats 16000000
set_option maxRecDepth 100000
set_option linter.all false
namespace Go.Proofs.YtkmninbcgipliaaGreatDoor
open Go.Proofs.Tryz hiding t1 t2
open Go.RowKit
namespace Ch
open Go.Maps
open Av Ag Ar Bt Kp BI Hex BH Al Mem
section
variable {w w':World}{base m:Nat}{L:List (T×M)}{g:T→Value}
theorem Gz.made(w:World)(base:Nat)(g:T→Value)(hb:base≤w.heap.size):Gz (w.alloc (.map #[] 0)) base w.heap.size [] g:=
 ⟨⟨[],List.Perm.nil,G9.made w⟩,by simp,fun x hx=>by simp at hx,hb⟩
theorem Gz.Dl(h:Gz w base m L g){t:TypeId}:¬ Bb w m t:=by
 obtain⟨kv,_,_,D,⟨es,clock,hm,_⟩,_⟩:=h.map;rintro⟨cs,fr,hb⟩;rw[hm] at hb;injection hb with hb
 cases hb
theorem Gz.len(h:Gz w base m L g)(ty:TypeId):(Builtin.len_ #[190] ty #[.map (some m)]).run prog w=.ok (.int .i64 (L.length:Int)) w:=by
 obtain⟨kv,h2,_,D,hown,_,BQ,_⟩:=h.map;rw[hown.len underlying190 ty,BQ,h2.length_eq,BP]
theorem Gz.uK(h:Gz w base m L g){x:T×M}(hx:x∈L)(hn:x.1.length≤maxLen):
  (Instr.lookup 190 (.map (some m)) (.string (bs x.1)) true).run prog w=.ok (.tuple #[.agg #[g x.1],.bool true]) w:=by
 obtain⟨kv,h1,h2⟩:=h.map;rw[h2.aB underlying9 underlying190 (adT w) x.1 hn,aQ (h1.map (·.1) |>.nodup_iff.2 h.WI) h1,(Yz h.WI).2 (Bz.2 ⟨x,hx,rfl⟩)];rfl
theorem Gz.uL(h:Gz w base m L g){t:T}(hx:t∉L.map (·.1))(hn:t.length≤maxLen):
  (Instr.lookup 190 (.map (some m)) (.string (bs t)) true).run prog w=.ok (.tuple #[.agg #[.slice none 0 0],.bool false]) w:=by
 obtain⟨kv,h1,h2⟩:=h.map;have:DU kv t=none:=by
  cases hs:DU kv t with
  |none=>rfl
  |some v=>exact absurd ((Gz.keys h1).mem_iff.1 (Bz.2 ⟨_,vK hs,rfl⟩)) hx
 rw[h2.aB underlying9 underlying190 (adT w) t hn,this];rfl
def putRow(L:List (T×M))(name:T)(l:M):List (T×M):=(name,l) :: L.filter fun x=>!(x.1 == name)
theorem Gz.put(h:Gz w base m L g){name:T}{l:M}{v:Value}(hl:name.length≤maxLen)(hv:BJ w base v l)(J2:L.length < maxLen):
  ∃ w',(Instr.mapUpdate 190 (.map (some m)) (.string (bs name)) (.agg #[v])).run prog w=.ok () w'∧Gz w' base m (Ch.putRow L name l) (fun t=>if t=name then v else g t)∧w.grownBy w' (some m):=by
 obtain⟨kv,h1,h2⟩:=h.map;have Cz:kv.length < maxLen:=by
  have e:kv.length=L.length:=by rw[h1.length_eq,BP]
  rw[e];exact J2
 obtain⟨w',hrun,h3,h4⟩:=h2.update underlying9 underlying190 name hl (.agg #[v]) Cz;have hu:A7 (fun k=>k=m) w w':=A7.of_grownBy (F:=fun k=>k=m) h4 (fun k e=>(GQ e).symm);have NZ:∀ {u:Value} {r:M},BJ w base u r→BJ w' base u r:=fun {u r} hr=>Bv hr hu (fun k hk e=>h.Dl (by rw[←e];exact Cn hr hk))
 refine⟨w',hrun,⟨⟨_,?_,h3⟩,?_,fun x hx=>?_,h.low⟩,h4⟩
 ·unfold Rc Ch.putRow;rw[Ca];simp only[Ad];refine List.Perm.cons _ ((adp h1 name).trans (List.Perm.of_eq ?_));unfold Jb;rw[List.filter_map];refine P8 fun x hx=>?_
  have:x.1≠name:=by
   have:=(FZ.1 hx).2;simpa using this
  rw[Ab this]
 ·unfold Ch.putRow;rw[Ca];refine Js.2 ⟨fun hm=>?_,List.Sublist.nodup (List.Sublist.map (fun x:T×M=>x.1) (List.filter_sublist (p:=fun x:T×M=>!(x.1 == name)) (l:=L))) h.nodup⟩;obtain⟨x,hx,e⟩:=Bz.1 hm;have:=(FZ.1 hx).2;simp[e] at this
 ·unfold Ch.putRow at hx;rcases Cc.1 hx with rfl|hx
  ·simp only[Ad];exact NZ hv
  ·obtain⟨Em,Ec⟩:=FZ.1 hx;have:x.1≠name:=(by simpa using Ec);rw[Ab this];exact NZ (h.row x Em)
end
theorem agG{K:Kind}{A:M}{kt:List T}{L:List (T×M)}(h:Ob K A kt L){k:T}{l:M}(hl:l=J6 K A (kt++[k]) (K.nm k)):Ob K A (kt++[k]) (Ch.putRow L (K.nm k) l):=by
 unfold Ch.putRow;refine⟨Js.2 ⟨fun hm=>?_,List.Sublist.nodup (List.Sublist.map (fun x:T×M=>x.1) (List.filter_sublist (p:=fun x:T×M=>!(x.1 == K.nm k)) (l:=L))) h.nodup⟩,fun t=>?_,fun x hx=>?_⟩
 ·obtain⟨x,hx,e⟩:=Bz.1 hm;have:=(FZ.1 hx).2;simp[e] at this
 ·rw[Ca,Cc,CK,Eh,List.map_singleton,FJ];constructor
  ·rintro(e|e)
   ·exact .inr e
   ·obtain⟨x,hx,e2⟩:=Bz.1 e;exact .inl ((h.names t).1 (by rw[←e2];exact Hu (FZ.1 hx).1))
  ·rintro(e|e)
   ·by_cases ht:t=K.nm k
    ·exact .inl ht
    ·obtain⟨x,hx,e2⟩:=Bz.1 ((h.names t).2 e);refine .inr (Bz.2 ⟨x,FZ.2 ⟨hx,?_⟩,e2⟩);have e2:x.1=t:=e2;simp[e2,ht]
   ·exact .inl e
 ·rcases Cc.1 hx with rfl|hx
  ·exact hl
  ·obtain⟨h1,h2⟩:=FZ.1 hx;have h2:x.1≠K.nm k:=(by simpa using h2);rw[alj _ (fun e=>h2 e.symm)];exact h.rows x h1
theorem ase{K:Kind}{A:M}{kt:List T}{L:List (T×M)}(h:Ob K A kt L){k:T}(hk:K.nm k∉L.map (·.1)):((fileOf K A (K.nm k)).getD []).filter (fun p=>!(p.1 == k))=J6 K A (kt++[k]) (K.nm k):=
 (h.new hk).rows (K.nm k,_) (by simp)
def wN(w:World)(m:Nat)(A:M)(ks:List T)(i:Value)(wr:World):Prop:=
 ∃ (k:Nat) (L:List (T×M)) (g:T→Value),k≤ks.length∧i=.int .i64 (k:Int)∧Gz wr w.heap.size m L g∧Ob Aa A (ks.take k) L∧Bw w wr
theorem arZ{w:World}{p y:Nat}{A:M}{q:Option Addr}{cap:Nat}{ks:List T}{Q:Int→World→Prop}(hm:EN w p y)(hg:Ar.Pb w y A)(PX:Ag.Good A)(hk:Du w q ks)(hl:ks.length≤100000)(ht:There Aa A ks)
  (hf:∀ W,Bw w W→Calls prog 175 #[.pointer (some ⟨y,0,none⟩)] W fun e w'=>e=.returned (.int .i64 0)∧W=w')
  (h0:ks=[]→∀ w',Bw w w'→Q 0 w')
  (hc:∀ W q c,Bw w W→Eb W q (Fj Aa A ks)→Calls prog 17 #[.pointer (some ⟨y,0,none⟩),.slice q (Fj Aa A ks).length c] W fun e w'=>∃ c,e=.returned (.int .i64 c)∧Q c w'):
  Calls prog 73 #[.pointer (some ⟨p,0,none⟩),.slice q ks.length cap] w fun e w'=>∃ c,e=.returned (.int .i64 c)∧Q c w':=by
 have HF:=Hi hf;have H0:=Hi h0;have HC:=Hi hc;have HM:=Hi hm;have HG:=Hi hg;have HK:=Hi hk;have HT:=Hi ht;have xH:=Hi PX;have kY:=hm.lt;clear hf h0 hc hm hg hk ht PX;have Ng:=@run_makeMap prog
 go_in
 go_wp2_with fail;refine(ags (P:=fun W w'=>W=w') HM (HF _ (Ai _ _))).mono ?_;rintro e w1⟨rfl,Kk⟩;subst Kk;go_wp2_with fail;have jX:=AU w (.map #[] 0);have Pp:=Hi (show wN w w.heap.size A ks (.int .i64 0) (w.alloc (.map #[] 0)) from⟨0,[],fun _=>.slice none 0 0,AV _,rfl,Gz.made w w.heap.size _ (Ae _),by rw[Gg];exact Ob.nil,jX⟩);generalize w.alloc (.map #[] 0)=V at*;clear jX
 go_loopw [23] (fun i wr=>wN w w.heap.size A ks i wr) (fun i _=>ks.length -(intOf i).toNat)
 case atStart=>exact Pp.out
 case round=>
  obtain⟨k,L,g,hk,rfl,he,RL,hb⟩:=hrel;have HE:=Hi he;have WY:=Hi RL;have HB:=Hi hb;clear he RL hb Pp;by_cases hlt:k < ks.length
  ·obtain⟨a,Cs,c0⟩:=(HK.below HB).index cap k hlt;have Lr:=Hi (CQ hlt);have Cv:=Hi (Cx hlt);generalize ks[k]=key at*;have Gl:=aBx HT Lr.out;have Ju:=Hi (fun(W:World)=>qf key W (by omega));have EI:(Aa.nm key).length=17:=jl key;go_wp2_with fail;refine(Ju _).mono ?_;rintro e w1⟨rfl,Aj⟩;have Jd:=Hi (HE.below Aj);have HB1:=bH HB Aj;clear Aj;obtain⟨t1,t2,t3⟩:=aBw HT Lr.out;have XF:L.length≤100000:=by
    have:=zN WY.out;rw[AZ] at this;omega
   have ajD:key∈E8 ((fileOf Aa A (Aa.nm key)).getD []):=by
    have h1:=HT key Lr.out;rw[nA] at h1;obtain⟨v,hv⟩:=Lh.1 h1;unfold E8;rw[Ee];exact Bz.2 ⟨_,get_some hv,rfl⟩
   have MP:=Hi ajD;have Je:=Hi t1;have Hf:=Hi t2;clear t1 t2 t3 ajD Cs c0 Ju HB HE;by_cases D6:Aa.nm key∈L.map (·.1)
   case' pos=>
    obtain⟨⟨t,l1⟩,hx,Ho⟩:=Bz.1 D6;have Ho:t=Aa.nm key:=Ho;subst Ho;have NU:=Jd.uK hx (by rw[EI];decide);have Af:=Jd.row _ hx;obtain⟨q1,c1,Nc,Gp,-⟩:=FH Af;rw[Nc] at NU Af;have eB:l1=J6 Aa A (ks.take k) (Aa.nm key):=WY.rows _ hx
    have Vu:=Hi (show Ob Aa A (ks.take (k+1)) (Ch.putRow L (Aa.nm key) (l1.filter fun p=>!(p.1 == key))) from by
     rw[Cv.out];exact agG WY (by rw[eB,acv]))
    have Gm:l1.length≤1000000:=(by rw[eB];exact(alk xH _ _).2.1);have Ce:=AU w1 (.cells #[.slice q1 l1.length c1] 193);have Fz:=Hi (AQ w1 (.cells #[.slice q1 l1.length c1] 193));have Rt:=Hi (Jd.below Ce);have Aq:=bH HB1 Ce;have WU:=Hi (zk (Bf.CX (Cg Af Ce)) Gp Gm key);have Wi:w.heap.size≤w1.heap.size:=HB1.size;clear hx D6 Nc Af Ce WY eB;generalize Aa.nm key=name at*;go_wp2_with fail;obtain⟨wA,TL⟩:=ex (w1.alloc (.cells #[.slice q1 l1.length c1] 193));rw[TL] at Fz Rt Aq WU ⊢;obtain⟨b,OB⟩:=ex (w1.heap.size);rw[OB] at Fz Wi ⊢;clear TL
   case' neg=>
    have NU:=Jd.uL D6 (by rw[EI];decide);have Ce:=AU w1 (.cells #[.slice none 0 0] 193);have yx:=Hi (AQ w1 (.cells #[.slice none 0 0] 193));have YK:=bH HB1 Ce;have xB:=Hi (Jd.below Ce);have FT:=Hi (qh (HM.below YK) (XB HG YK) (Aa.nm key) (by rw[EI];decide));have ZL:=(dx (K:=Aa) (A:=A) (name:=Aa.nm key)).1;unfold Qx at FT;rw[Je.out,Hf.out] at FT
    have Vu:=Hi (show Ob Aa A (ks.take (k+1)) (Ch.putRow L (Aa.nm key) (((fileOf Aa A (Aa.nm key)).getD []).filter fun p=>!(p.1 == key))) from by
     rw[Cv.out];exact agG WY (ase WY D6))
    have Wi:w.heap.size≤w1.heap.size:=HB1.size;clear D6 WY Ce;generalize (fileOf Aa A (Aa.nm key)).getD []=l1 at*;have Gm:l1.length≤1000000:=Aw ZL (by decide);generalize Aa.nm key=name at*;go_wp2_with fail;refine FT.mono ?_;rintro e w2⟨q1,c1,rfl,Af,Gp,Ac⟩;have Ak:=Hi Ac;have Mh:=Hi (agJ (Bf.CX Af) Gp Gm);have VE:=Hi Af;clear Ac Af;go_wp2_with fail;refine Mh.mono ?_;rintro e w3⟨kv,rfl,Cz,Ap⟩;obtain⟨kq,kc,rfl⟩:=Bo Cz;have aEm:=aco l1;have Ql:=Hi (aBq kc (Hr Cz) key (by omega));rw[MM MP.out] at Ql;have Au:=bH Ak Ap;have bM:=Hi (Cg VE Ap);clear Cz Ap;go_wp2_with fail;refine Ql.mono ?_;rintro e w4⟨rfl,AB⟩;have aaP:=Au.trans (AB.mono Au.size);have tL:=(aaP.block _ (Ao yx)).trans yx.out;have abR:=Cg bM AB;have zD:w4.cell? ⟨w1.heap.size,0,none⟩=some (.slice none 0 0):=cr tL;have hf4:=Dt w4 w1.heap.size 0 _ _ tL;have LW:=(A7.refl (fun j=>j=w1.heap.size) w4).setCell (p:=⟨w1.heap.size,0,none⟩) (.inl rfl) (.slice q1 l1.length c1);have Fz:=Hi (Cu w4 w1.heap.size 0 _ _ (.slice q1 l1.length c1) tL);have Wv:=Ay w1 (.cells #[.slice none 0 0] 193);have DT:Bw w1 (w4.setCell ⟨w1.heap.size,0,none⟩ (.slice q1 l1.length c1)):=by
     have h1:Bw w1 w4:=(AU w1 _).trans (aaP.mono (AU w1 _).size);exact h1.setCell (p:=⟨w1.heap.size,0,none⟩) (Ae _) _
    have Rt:=Hi (Jd.below DT);have Aq:=bH HB1 DT
    have akm:=Bv abR LW (fun j hj e=>by
     have:=E9 abR hj;rw[Wv] at this;omega)
    have WU:=Hi (zk (Bf.CX akm) Gp Gm key);clear AB aaP abR LW DT akm Wv FT yx YK xB Ak Au VE bM Mh Ql tL;go_wp2_with fail;obtain⟨wA,TL⟩:=ex (w4.setCell ⟨w1.heap.size,0,none⟩ (.slice q1 l1.length c1));rw[TL] at Fz Rt Aq WU ⊢;obtain⟨b,OB⟩:=ex (w1.heap.size);rw[OB] at Fz Wi ⊢;clear TL zD hf4
   all_goals
    refine WU.mono ?_;rintro e w2⟨v2,rfl,DK,Ac⟩;obtain⟨q2,c2,rfl,-,-⟩:=FH DK;have Wy:=(Ac.block _ (Ao Fz)).trans Fz.out;have cu2:w2.cell? ⟨b,0,none⟩=some (.slice q1 l1.length c1):=cr Wy;have hf2:=Dt w2 b 0 _ _ Wy;have akF:=Cu w2 b 0 _ _ (.slice q2 (l1.filter fun p=>!(p.1 == key)).length c2) Wy;have cu3:(w2.setCell ⟨b,0,none⟩ (.slice q2 (l1.filter fun p=>!(p.1 == key)).length c2)).cell? ⟨b,0,none⟩=some (.slice q2 (l1.filter fun p=>!(p.1 == key)).length c2):=cr akF;have De:=(A7.refl (fun j=>j=b) w2).setCell (p:=⟨b,0,none⟩) (.inl rfl) (.slice q2 (l1.filter fun p=>!(p.1 == key)).length c2);have LK:∀ k,k=b→¬ Bb w2 k 51:=fun k e hb=>by
     obtain⟨cs,fr,hb⟩:=hb;rw[e,Wy] at hb;injection hb with hb
     injection hb with _ hb
     exact absurd hb (by decide)
    have aaQ:=Aq.trans (Ac.mono Aq.size);have aaK:=Rt.below Ac;have aio:Gz (w2.setCell ⟨b,0,none⟩ (.slice q2 (l1.filter fun p=>!(p.1 == key)).length c2)) w.heap.size w.heap.size L g:=by
     have hNB:¬ Bb w2 w.heap.size 193:=aaK.Dl;obtain⟨⟨kv,h1,h2⟩,h3,h4,h6⟩:=aaK;exact⟨⟨kv,h1,h2.upd De (fun e=>hNB (by rw[e];exact⟨_,_,Wy⟩))⟩,h3,fun x hx=>Bv (h4 x hx) De (fun j hj e=>LK j e (Cn (h4 x hx) hj)),h6⟩
    have QS:=Bv (EA DK Aq.size) De (fun j hj e=>LK j e (Cn DK hj));have Ap:=Cy aaQ De (fun i e=>by rw[e];exact Wi) aaQ.size;obtain⟨w9,aEC,hU9,hg9⟩:=aio.put (name:=name) (by rw[EI];decide) QS (by unfold maxLen;omega);have FD:=Ap.grown hg9 Ap.size (fun k e=>Nat.le_of_eq (GQ e));have CF:=Hi (show wN w w.heap.size A ks (.int .i64 ((k:Int)+1)) w9 from⟨k+1,_,_,by omega,by go_num,hU9,Vu,FD⟩);generalize (l1.filter fun p=>!(p.1 == key)).length=n2 at*;clear DK Ac Wy akF De LK aaQ aaK aio QS Ap hU9 hg9 FD;go_wp2;go_roundw
    case rel=>exact CF.out
    case measure=>
     show ks.length -((k:Int)+1).toNat < ks.length -((k:Int)).toNat
     omega
  ·obtain rfl:k=ks.length:=(by omega);have RL:=WY.out;rw[Da] at RL;by_cases hz:ks=[]
   ·subst hz;have hL:L=[]:=by
     have:=zN RL;exact Ld.1 (by simpa using this)
    subst hL;have UT:=HE.len 3;have HQ:=Hi (H0 rfl wr HB);clear RL;go_wp2;go_ret;exact⟨0,rfl,HQ⟩
   ·have hL:L.length≠0:=fun e=>by
     have hL:=Ld.1 e;cases Gl:ks with
     |nil=>exact hz Gl
     |cons x ks'=>
      have:=(RL.names (Aa.nm x)).2 (Hu (by rw[Gl];simp));rw[hL] at this;simp at this
    have XF:L.length≤100000:=Aw (zN RL) hl;obtain⟨e1,e2⟩:=RL.pU xH HT.out
    have Ph:=Hi (agt (Q:=Q) (HM.below HB) HE (fun x hx=>by rw[RL.rows x hx];exact alk xH _ _) (fun x hx=>by
     obtain⟨z,_,hz⟩:=Bz.1 ((RL.names x.1).1 (Hu hx));rw[←hz,jl];decide) XF (fun h=>absurd e2 h) (fun _ W q c hW Zx=>by
     rw[e1] at Zx ⊢;exact HC W q c (bT HB hW) Zx))
    have UT:=HE.len 3;have PY:((L.length:Int) == 0)=false:=FQ.2 (by omega);clear RL e1 e2;go_wp2_with fail;refine Ph.mono ?_;rintro e w9⟨cc,rfl,ZT⟩;go_wp2;go_ret;exact⟨cc,rfl,ZT⟩
end Ch
namespace GV
open Go.Maps
open Av Ag Ar Bt Kp BI Hex BH Al Mem Ch
def ND(w:World)(m:Nat)(c:T→Nat)(n:Nat):Prop:=
 ∃ kv:List (T×Value),G9 prog 9 w m kv∧kv.length≤n∧∀ t,(DU kv t).getD (.agg #[.int .i64 0])=.agg #[.int .i64 (c t:Int)]
theorem axO:(prog.info? 330).map (fun i=>(i.zero,i.size))=some (some (.agg #[.int .i64 0]),1):=by kernel_rfl
theorem axR(w:World):(zeroValue 330).run prog w=.ok (.agg #[.int .i64 0]) w:=(zero_of_info axO).1 w
theorem anj(W:World)(v:Value):(Instr.field 330 (.agg #[v]) 0).run prog W=.ok v W:=by
 simp[Instr.field,Hd underlying330,go_sem,asAgg,Result.andThen]
section
variable {w w':World}{m n:Nat}{c:T→Nat}
theorem ND.made(w:World):ND (w.alloc (.map #[] 0)) w.heap.size (fun _=>0) 0:=⟨[],G9.made w,Ae _,fun t=>rfl⟩
theorem ND.below(h:ND w m c n)(hb:Bw w w'):ND w' m c n:=by
 obtain⟨kv,h1,h2,h3⟩:=h;exact⟨kv,h1.kept (hb.block m h1.lt),h2,h3⟩
theorem ND.get(h:ND w m c n)(t:T)(ht:t.length≤maxLen):(Instr.lookup 293 (.map (some m)) (.string (bs t)) false).run prog w=.ok (.agg #[.int .i64 (c t:Int)]) w:=by
 obtain⟨kv,h1,h2,h3⟩:=h;rw[h1.lookup underlying9 underlying293 (axR w) t ht,h3]
theorem ND.put(h:ND w m c n)(t:T)(ht:t.length≤maxLen)(hn:n < maxLen):∃ w',(Instr.mapUpdate 293 (.map (some m)) (.string (bs t)) (.agg #[.int .i64 ((c t:Int)+1)])).run prog w=.ok () w'∧ND w' m (fun s=>if s=t then c s+1 else c s) (n+1)∧w.grownBy w' (some m):=by
 obtain⟨kv,h1,h2,h3⟩:=h;obtain⟨w',hrun,h4,h5⟩:=h1.update underlying9 underlying293 t ht (.agg #[.int .i64 ((c t:Int)+1)]) (by omega);refine⟨w',hrun,⟨_,h4,?_,fun s=>?_⟩,h5⟩
 ·unfold Rc;rw[BG];have:(Jb t kv).length≤kv.length:=M8 _ _;omega
 ·by_cases e:s=t
  ·subst e;rw[anE]
   show Value.agg #[.int .i64 ((c s:Int)+1)]=Value.agg #[.int .i64 ((if s=s then c s+1 else c s:Nat):Int)]
   rw[Ad rfl];rfl
  ·rw[anD e,h3 s]
   show _=Value.agg #[.int .i64 ((if s=t then c s+1 else c s:Nat):Int)]
   rw[Ab e]
end
theorem atv{w:World}{m n:Nat}{c:T→Nat}(h:ND w m c n)(t:T)(ht:t.length≤1000000):
  Calls prog 216 #[.map (some m),.string (bs t)] w fun e w'=>e=.returned (.bool (decide (c t=0)))∧w=w':=by
 have NU:=h.get t (by unfold maxLen;omega);have ajc:=fun W=>anj W (.int .i64 (c t:Int))
 clear h;generalize c t=k at*
 go_in
 go_wp2;go_ret;refine⟨?_,rfl⟩;by_cases hk:k=0
 ·subst hk;rfl
 ·have:((k:Int) == 0)=false:=FQ.2 (by omega);simp[this,hk]
theorem aAs(p d:Nat)(w:World):Calls prog 212 #[.pointer (some ⟨p,0,none⟩),.pointer (some ⟨d,0,none⟩)] w fun e w'=>e=.returned (.int .i64 0)∧w=w':=by
 go_in
 go_wp2;go_ret;exact⟨rfl,rfl⟩
def afw(w:World)(m n:Nat)(c:T→Nat)(ks:List T)(i:Value)(wr:World):Prop:=
 ∃ k:Nat,k≤ks.length∧i=.int .i64 (k:Int)∧ND wr m (fun t=>c t+(ks.take k).count t) (n+k)∧A7 (fun j=>j=m) w wr
theorem axQ{w:World}{m n:Nat}{c:T→Nat}{q:Option Addr}{cap:Nat}{ks:List T}(h:ND w m c n)(hk:Du w q ks)(Y2:∀ p,q=some p→ks≠[]→p.block≠m)(Gl:∀ t∈ks,t.length≤1000000)(hl:n+ks.length≤100000000)(hc:∀ t,c t≤100000000):
  Calls prog 213 #[.map (some m),.slice q ks.length cap] w fun e w'=>(∃ v,e=.returned v)∧ND w' m (fun t=>c t+ks.count t) (n+ks.length)∧A7 (fun j=>j=m) w w':=by
 have HH:=Hi h;have HK:=Hi hk;have HKM:=Hi Y2;have JW:=Hi Gl;have HC:=Hi hc;clear h hk Y2 Gl hc
 go_in
 go_wp2
 go_loopw [8] (fun i wr=>afw w m n c ks i wr) (fun i _=>ks.length -(intOf i).toNat)
 case atStart=>exact⟨0,AV _,rfl,by simpa using HH.out,A7.refl _ _⟩
 case round=>
  obtain⟨k,Dw,rfl,hm,hu⟩:=hrel;have HU:=Hi hu;have HM:=Hi hm;by_cases hlt:k < ks.length
  ·obtain⟨a,Cs,c0⟩:=(HK.upd hu (fun p hp hne=>HKM p hp hne)).index cap k hlt;have Y1:=JW _ (CQ hlt);have Cv:=Hi (Cx hlt);generalize ks[k]=key at*;have NU:=hm.get key (by unfold maxLen;omega);obtain⟨w3,awg,UU,XV⟩:=hm.put key (by unfold maxLen;omega) (by unfold maxLen;omega);have rP:(ks.take k).count key≤ks.length:=Aw List.count_le_length (by rw[AZ];omega);have Ka:=HC key;obtain⟨x,hx⟩:=ex (c key+(ks.take k).count key);have ajc:=fun W=>anj W (.int .i64 (x:Int))
   have ai:IntKind.i64.wrap ((x:Int)+1)=(x:Int)+1:=ET _ (by omega);simp only[hx] at NU awg
   have CF:=Hi (show afw w m n c ks (.int .i64 ((k:Int)+1)) w3 from⟨k+1,by omega,by go_num,by
    have e:(fun t=>c t+(ks.take (k+1)).count t)=(fun s=>if s=key then(c s+(ks.take k).count s)+1 else c s+(ks.take k).count s):=by
     funext t
     rw[Cv.out,List.count_append];by_cases e:t=key
     ·subst e;rw[Ad rfl];simp;omega
     ·rw[Ab e];have:[key].count t=0:=by
       rw[List.count_eq_zero];simpa using e
      omega
    rw[e];exact UU,HU.trans (A7.of_grownBy (F:=fun j=>j=m) XV (fun j e=>(GQ e).symm)) (fun _ f=>.inl f)⟩)
   clear hm hu UU XV rP Ka;go_wp2;go_roundw
   case rel=>exact CF.out
   case measure=>
    show ks.length -((k:Int)+1).toNat < ks.length -((k:Int)).toNat
    omega
  ·obtain rfl:k=ks.length:=(by omega);have sI:=HM.out;rw[Da] at sI;have HMF:=Hi sI;clear hm hu sI;go_wp2_with fail
   go_end0
   exact⟨⟨_,rfl⟩,HMF,HU⟩
def aec(K:World→Prop)(v:Value)(f:T→Bool):Prop:=
 ∃ F recv JA,v=.func (.func F) recv JA∧(∀ args w,(callFunc F args).run prog w=.ok (.enter F args) w)∧
  ∀ W p,p.length≤1000000→K W→Calls prog F (recv++ #[.string (bs p)]++JA) W fun e W'=>e=.returned (.bool (f p))∧W=W'
def yU(w:World)(f:T→Bool)(ks:List T)(s i:Value)(wr:World):Prop:=
 ∃ (k:Nat) (o:List T) (q:Option Addr) (c:Nat),k≤ks.length∧i=.int .i64 (k:Int)∧s=.slice q o.length c∧Ar.Bq wr w.heap.size (.slice q o.length c) o∧o=(ks.take k).filter f∧Bw w wr
theorem aBy{w:World}{K:World→Prop}{v:Value}{f:T→Bool}{q:Option Addr}{cap:Nat}{ks:List T}(hk:Du w q ks)(hf:aec K v f)(hK:∀ W,Bw w W→K W)(Gl:∀ t∈ks,t.length≤1000000)(hl:ks.length≤1000000):
  Calls prog 215 #[.slice q ks.length cap,v] w fun e w'=>∃ u,e=.returned u∧Ar.Bq w' w.heap.size u (ks.filter f)∧Bw w w':=by
 obtain⟨F,recv,JA,rfl,NQ,K9⟩:=hf;obtain⟨i0,Bl,AY,Ba,Be⟩:=DC TV;have HC:=Hi K9;have HK:=Hi hK;have HT:=Hi hk;have JW:=Hi Gl;clear K9 hK hk Gl
 go_in
 go_wp2
 go_loopw [4,9] (fun s i wr=>yU w f ks s i wr) (fun _ i _=>ks.length -(intOf i).toNat)
 case atStart=>exact⟨0,[],none,0,AV _,rfl,rfl,vw _ _,by simp,Ai _ _⟩
 case round=>
  obtain⟨k,o,qo,co,Dw,rfl,rfl,Af,ho,hb⟩:=hrel;have HB:=Hi hb;have HR:=Hi Af;have HO:=Hi ho;have QQ:o.length≤1000000:=by
   rw[ho];have:=M8 f (ks.take k);rw[AZ] at this;omega
  clear Af ho;by_cases hlt:k < ks.length
  ·obtain⟨a,Cs,c0⟩:=(HT.below hb).index cap k hlt;have hkx:=JW _ (CQ hlt);have Cv:=Hi (Cx hlt);generalize ks[k]=x at*;have EE:=Hi (HC wr x hkx (HK wr hb));have hbs:=hb.size;clear hb;cases dS:f x with
   |false=>
    rw[dS] at EE;have CF:=Hi (show yU w f ks (.slice qo o.length co) (.int .i64 ((k:Int)+1)) wr from⟨k+1,o,qo,co,by omega,by go_num,rfl,HR,by rw[Cv.out,M7,←HO.out];simp[dS],HB⟩);clear dS;go_wp2_with fail;refine EE.mono ?_;rintro e w1⟨rfl,Kk⟩;subst Kk;go_wp2;go_roundw
    case rel=>exact CF.out
    case measure=>
     show ks.length -((k:Int)+1).toNat < ks.length -((k:Int)).toNat
     omega
   |true=>
    rw[dS] at EE;have HOX:=Hi (show o++[x]=(ks.take (k+1)).filter f from by rw[Cv.out,M7,←HO.out];simp[dS]);clear dS;go_wp2_with fail;refine EE.mono ?_;rintro e w1⟨rfl,Kk⟩;subst Kk;go_wp2_with (at_builtin;refine wpList_append_own_at _ rfl _ _ 61 rfl w.heap.size 9 i0 _ 1 16 underlying61 Bl AY Ba Be rfl (by decide) _ o.length _ rfl (HR.alloc _) ⟨wr.heap.size,0,none⟩ 1 1 [.string (bs x)] rfl rfl (by intro j u hj;rw[add_plain,E5];exact(Dy▸hj)) (by simp[Value.oneCell']) (by unfold maxLen;omega) (by omega) (by simp;omega) ?_;intro v' w4 Cb AJ _ hat;obtain⟨g',cap',rfl⟩:=ownsRow_succ Cb;have iV:=Hi Cb;have HG:=Hi AJ;clear Cb AJ hat)
    have CF:=Hi (show yU w f ks (.slice (some ⟨g',0,none⟩) (o.length+1) cap') (.int .i64 ((k:Int)+1)) w4 from⟨k+1,o++[x],some ⟨g',0,none⟩,cap',by omega,by go_num,by rw[AA];rfl,by
     unfold Ar.Bq;rw[AA,show strCells (o++[x])=strCells o++[.string (bs x)] by unfold strCells;rw[CK];rfl];exact iV.out,HOX,(HB.alloc HB.size _).grown HG (by rw[Ay];have:=HB.size;omega) (fun j hj=>E9 HR hj)⟩)
    go_roundw
    case rel=>exact CF.out
    case measure=>
     show ks.length -((k:Int)+1).toNat < ks.length -((k:Int)).toNat
     omega
  ·obtain rfl:k=ks.length:=(by omega);have hof:=HO.out;rw[Da] at hof;subst hof;clear hb;go_wp2;go_ret;exact⟨_,rfl,HR,HB⟩
end GV
namespace Ch
open Go.Maps Go.Shelf
open Av Ag Ar Bt Kp BI Hex BH Al Mem
attribute [local go_sem] O8
attribute [local go_sem ↓] cz
def ER(l:M):List T:=l.flatMap fun p=>(Dp p.2).getD []
theorem axf(l:M)(p:T×T):ER (l++[p])=ER l++(Dp p.2).getD []:=by unfold ER;rw[MJ];simp
def NH(A:M)(ks:List T):List T:=ks.flatMap fun t=>ER ((fileOf Aa A t).getD [])
theorem yY(A:M)(ks:List T)(t:T):NH A (ks++[t])=NH A ks++ER ((fileOf Aa A t).getD []):=by unfold NH;rw[MJ];simp
theorem afG(A:M)(ks:List T):NH A ks=ER (JR Aa A ks):=by
 induction ks using Vi with
 |h0=>rfl
 |h1 ks t ih=>
  rw[yY,mK,ih];unfold ER;rw[MJ]
theorem azC{s:T}:((Dp s).getD []).length≤s.length:=by
 cases h:Dp s with
 |none=>exact AV _
 |some l=>
  have h2:=mG h;unfold GN at h2;split at h2
  ·cases ht:BK l with
   |none=>rw[ht] at h2;cases h2
   |some a=>
    rw[ht] at h2;simp only[EK,Ci] at h2;have h3:l.length≤a.length:=by
     clear h h2
     revert ht
     revert a
     rename_i hx
     clear hx;intro a ht
     induction l generalizing a with
     |nil=>exact AV _
     |cons x l ih=>
      simp only[BK] at ht;cases h1:Eg x with
      |none=>rw[h1] at ht;cases ht
      |some y=>
       cases h4:BK l with
       |none=>rw[h1,h4] at ht;cases ht
       |some z=>
        rw[h1,h4] at ht;simp only[CL,EK,Ci] at ht;subst ht;have:=ih z h4;unfold Eg at h1;split at h1
        ·simp only[Ci] at h1;subst h1;have GK:(A9.le 2 x.length).length=2:=A9.C9 _ _;simp only[AA,BG,GK];omega
        ·cases h1
    rw[←h2]
    show l.length≤_
    rw[AA];omega
  ·cases h2
theorem axe(l:M):(ER l).length≤(l.map fun p=>p.2.length).sum:=by
 induction l with
 |nil=>exact Ae _
 |cons p l ih=>
  show((Dp p.2).getD []++ER l).length≤_
  rw[AA,Ca,DR];have:=@azC p.2;omega
def JU(A:M)(w:World)(oc B:Nat)(ks:List T)(W:World):Prop:=
 ∃ v,Eu 9 61 1 w oc B W (NH A ks).length (strCells (NH A ks)) v∧(ks=[]→v=.slice none 0 0)
theorem acj(A:M)(w:World)(oc:Nat):Xi w oc (JU A w oc) where
 below:=fun B ks W W' ⟨v,h1,h2⟩ hb=>⟨v,h1.below hb,h2⟩
 raise:=fun B B' W ⟨v,h1,h2⟩ hb hs=>by
  have e:=h2 rfl;subst e;have e2:NH A []=[]:=rfl;rw[e2,Sm] at h1;exact⟨_,by rw[e2,Sm];exact Eu.raise h1 hb hs,fun _=>rfl⟩
 put:=fun B ks W k o o' ⟨v,h1,h2⟩ ho hc hk=>⟨v,h1.put ho hc hk,h2⟩
def ae5(w W:World)(oc B:Nat)(q2:Option Addr)(l:M)(acc:List T)(i:Value)(wr:World):Prop:=
 ∃ (k:Nat) (v:Value),k≤l.length∧i=.int .i64 (k:Int)∧Eu 9 61 1 w oc B wr (acc++ER (l.take k)).length (strCells (acc++ER (l.take k))) v∧A7 (fun j=>j=oc∨B≤j) W wr∧KeepsOthers W wr∧Bf wr q2 l∧∀ p,q2=some p→l≠[]→Bb wr p.block 51
theorem axg{w wr V:World}{oc B:Nat}{acc kr:List T}{qv:Option Addr}{cv:Nat}(hO:Eu 9 61 1 w oc B wr acc.length (strCells acc) (.slice qv acc.length cv))(hV:Bw wr V){kq:Option Addr}{kc:Nat}(Cz:Ar.Bq V wr.heap.size (.slice kq kr.length kc) kr)(hlen:acc.length+kr.length≤1000000000):
  ∃ q7 c7 w7,(VQ #[61,61] 61 #[.slice qv acc.length cv,.slice kq kr.length kc]).run prog V=.ok (.slice q7 (acc.length+kr.length) c7) w7∧
   V.cell? ⟨oc,0,none⟩=some (.slice qv acc.length cv)∧w7.cell? ⟨oc,0,none⟩=some (.slice qv acc.length cv)∧w7.frozen? ⟨oc,0,none⟩=false∧
   Eu 9 61 1 w oc B (w7.setCell ⟨oc,0,none⟩ (.slice q7 (acc.length+kr.length) c7)) (acc++kr).length (strCells (acc++kr)) (.slice q7 (acc.length+kr.length) c7)∧
   A7 (fun k=>k=oc∨Bb wr k 9) wr (w7.setCell ⟨oc,0,none⟩ (.slice q7 (acc.length+kr.length) c7))∧A7 (fun k=>k=oc∨B≤k) wr (w7.setCell ⟨oc,0,none⟩ (.slice q7 (acc.length+kr.length) c7))∧
   KeepsOthers wr (w7.setCell ⟨oc,0,none⟩ (.slice q7 (acc.length+kr.length) c7)):=by
 have QG:=hO.below hV;have ek:kq=none→kc=0:=fun e=>by
  rcases Cz.2 with⟨e1,_⟩|⟨g,cap,cur,e1,_⟩
  ·injection e1
  ·rw[e] at e1;injection e1 with e1;cases e1
 obtain⟨v7,w7,QT,LP,Ir⟩:=adz (W:=V) QG.row (Hr Cz) ek (by omega) QG.size;obtain⟨q7,c7,rfl⟩:=Bo LP;have NN:=(Ir.block oc (Ao QG.box) (fun e=>(QG.ne e.symm).1 rfl)).trans QG.box;refine⟨q7,c7,w7,QT,cr QG.box,cr NN,Dt w7 oc 0 _ _ NN,?_,?_,hO.turned hV Ir _,hO.keeps hV Ir _⟩
 ·have dK:=hO.add hV Ir LP;rw[AA,show strCells (acc++kr)=strCells acc++strCells kr by unfold strCells;rw[CK]];exact dK
 ·have h1:A7 (fun k=>k=oc∨Bb wr k 9) wr V:=A7.of_below (F:=fun k=>k=oc∨Bb wr k 9) hV;have h2:A7 (fun k=>k=oc∨Bb wr k 9) V w7:=A7.of_grownBy (F:=fun k=>k=oc∨Bb wr k 9) Ir (fun k e=>.inr (Cn hO.row e));exact(h1.trans h2 (fun _ f=>.inl f)).setCell (p:=⟨oc,0,none⟩) (show(oc=oc∨_)∨_ from .inl (.inl rfl)) _
theorem arX{w:World}{p y:Nat}{A:M}(hm:EN w p y)(hf:He w y A)(hl:(EG Aa A).length≤1000000)(hlu:(ER (EG Aa A)).length≤1000000):
  Calls prog 214 #[.pointer (some ⟨p,0,none⟩)] w fun e w'=>∃ v,e=.returned v∧Ar.Bq w' w.heap.size v (Bi (ER (EG Aa A)))∧Bw w w':=by
 refine(Dr (n:=3)).1 ?_;have NW:prog.follows .mixedOrders=true:=by kernel_rfl
 have HM:=Hi hm;have HF:=Hi hf;have HE:=Hi (vD (K:=Aa) hf.up);have HL:=Hi hl;have HLU:=Hi hlu;clear hm hf hl hlu;refine callsIn_of_wp_marks func214 rfl trivial ?_ rfl;simp only[ntmps214,Jt,BG,Ht,Nat.reduceAdd,Nat.reduceSub,La,Lb,Lf,Lc,Ei,Gt]
 gi_wp2
 have Bg:=AU w (.cells #[.slice none 0 0] 61);have Jn:Eu 9 61 1 w w.heap.size (w.heap.size+1) (w.alloc (.cells #[.slice none 0 0] 61)) 0 [] (.slice none 0 0):=⟨Bg,Ae _,Nat.lt_succ_self _,by rw[Ay];exact Ae _,AQ w _,DZ _ _ _ _⟩;have Pm:=Hi Jn;refine⟨trivial,(Dr.2 (zI p _)).mono ?_⟩;rintro e w2⟨rfl,LX⟩;subst LX
 gi_wp2
 have ED:=Hi (AQ (w.alloc (.cells #[.slice none 0 0] 61)) (.cells #[.pointer (some ⟨p,0,none⟩)] 44));have Ac:=AU (w.alloc (.cells #[.slice none 0 0] 61)) (.cells #[.pointer (some ⟨p,0,none⟩)] 44);have D5:=Hi (Pm.below Ac);have DX:=Hi (Ay w (.cells #[.slice none 0 0] 61));obtain⟨Bx,Iq⟩:=ex ((w.alloc (.cells #[.slice none 0 0] 61)).heap.size);rw[Iq] at ED DX;rw[show w.heap.size+1=Bx from DX.symm];obtain⟨U,hU⟩:=ex ((w.alloc (.cells #[.slice none 0 0] 61)).alloc (.cells #[.pointer (some ⟨p,0,none⟩)] 44));rw[hU] at ED D5 ⊢;clear Bg Ac Jn Pm Iq hU;refine adZ (s:=4) (by omega) (gf:=201) (lb:=#[.pointer (some ⟨Bx,0,none⟩)]) rfl (enters_of func201 (by kernel_rfl) rfl) (e1:=fun x:Gy=>.string (bs x.name)) (e2:=fun x:Gy=>x.row)
  (Ia:=Oa w w.heap.size Bx (.pointer (some ⟨p,0,none⟩)) 44 Aa A (JU A w w.heap.size)) (Iy:=U3 w w.heap.size Bx (.pointer (some ⟨p,0,none⟩)) 44 Aa A (JU A w w.heap.size))
  (fun xs=>jb (acj _ _ _) D5.AO.size xs) (fun xs x=>jd (acj _ _ _) D5.AO.size xs x)
  (zH 2 (by omega) HM HF w.heap.size Bx (acj _ _ _) U) (.inl ⟨rfl,D5.AO,Ae _,by have:=DX.out;omega,ED,w.heap.size+1,D5.size,.slice none 0 0,by rw[show NH A []=[] from rfl,Sm];exact D5.out,fun _=>rfl⟩)
  ?assign ?body ?done
 case assign=>
  intro l x W K hK;simp only[np] at hK ⊢
  gi_wp2
  exact hK
 case body=>
  intro l2 pre x W hy;obtain⟨hS,hG,hT,⟨v,hO,-⟩,⟨q2,c2,FN,hP,DJ,hPB⟩⟩:=hy;have IK:=(dx (K:=Aa) (A:=A) (name:=x.name));have HO:=Hi hO;have HS:=Hi hS;have HG:=Hi hG;have HT:=Hi hT;have HP:=Hi hP;have Uh:=Hi hPB;have Rz:=Hi IK.2;have hlen:=IK.1;simp only[np];rw[FN];clear hP DJ FN hO hS hG hT hPB IK;generalize kH:(fileOf Aa A x.name).getD []=fr at*
  gi_wp2
  obtain⟨acc,jT⟩:=ex (NH A (pre.map (·.name)));have aoV:=Hi jT
  have HLN:=Hi (show acc.length+(ER fr).length≤1000000 from by
   obtain⟨ts,J3⟩:=HT.out;have h1:=afG A (Ic Aa A);rw[HE.out] at h1;have h2:(NH A (Ic Aa A)).length≤1000000:=(by rw[h1];exact HLU.out);rw[←J3,show pre.map (·.name)++x.name :: ts=(pre.map (·.name)++[x.name])++ts by simp] at h2;unfold NH at h2;rw[MJ,AA] at h2;have h3:=yY A (pre.map (·.name)) x.name;unfold NH at h3;rw[h3,AA] at h2;unfold NH at jT;rw[jT,kH] at h2;omega)
  rw[jT] at HO;have HFR:=Hi kH;have RV:W.heap.size=W.heap.size:=rfl;obtain⟨W0,hW0⟩:∃ W0,W0=W:=⟨_,rfl⟩;clear kH jT RV
  gi_loopw [13] (fun i wr=>ae5 w W w.heap.size x.B q2 fr acc i wr) (fun i _=>fr.length -(intOf i).toNat)
  case atStart=>exact⟨0,v,AV _,rfl,by rw[Gg,show ER []=[] from rfl,Ea];exact HO.out,A7.refl _ _,KeepsOthers.refl _,HP,Uh⟩
  case round=>
   obtain⟨k,v1,Dw,rfl,h1,h2,h3,h4,h5⟩:=hrel;have H1:=Hi h1;have H2:=Hi h2;have H3:=Hi h3;have H4:=Hi h4;have H5:=Hi h5;clear h2 h3 h5;by_cases hlt:k < fr.length
   ·obtain⟨a,Cs,ha,-⟩:=h4.index c2 k hlt;have c0:=ha.key;have c1:=ha.val;have tJ:=(Rz _ (CQ hlt)).2;have Cv:=Hi (show ER (fr.take (k+1))=ER (fr.take k)++(Dp fr[k].2).getD [] from by rw[Cx hlt,axf])
    have nX:=Hi (show acc.length+(ER (fr.take k)).length+((Dp fr[k].2).getD []).length≤1000000 from by
     have h6:ER fr=ER (fr.take (k+1))++ER (fr.drop (k+1)):=by
      unfold ER;rw[←MJ,MK]
     have h7:=HLN.out;rw[h6,Cv.out,AA,AA] at h7;omega)
    generalize fr[k]=pr at*;have bD:=Hi (fun(V:World)=>agB pr V tJ);generalize Cz:(Dp pr.2).getD []=kr at*;generalize dJ:acc++ER (fr.take k)=ac at*;have bf:=Hi dJ;have aDP:ac.length+kr.length≤1000000:=(by rw[←dJ,AA];exact nX.out);obtain⟨qv,cv,rfl⟩:=Bo h1.row;have Ce:=AU wr (.cells #[.string (bs pr.1),.string (bs pr.2)] 51);have cb:wr.cell? ⟨w.heap.size,0,none⟩=some (.slice qv ac.length cv):=cr h1.box;have LK:=AQ wr (.cells #[.string (bs pr.1),.string (bs pr.2)] 51);have abV:=Ay wr (.cells #[.string (bs pr.1),.string (bs pr.2)] 51);clear h1 h4 ha dJ Cz
    gi_wp2
    have Aq:=Hi Ce;have zq:(wr.alloc (.cells #[.string (bs pr.1),.string (bs pr.2)] 51)).cell? ⟨wr.heap.size,0,none⟩=some (.string (bs pr.1)):=cr LK;have zt:(wr.alloc (.cells #[.string (bs pr.1),.string (bs pr.2)] 51)).cell? ⟨wr.heap.size,1,none⟩=some (.string (bs pr.2)):=cr LK;have cbo:(wr.alloc (.cells #[.string (bs pr.1),.string (bs pr.2)] 51)).cell? ⟨w.heap.size,0,none⟩=some (.slice qv ac.length cv):=(Ce.cell (p:=⟨w.heap.size,0,none⟩) (Cr cb)).trans cb;obtain⟨V,hV⟩:=ex (wr.alloc (.cells #[.string (bs pr.1),.string (bs pr.2)] 51));rw[hV] at Aq zq zt cbo abV ⊢;obtain⟨b,hb⟩:=ex (wr.heap.size);have Ry:=Hi hb;have HSA:=Hi abV;rw[hb] at zq zt ⊢;clear LK abV Ce hV hb c0 c1 cb Cs;have wV:=Hi (fun(V2:World) (Oz:Bw wr V2) (kq:Option Addr) (kc:Nat) (Cz:Ar.Bq V2 wr.heap.size (.slice kq kr.length kc) kr)=>axg H1 Oz Cz (by omega));have aDs:V.drew.cell? ⟨w.heap.size,0,none⟩=some (.slice qv ac.length cv):=cbo;have aDp:V.drew.cell? ⟨b,0,none⟩=some (.string (bs pr.1)):=zq;have aDq:V.drew.cell? ⟨b,1,none⟩=some (.string (bs pr.2)):=zt
    gi_region_with_o (refine⟨trivial,(CallsIn.inRound l2 ((Dr (n:=0)).2 (bD _))).mono ?_⟩;rintro e w4 ⟨kv,rfl,Cz,AB⟩;obtain⟨kq,kc,rfl⟩:=Bo Cz;have BF:Bw wr w4:=(by first|exact Aq.trans (AB.mono Aq.size)|exact Aq.trans ((Ai _ V).drew.trans (AB.mono (Ae _)) |>.mono Aq.size));obtain⟨q7,c7,w7,QT,Mr,XN,ZA,LP,fq,tN,kM⟩:=wV w4 BF kq kc (EA Cz (by first|exact Aq.size|(rw[World.size_drew];exact Aq.size)));have HO7:=Hi LP;have bO:=Hi fq;have HV7:=Hi tN;have Ru:=Hi kM;clear LP fq tN kM Cz AB BF;gi_wp2)
    all_goals
     have CF:=Hi (show ae5 w W w.heap.size x.B q2 fr acc (.int .i64 ((k:Int)+1)) (w7.setCell ⟨w.heap.size,0,none⟩ (.slice q7 (ac.length+kr.length) c7)) from
      ⟨k+1,_,by omega,by go_num,by rw[Cv.out,←Dz,bf.out];exact HO7.out,H2.trans HV7 (fun _ f=>.inl f),H3.trans Ru.out,H4.upd bO (fun p e hne=>fun f=>by
       rcases f with f|⟨cs,fr,f⟩
       ·obtain⟨cs,fr,hb⟩:=H5 p e hne;rw[f,H1.box] at hb;injection hb with hb
        injection hb with _ hb
        exact absurd hb (by decide)
       ·obtain⟨cs2,fr2,hb⟩:=H5 p e hne;rw[hb] at f;injection f with f
        injection f with _ f
        exact absurd f (by decide)),fun p e hne=>by
       obtain⟨cs,fr,hb⟩:=H5 p e hne;refine⟨cs,fr,(bO.block _ (Ao hb) (fun f=>?_)).trans hb⟩;rcases f with f|⟨cs2,fr2,f⟩
       ·rw[f,H1.box] at hb;injection hb with hb
        injection hb with _ hb
        exact absurd hb (by decide)
       ·rw[hb] at f;injection f with f
        injection f with _ f
        exact absurd f (by decide)⟩)
     gi_wp2
     go_roundw
     case rel=>exact CF.out
     case measure=>
      show fr.length -((k:Int)+1).toNat < fr.length -((k:Int)).toNat
      omega
   ·obtain rfl:k=fr.length:=(by omega);have Di:=Hi (show Oa w w.heap.size Bx (.pointer (some ⟨p,0,none⟩)) 44 Aa A (JU A w w.heap.size) (pre++[x]) wr from je HS HG HT H2 ⟨v1,by rw[yY,aoV.out,HFR.out];have:=H1.out;rw[Gu (Ae _)] at this;exact this,fun e=>by simp at e⟩);clear h1 h4
    gi_wp2
    exact⟨H3,Di⟩
 case done=>
  intro D xs W hD hS hI Dv;obtain⟨B,v,hO,-⟩:=jc hI;rw[hS] at hO;obtain⟨q,c,rfl⟩:=Bo hO.row;have Po:=Hi (show NH A (Ic Aa A)=ER (EG Aa A) from by rw[afG,HE.out]);have hRl:(NH A (Ic Aa A)).length≤1000000:=by rw[Po.out];exact HLU.out
  have EZ:=Hi (zM (w:=W) (base:=B) hO.row hRl);have HO:=Hi hO;have SN:=Hi Dv;have HD:=Hi (show w.heap.size≤D from Aw (Aw (Nat.le_succ _) D5.size) hD);generalize NH A (Ic Aa A)=R at*;have cb:W.cell? ⟨w.heap.size,0,none⟩=some (.slice q R.length c):=cr hO.box;clear hS hI Dv hD hO
  gi_wp2
  refine⟨trivial,(Dr.2 EZ).mono ?_⟩;rintro e w5⟨rv,rfl,FX,BF⟩;obtain⟨rq,rc,rfl⟩:=Bo FX;have Tm:=(BF.block _ (Ao HO.box)).trans HO.box;have c5:w5.cell? ⟨w.heap.size,0,none⟩=some (.slice q R.length c):=cr Tm;have hf5:=Dt w5 w.heap.size 0 _ _ Tm;have Tx:=(BF.block D (Dq.1 SN).1).trans SN.out;have Kj:=(A7.refl (fun k=>k=w.heap.size) w5).setCell (p:=⟨w.heap.size,0,none⟩) (.inl rfl) (.slice rq (Bi R).length rc);have Tn:=Cu w5 w.heap.size 0 _ _ (.slice rq (Bi R).length rc) Tm
  have IW:=Hi ((Kj.block D (Dq.1 Tx).1 (fun e=>by
   rw[e,Tm] at Tx;cases Tx)).trans Tx)
  have kV:=HO.lt
  have Kh:=Bv (EA FX HO.AO.size) Kj (fun k hk e=>by
   have h1:=E9 FX hk;have h2:=Ao HO.box;omega)
  have EC:=Hi ((HO.AO.trans (BF.mono HO.AO.size)).setCell (p:=⟨w.heap.size,0,none⟩) (Ae _) (.slice rq (Bi R).length rc));have Hy:=Hi Kh
  have Vr:=Hi (show((w5.setCell ⟨w.heap.size,0,none⟩ (.slice rq (Bi R).length rc)).putObj D (.deferred none)).cell? ⟨w.heap.size,0,none⟩=some (.slice rq (Bi R).length rc) from by
   rw[BL _ _ _ _ _ _ (Si Tn IW rfl)];rfl)
  clear FX BF Tm Tx Kj Tn Kh
  gi_wp2
  refine⟨by simp,.inl ⟨_,_,rfl,run_takeDeferred IW,?_⟩⟩;have hu:A7 (fun i=>i=D) (w5.setCell ⟨w.heap.size,0,none⟩ (.slice rq (Bi R).length rc)) ((w5.setCell ⟨w.heap.size,0,none⟩ (.slice rq (Bi R).length rc)).putObj D (.deferred none)):=A7.of_grownBy (F:=fun i=>i=D) (grownBy_putObj' _ D (.deferred none)) (fun i e=>by cases e;rfl);refine⟨_,(by simp[results,results214,go_sem,Vr.out]),.slice rq (Bi R).length rc,rfl,?_,Cy EC hu (fun i e=>by rw[e];exact HD.out) EC.size⟩;rw[←Po.out]
  exact Bv Hy hu (fun k hk e=>by
   obtain⟨cs,fz,h2⟩:=Cn Hy hk;rw[e,IW.out] at h2;cases h2)
end Ch
namespace GV
open Go.Maps
open Av Ag Ar Bt Kp BI Hex BH Al Mem Ch
structure Oc(A:M):Prop where
 fJ:(EG Ah A).length≤1000000
 ji:(EG Aa A).length≤1000000
 keys:(ER (EG Aa A)).length≤1000000
 alS:∀ t∈Bn Ah A,t.length≤100000
 agI:∀ t∈Bn Aa A,t.length≤100000
 aoc:∀ t∈ER (EG Aa A),t.length≤100000
def mk(A:M)(roots rs:List T):List T:=(rs.filter fun r=>decide (r∈roots)).flatMap fun r=>(LC A r).1
theorem alR(A:M)(roots rs:List T)(r:T):mk A roots (rs++[r])=mk A roots rs++if r∈roots then(LC A r).1 else[]:=by
 unfold mk;rw[M7,MJ]
 congr 1
 by_cases h:r∈roots
 ·rw[Ad h];simp[h]
 ·rw[Ab h];simp[h]
theorem aCf{K:Kind}{A:M}{k v:T}(h:Cq K A k=some v):(fileOf K A (K.nm k)).isSome=true:=by
 unfold Cq at h;cases hf:fileOf K A (K.nm k) with
 |none=>rw[hf] at h;cases h
 |some l=>rfl
theorem dB{A:M}(hu:Up A){r:T}(h:r∈Bn Aa A):(LC A r).1=Ko both A r:=by
 have h1:=(Sd GD hu r).1 h;obtain⟨v,hv⟩:=Lh.1 h1;unfold LC;rw[Ab (fun e=>by rw[aCf hv] at e;exact absurd e.2 (by decide))];unfold Ko dV;have JK:Cq both.d A r=some v:=hv;rw[hv,JK];rfl
theorem ay7{A:M}(hu:Up A)(roots:List T):∀ t∈mk A roots (Bn Aa A),t∈ER (EG Aa A):=fun t ht=>by
 unfold mk at ht;obtain⟨r,hr,ht⟩:=Nv.1 ht;have h1:=(FZ.1 hr).1;obtain⟨v,hv⟩:=Lh.1 ((Sd GD hu r).1 h1);have h2:=(fI GD hu r v).2 hv;unfold ER;refine Nv.2 ⟨(r,v),h2,?_⟩;rw[dB hu h1] at ht;unfold Ko dV at ht;have JK:Cq both.d A r=some v:=hv;rw[JK] at ht;exact ht
theorem aR{α:Type}{a b:List α}(h:a.Sublist b)(f:α→Nat):(a.map f).sum≤(b.map f).sum:=by
 induction h with
 |slnil=>exact Ae _
 |cons x _ ih=>rw[Ca,DR];omega
 |cons_cons x _ ih=>rw[Ca,DR,Ca,DR];omega
theorem ay6{A:M}(hu:Up A)(roots:List T)(k:Nat):(mk A roots ((Bn Aa A).take k)).length≤(ER (EG Aa A)).length:=by
 have h0:(mk A roots ((Bn Aa A).take k)).length≤(((Bn Aa A)).map fun r=>(LC A r).1.length).sum:=by
  unfold mk;rw[List.length_flatMap];refine Aw (aR (List.filter_sublist) _) (aR (List.take_sublist _ _) _)
 refine Aw h0 (Nat.le_of_eq ?_);have hp:(Bn Aa A).Perm ((EG Aa A).map (·.1)):=by
  refine(List.perm_ext_iff_of_nodup (WM _) (zU hu)).2 fun t=>?_
  exact Ee _ _
 rw[(hp.map fun r=>(LC A r).1.length).sum_nat,Kq];unfold ER;rw[List.length_flatMap]
 congr 1
 refine P8 fun p hp=>?_
 have hv:=(fI GD hu p.1 p.2).1 hp
 show(LC A p.1).1.length=_
 have hm:p.1∈Bn Aa A:=(Sd GD hu p.1).2 (by rw[hv];rfl);rw[dB hu hm];unfold Ko dV;have JK:Cq both.d A p.1=some p.2:=hv;rw[JK];rfl
theorem atu(m n:Nat)(c:T→Nat):aec (fun W=>ND W m c n) (.func (.func 216) #[.map (some m)] #[]) (fun t=>decide (c t=0)):=
 ⟨_,_,_,rfl,enters_of func216 (by kernel_rfl) rfl,fun W t ht h=>atv h t ht⟩
theorem azZ{w:World}{base n c:Nat}{p:Addr}{l:List T}(h:Ar.Bq w base (.slice (some p) n c) l):base≤p.block:=by
 rcases h.2 with⟨e1,_⟩|⟨g,cap',cur,e1,h1,_⟩
 ·injection e1 with e1;cases e1
 ·have e2:p=⟨g,0,none⟩:=by injection e1 with e1;injection e1
  subst e2;exact E9 h rfl
theorem aC3{A:M}(hu:Up A)(t:T):t∈Bi (ER (EG Aa A))↔Used both A t:=by
 rw[Ee];unfold Used ER;rw[Nv];constructor
 ·rintro⟨p,hp,ht⟩;have hv:=(fI GD hu p.1 p.2).1 hp;refine⟨p.1,(Sd GD hu p.1).2 (by rw[hv];rfl),?_⟩;unfold Ko dV;have JK:Cq both.d A p.1=some p.2:=hv;rw[JK];exact ht
 ·rintro⟨r,hr,ht⟩;obtain⟨v,hv⟩:=Lh.1 ((Sd GD hu r).1 hr);refine⟨(r,v),(fI GD hu r v).2 hv,?_⟩;unfold Ko dV at ht;have JK:Cq both.d A r=some v:=hv;rw[JK] at ht;exact ht
theorem axJ{w:World}{pm pd y:Nat}{A:M}(hm:Gi w pm y)(hd:EN w pd y)(hf:He w y A)(Es:Oc A):
  Calls prog 153 #[.pointer (some ⟨pm,0,none⟩),.pointer (some ⟨pd,0,none⟩)] w fun e w'=>∃ v,e=.returned (.tuple #[v,.int .i64 0])∧Ar.Bq w' w.heap.size v (R8 both A)∧Bw w w':=by
 have HM:=Hi hm;have HD:=Hi hd;have HF:=Hi hf;have Nz:=Hi Es;have Ng:=@run_makeMap prog;clear hm hd hf Es
 go_in
 go_wp2_with fail;refine(aAs _ _ _).mono ?_;rintro e w1⟨rfl,Kk⟩;subst Kk;go_wp2_with fail;have Ce:=AU w (.map #[] 0);have AR:=Hi Ce;have Qt:=Hi (ND.made w);have Fb:=Hi (arX (HD.below Ce) (HF.below Ce) Nz.ji Nz.keys);have BQ:=Ay w (.map #[] 0);have DX:=Hi BQ;clear Ce BQ;refine Fb.mono ?_;rintro e w2⟨v2,rfl,Ni,Ac⟩;obtain⟨rq,rc,rfl⟩:=Bo Ni;have Ak:=bH AR Ac;have apG:=Hi (Qt.below Ac);have RB:=Hi (aC3 (A:=A) HF.up);have afo:=Hi (show(Bi (ER (EG Aa A))).length≤1000000 from Aw (Vh _) Nz.keys);have afm:=Hi (show ∀ t∈Bi (ER (EG Aa A)),t.length≤1000000 from fun t ht=>Aw (Nz.aoc t ((Ee _ _).1 ht)) (by decide))
 have aej:=Hi (show ∀ p,rq=some p→Bi (ER (EG Aa A))≠[]→p.block≠w.heap.size from fun p e hne f=>by
  subst e;have h1:=azZ Ni;have h2:=DX.out;omega)
 obtain⟨us,FM⟩:=ex (Bi (ER (EG Aa A)));rw[FM] at Ni RB afo afm aej ⊢;have apB:=Hi (axQ (cap:=rc) apG (Hr Ni) aej afm (by have:=afo.out;omega) (fun t=>AV _));clear Ni Ac Fb Qt FM;go_wp2_with fail;refine apB.mono ?_;rintro e w3⟨⟨v3,rfl⟩,sJ,De⟩;have Au:=Hi (Cy Ak De (fun i e=>Nat.le_of_eq e.symm) Ak.size);have HK:=Hi (alT (HM.below Au) (HF.below Au) Nz.fJ);have KD:=Hi (show(Bn Ah A).length≤1000000 from by rw[av (K:=Ah) HF.up];exact Nz.fJ);have e1:(fun t=>0+us.count t)=fun t=>us.count t:=by funext t;rw[Ha]
 rw[e1] at sJ;obtain⟨n9,hn9⟩:=ex (0+us.length);rw[hn9] at sJ;have apH:=Hi sJ
 have WZ:=Hi (show(Bn Ah A).filter (fun t=>decide (us.count t=0))=R8 both A from by
  unfold R8;refine List.filter_congr fun t _=>?_
  rw[decide_eq_decide,List.count_eq_zero];exact not_congr (RB t))
 have Ou:=Hi (atu w.heap.size n9 (fun t=>us.count t));clear sJ De hn9 e1;go_wp2_with fail;refine HK.mono ?_;rintro e w4⟨kv,rfl,Cz,AB⟩;obtain⟨kq,kc,rfl⟩:=Bo Cz;have AX:=bH Au AB;have ajT:=apH.below AB;have bN:=Hi (aBy (cap:=kc) (Hr Cz) Ou (fun W hW=>ajT.below hW) (fun t ht=>Aw (Nz.alS t ht) (by decide)) KD.out);rw[WZ.out] at bN;clear AB Cz ajT;go_wp2_with fail;refine bN.mono ?_;rintro e w5⟨u,rfl,Kg,BF⟩;obtain⟨uq,uc,rfl⟩:=Bo Kg;have KH:=Hi (EA Kg AX.size);have CZ:=bH AX BF;clear Kg BF;go_wp2;go_ret2;exact⟨_,rfl,KH,CZ⟩
end GV
namespace EX
open Go.Maps
open Av Ag Ar Bt Kp BI Hex BH Al Mem Ch GV
variable {w:World}{pm pd y:Nat}{A:M}
theorem pG{ops:Array Oper}{rest:List Oper}{o:Oper}{a:Act}{Q:Exit→Act→World→Prop}(PX:o.guard=none)(s x:Operand)
  (ho:o.op=.call { callee:=.builtin .append,args:=#[s,x],argTypes:=#[58,58] }){wr:World}{base n:Nat}{v:Value}{cs:List Value}(hs:a.eval s=v)(Af:wr.ownsRow base 23 3 v n cs)(hb:base≤wr.heap.size)(hn:n≤1000000)
  {k:Int}{x1 x2:ByteArray}(hx:a.eval x=.slice (some ⟨wr.heap.size,0,none⟩) 1 1)
  (h:∀ g' cap' w1,w1.ownsRow base 23 3 (.slice (some ⟨g',0,none⟩) (n+1) cap') (n+1) (cs++[.int .u8 k,.string x1,.string x2])→(wr.alloc (.cells #[.int .u8 k,.string x1,.string x2] 23)).grownBy w1 v.ownBlock→wpList prog ops Q rest (a.put o.dst (.slice (some ⟨g',0,none⟩) (n+1) cap')) w1):
  wpList prog ops Q (o :: rest) a (wr.alloc (.cells #[.int .u8 k,.string x1,.string x2] 23)):=by
 obtain⟨i0,Bl,AY,Ba,Be⟩:=DC ag0;refine wpList_append_own_at _ PX s x 58 ho base 23 i0 _ 3 40 underlying58 Bl AY Ba Be rfl (by decide) v n cs hs (Af.alloc _) ⟨wr.heap.size,0,none⟩ 1 1 [.int .u8 k,.string x1,.string x2] hx rfl (by intro j u hj;rw[add_plain,E5];exact(Dy▸hj)) (by simp[Value.oneCell']) (by unfold maxLen;omega) (by omega) (by rw[Ay];omega) ?_;intro v' w1 hown AJ _ _;obtain⟨g',cap',rfl⟩:=ownsRow_succ hown;exact h g' cap' w1 hown AJ
def Fg(pm pd:Nat):Obj:=.cells #[.pointer (some ⟨pm,0,none⟩),.pointer (some ⟨pd,0,none⟩)] 131
theorem pV(w:World)(pm pd:Nat):(w.alloc (Fg pm pd)).cell? ⟨w.heap.size,0,none⟩=some (.pointer (some ⟨pm,0,none⟩))∧(w.alloc (Fg pm pd)).cell? ⟨w.heap.size,1,none⟩=some (.pointer (some ⟨pd,0,none⟩)):=by
 have h:=AQ w (Fg pm pd);have e:Fg pm pd=.cells #[.pointer (some ⟨pm,0,none⟩),.pointer (some ⟨pd,0,none⟩)] 131:=rfl;rw[e] at h ⊢;exact⟨cr h,cr h⟩
theorem cK(K:Kind)(A:M):(CR K A).length≤A.length:=by
 unfold CR;rw[BP];exact M8 _ _
theorem zb{w0 wr:World}{N:List T}{f:T→Nat×T×T}{q:Option Addr}{c:Nat}(Bg:Bw w w0)(h:wr.ownsRow w0.heap.size 23 3 (.slice q N.length c) N.length (GA ((N.take N.length).map f)))(hb:Bw w0 wr):
  ∃ v,Ending.returned (.slice q N.length c)=.returned v∧Ma wr w.heap.size v (N.map f)∧Bw w wr:=by
 rw[Da] at h;refine⟨_,rfl,?_,Bg.trans (hb.mono Bg.size)⟩
 show wr.ownsRow _ _ _ _ (N.map f).length _
 rw[BP];exact EA h Bg.size
theorem axZ(hm:Gi w pm y)(hf:He w y A):
  Calls prog 66 #[.agg #[.pointer (some ⟨pm,0,none⟩),.pointer (some ⟨pd,0,none⟩)]] w fun e w'=>∃ v,e=.returned v∧Ma w' w.heap.size v ((CR Ah A).map fun x=>(1,x,[]))∧Bw w w':=by
 have Bg:=AU w (Fg pm pd);have AR:=Hi Bg;have Od:=Hi (axU (hm.below Bg) (hf.below Bg));have EI:(CR Ah A).length≤1000000:=Aw (cK _ _) hf.len;obtain⟨w0,Gc⟩:=ex (w.alloc (Fg pm pd));have c0:w0.cell? ⟨w.heap.size,0,none⟩=some (.pointer (some ⟨pm,0,none⟩)):=by rw[←Gc];exact(pV w pm pd).1
 rw[Gc] at AR Od;clear hm hf Bg;generalize CR Ah A=N at*
 go_in
 unfold Fg at Gc;go_wp2_with fail;refine Od.mono ?_;rintro e w2⟨v,rfl,Af,Ac⟩;obtain⟨q,c,rfl⟩:=Bo Af;have BX:=Hi Af;have Ak:=Hi Ac;clear Af Ac Od c0 Gc;go_wp2
 go_loopw [2,9] (fun s i wr=>nO w0 (.slice q N.length c) N (fun x=>(1,x,[])) s i wr) (fun _ i _=>N.length -(intOf i).toNat)
 case atStart=>exact⟨0,none,0,AV _,rfl,rfl,by rw[Gg,Kr,jg];exact DZ _ _ _ _,Ak,BX⟩
 case round=>
  obtain⟨k,cq,cc,hk,rfl,rfl,Af,hb,Gn⟩:=hrel;have Ck:=Hi Af;have HB:=Hi hb;by_cases hlt:k < N.length
  ·obtain⟨a,Cs,c0⟩:=(Hr (c:=c) Gn).index c k hlt;have MQ:=Hi (fun(g' cap':Nat) (w1:World) hg ho=>ze (w:=w0) (nv:=.slice q N.length c) (ov:=.slice cq k cc) (f:=fun x=>(1,x,[])) (q':=some ⟨g',0,none⟩) (cap':=cap') (w1:=w1) hlt hb Af (AU wr (.cells #[.int .u8 1,.string (bs (N[k]'hlt)),.string (bs [])] 23)) hg ho Gn);generalize N[k]=t at*;clear Af hb Gn;go_wp2_with (at_builtin;refine pG rfl _ _ rfl rfl Ck.out HB.out.size (by omega) rfl ?_;intro g' cap' w1 hown AJ;have CF:=Hi (MQ g' cap' w1 AJ hown);clear hown AJ);go_roundw
   case rel=>exact CF.out
   case measure=>
    show N.length -((k:Int)+1).toNat < N.length -((k:Int)).toNat
    omega
  ·obtain rfl:k=N.length:=(by omega);clear Af hb Gn;go_wp2;go_ret;exact zb AR Ck HB.out
theorem aCe(hm:EN w pd y)(hf:He w y A):
  Calls prog 67 #[.agg #[.pointer (some ⟨pm,0,none⟩),.pointer (some ⟨pd,0,none⟩)]] w fun e w'=>∃ v,e=.returned v∧Ma w' w.heap.size v ((CR Aa A).map fun x=>(2,x,[]))∧Bw w w':=by
 have Bg:=AU w (Fg pm pd);have AR:=Hi Bg;have Od:=Hi (arY (hm.below Bg) (hf.below Bg));have EI:(CR Aa A).length≤1000000:=Aw (cK _ _) hf.len;obtain⟨w0,Gc⟩:=ex (w.alloc (Fg pm pd));have c0:w0.cell? ⟨w.heap.size,1,none⟩=some (.pointer (some ⟨pd,0,none⟩)):=by rw[←Gc];exact(pV w pm pd).2
 rw[Gc] at AR Od;clear hm hf Bg;generalize CR Aa A=N at*
 go_in
 unfold Fg at Gc;go_wp2_with fail;refine Od.mono ?_;rintro e w2⟨v,rfl,Af,Ac⟩;obtain⟨q,c,rfl⟩:=Bo Af;have BX:=Hi Af;have Ak:=Hi Ac;clear Af Ac Od c0 Gc;go_wp2
 go_loopw [2,9] (fun s i wr=>nO w0 (.slice q N.length c) N (fun x=>(2,x,[])) s i wr) (fun _ i _=>N.length -(intOf i).toNat)
 case atStart=>exact⟨0,none,0,AV _,rfl,rfl,by rw[Gg,Kr,jg];exact DZ _ _ _ _,Ak,BX⟩
 case round=>
  obtain⟨k,cq,cc,hk,rfl,rfl,Af,hb,Gn⟩:=hrel;have Ck:=Hi Af;have HB:=Hi hb;by_cases hlt:k < N.length
  ·obtain⟨a,Cs,c0⟩:=(Hr (c:=c) Gn).index c k hlt;have MQ:=Hi (fun(g' cap':Nat) (w1:World) hg ho=>ze (w:=w0) (nv:=.slice q N.length c) (ov:=.slice cq k cc) (f:=fun x=>(2,x,[])) (q':=some ⟨g',0,none⟩) (cap':=cap') (w1:=w1) hlt hb Af (AU wr (.cells #[.int .u8 2,.string (bs (N[k]'hlt)),.string (bs [])] 23)) hg ho Gn);generalize N[k]=t at*;clear Af hb Gn;go_wp2_with (at_builtin;refine pG rfl _ _ rfl rfl Ck.out HB.out.size (by omega) rfl ?_;intro g' cap' w1 hown AJ;have CF:=Hi (MQ g' cap' w1 AJ hown);clear hown AJ);go_roundw
   case rel=>exact CF.out
   case measure=>
    show N.length -((k:Int)+1).toNat < N.length -((k:Int)).toNat
    omega
  ·obtain rfl:k=N.length:=(by omega);clear Af hb Gn;go_wp2;go_ret;exact zb AR Ck HB.out
theorem als{A:M}(hu:Up A)(h:Oc A):(R8 both A).length≤1000000:=by
 unfold R8;refine Aw (M8 _ _) ?_
 show(Bn Ah A).length≤_
 rw[av (K:=Ah) hu];exact h.fJ
theorem atb(hm:Gi w pm y)(hd:EN w pd y)(hf:He w y A)(Es:Oc A):
  Calls prog 69 #[.agg #[.pointer (some ⟨pm,0,none⟩),.pointer (some ⟨pd,0,none⟩)]] w fun e w'=>∃ v,e=.returned v∧Ma w' w.heap.size v ((R8 both A).map fun x=>(4,[],x))∧Bw w w':=by
 have Bg:=AU w (Fg pm pd);have AR:=Hi Bg;have Od:=Hi (axJ (hm.below Bg) (hd.below Bg) (hf.below Bg) Es);have EI:(R8 both A).length≤1000000:=als hf.up Es;obtain⟨w0,Gc⟩:=ex (w.alloc (Fg pm pd));have c0:w0.cell? ⟨w.heap.size,0,none⟩=some (.pointer (some ⟨pm,0,none⟩)):=by rw[←Gc];exact(pV w pm pd).1
 have c1:w0.cell? ⟨w.heap.size,1,none⟩=some (.pointer (some ⟨pd,0,none⟩)):=by rw[←Gc];exact(pV w pm pd).2
 rw[Gc] at AR Od;clear hm hd hf Bg Es;generalize R8 both A=N at*
 go_in
 unfold Fg at Gc;go_wp2_with fail;refine Od.mono ?_;rintro e w2⟨v,rfl,Af,Ac⟩;obtain⟨q,c,rfl⟩:=Bo Af;have BX:=Hi Af;have Ak:=Hi Ac;clear Af Ac Od c0 c1 Gc;go_wp2
 go_loopw [2,17] (fun s i wr=>nO w0 (.slice q N.length c) N (fun x=>(4,[],x)) s i wr) (fun _ i _=>N.length -(intOf i).toNat)
 case atStart=>exact⟨0,none,0,AV _,rfl,rfl,by rw[Gg,Kr,jg];exact DZ _ _ _ _,Ak,BX⟩
 case round=>
  obtain⟨k,cq,cc,hk,rfl,rfl,Af,hb,Gn⟩:=hrel;have Ck:=Hi Af;have HB:=Hi hb;by_cases hlt:k < N.length
  ·obtain⟨a,Cs,c0⟩:=(Hr (c:=c) Gn).index c k hlt;have MQ:=Hi (fun(g' cap':Nat) (w1:World) hg ho=>ze (w:=w0) (nv:=.slice q N.length c) (ov:=.slice cq k cc) (f:=fun x=>(4,[],x)) (q':=some ⟨g',0,none⟩) (cap':=cap') (w1:=w1) hlt hb Af (AU wr (.cells #[.int .u8 4,.string (bs []),.string (bs (N[k]'hlt))] 23)) hg ho Gn);generalize N[k]=t at*;clear Af hb Gn;go_wp2_with (at_builtin;refine pG rfl _ _ rfl rfl Ck.out HB.out.size (by omega) rfl ?_;intro g' cap' w1 hown AJ;have CF:=Hi (MQ g' cap' w1 AJ hown);clear hown AJ);go_roundw
   case rel=>exact CF.out
   case measure=>
    show N.length -((k:Int)+1).toNat < N.length -((k:Int)).toNat
    omega
  ·obtain rfl:k=N.length:=(by omega);clear Af hb Gn;go_wp2;go_ret;exact zb AR Ck HB.out
def WQ(A:M)(r:T):List (Nat×T×T):=((Ko both A r).filter fun k=>(mV both A k).isNone).map fun k=>(3,r,k)
def Rj(A:M)(rs:List T):List (Nat×T×T):=rs.flatMap (WQ A)
theorem ae0(A:M)(rs:List T)(r:T):Rj A (rs++[r])=Rj A rs++WQ A r:=by unfold Rj;rw[MJ];simp
theorem aoJ(A:M):Rj A (Bn Aa A)=(Nu both A).map fun p=>(3,p.1,p.2):=by
 unfold Rj Nu;rw[List.map_flatMap]
 congr 1
 funext r
 unfold WQ;rw[Kq];rfl
theorem aoK{A:M}(hu:Up A){k:Nat}(hk:k < (Bn Aa A).length):(Rj A ((Bn Aa A).take k)).length+(Ko both A (Bn Aa A)[k]).length≤(ER (EG Aa A)).length:=by
 have h1:=ay6 hu (Bn Aa A) (k+1);have h2:∀ rs:List T,(∀ r∈rs,r∈Bn Aa A)→(Rj A rs).length≤(mk A (Bn Aa A) rs).length:=by
  intro rs
  induction rs using ads with
  |h0=>intro _;exact AV _
  |h1 rs r ih=>
   intro h;have ih:=ih fun x hx=>h x (U2 _ hx)
   have hr:=h r (List.mem_append_right _ (by simp));rw[ae0,alR,Ad hr,AA,AA,dB hu hr];have:(WQ A r).length≤(Ko both A r).length:=by
    unfold WQ;rw[BP];exact M8 _ _
   omega
 have h3:=h2 ((Bn Aa A).take k) (fun r hr=>List.mem_of_mem_take hr);rw[Cx hk,alR,Ad (CQ hk),AA,dB hu (CQ hk)] at h1;omega
theorem auR(A:M)(k:T):(NJ Ah A k).2.1=(mV both A k).isSome:=by
 unfold NJ;split
 ·rename_i h
  have:fileOf Ah A (Ah.nm k)=none:=by
   cases hf:fileOf Ah A (Ah.nm k) with
   |none=>rfl
   |some l=>rw[hf] at h;exact absurd h.2 (by simp)
  show false=(Cq Ah A k).isSome
  unfold Cq;rw[this];rfl
 ·show _=(Cq Ah A k).isSome
  cases Cq Ah A k<;>rfl
theorem aC1{A:M}(hu:Up A)(Es:Oc A){r:T}(hr:r∈Bn Aa A):∀ t∈Ko both A r,t.length≤100000:=fun t ht=>by
 refine Es.aoc t (ay7 hu (Bn Aa A) t ?_);unfold mk;exact Nv.2 ⟨r,FZ.2 ⟨hr,by simpa using hr⟩,by rw[dB hu hr];exact ht⟩
def afE(w0:World)(A:M)(rv:Value)(s i:Value)(wr:World):Prop:=
 ∃ (k n:Nat) (q:Option Addr) (c:Nat),k≤(Bn Aa A).length∧n=(Rj A ((Bn Aa A).take k)).length∧i=.int .i64 (k:Int)∧s=.slice q n c∧wr.ownsRow w0.heap.size 23 3 (.slice q n c) n (GA (Rj A ((Bn Aa A).take k)))∧Bw w0 wr∧Ar.Bq wr w0.heap.size rv (Bn Aa A)
def yV(w0:World)(A:M)(r:T)(L0:List (Nat×T×T))(rv kv:Value)(R K:List T)(s i:Value)(wr:World):Prop:=
 ∃ (k n:Nat) (q:Option Addr) (c:Nat),k≤K.length∧n=(L0++((K.take k).filter fun t=>(mV both A t).isNone).map fun t=>(3,r,t)).length∧i=.int .i64 (k:Int)∧s=.slice q n c∧wr.ownsRow w0.heap.size 23 3 (.slice q n c) n (GA (L0++((K.take k).filter fun t=>(mV both A t).isNone).map fun t=>(3,r,t)))∧Bw w0 wr∧Ar.Bq wr w0.heap.size rv R∧Ar.Bq wr w0.heap.size kv K
theorem asX{K:List T}{f:T→Bool}{k:Nat}(hk:k < K.length):(K.take (k+1)).filter f=(K.take k).filter f++if f K[k]=true then[K[k]] else[]:=uG hk
theorem aCy(hm:Gi w pm y)(hd:EN w pd y)(hf:He w y A)(Es:Oc A):
  Calls prog 68 #[.agg #[.pointer (some ⟨pm,0,none⟩),.pointer (some ⟨pd,0,none⟩)]] w fun e w'=>∃ v,e=.returned v∧Ma w' w.heap.size v ((Nu both A).map fun p=>(3,p.1,p.2))∧Bw w w':=by
 have Bg:=AU w (Fg pm pd);have AR:=Hi Bg;have ym:=Hi (agK (hd.below Bg) (hf.below Bg) Es.ji);have Nz:=Hi Es;have EM:=Hi hf.up;have HWA:=Hi (aoJ A);have Lp:=Hi (fun(W:World) (hW:Below (w.alloc (Fg pm pd)).heap.size (w.alloc (Fg pm pd)) W) (r:T) (hr:r.length≤1000000)=>agx ((hd.below Bg).below hW) (((hf.below Bg).below hW).gets) r hr);have aeC:=Hi (fun(W:World) (hW:Below (w.alloc (Fg pm pd)).heap.size (w.alloc (Fg pm pd)) W) (k:T) (hk:k.length≤1000000)=>ay5 ((hm.below Bg).below hW) (((hf.below Bg).below hW).gets) k hk)
 have HC:=Hi (fun(W:World) (hW:Below (w.alloc (Fg pm pd)).heap.size (w.alloc (Fg pm pd)) W)=>show W.cell? ⟨w.heap.size,0,none⟩=some (.pointer (some ⟨pm,0,none⟩))∧W.cell? ⟨w.heap.size,1,none⟩=some (.pointer (some ⟨pd,0,none⟩)) from by
  have h:=(hW.block w.heap.size (by rw[Ay];omega)).trans (AQ w (Fg pm pd));unfold Fg at h;exact⟨cr h,cr h⟩)
 have Wq:(Bn Aa A).length≤1000000:=by rw[av (K:=Aa) hf.up];exact Es.ji
 obtain⟨w0,Gc⟩:=ex (w.alloc (Fg pm pd));rw[Gc] at AR ym Lp aeC HC;obtain⟨c0,c1⟩:=HC _ (Ai _ _);clear hm hd hf Bg Es
 go_in
 unfold Fg at Gc;go_wp2_with fail;refine ym.mono ?_;rintro e w2⟨v,rfl,Af,Ac⟩;obtain⟨q,c,rfl⟩:=Bo Af;have BX:=Hi Af;have Ak:=Hi Ac;clear Af Ac ym c0 c1 Gc;go_wp2
 go_loopw [2,14] (fun s i wr=>afE w0 A (.slice q (Bn Aa A).length c) s i wr) (fun _ i _=>(Bn Aa A).length -(intOf i).toNat)
 case atStart=>exact⟨0,0,none,0,AV _,rfl,rfl,rfl,by rw[Gg,show Rj A []=[] from rfl,jg];exact DZ _ _ _ _,Ak,BX⟩
 case round=>
  obtain⟨k,n,cq,cc,hk,hn,rfl,rfl,Af,hb,Gn⟩:=hrel;have Ck:=Hi Af;have HB:=Hi hb;have Oi:=Hi Gn;have HN:=Hi hn;by_cases hlt:k < (Bn Aa A).length
  ·obtain⟨a,Cs,e0⟩:=(Hr (c:=c) Gn).index c k hlt;have NV:=CQ hlt;have NA:=Hi (aoK EM hlt);have Il:=Hi (Nz.agI _ NV);have HUK:=Hi (aC1 EM Nz NV);have Di:=Hi (show Rj A ((Bn Aa A).take (k+1))=Rj A ((Bn Aa A).take k)++WQ A (Bn Aa A)[k] from by rw[Cx hlt,ae0]);have X3:=Hi (dB EM NV);obtain⟨d0,d1⟩:=HC _ hb;have HG:=Hi (Lp _ hb (Bn Aa A)[k] (by have:=Il.out;omega));rw[X3.out] at HG;generalize (Bn Aa A)[k]=run at*;clear Af hb Gn hn NV X3;go_wp2_with fail;refine HG.mono ?_;rintro e w3⟨kv,rfl,Cz,Ap⟩;obtain⟨K,hK⟩:=ex (Ko both A run);have HW:=Hi (show WQ A run=(K.filter fun t=>(mV both A t).isNone).map fun t=>(3,run,t) from by rw[←hK];rfl);rw[hK] at Cz NA HUK;obtain⟨kq,kc,rfl⟩:=Bo Cz;obtain⟨L0,hL0⟩:=ex (Rj A ((Bn Aa A).take k));rw[hL0] at Ck HN NA Di;have Ls:=Hi (EA Cz HB.size);have Au:=bH HB Ap;have Pq:=Hi (Cg Ck Ap);have xY:=Hi (Cg Oi Ap);obtain⟨R,hR⟩:=ex (Bn Aa A);rw[hR] at xY;have Po:=Hi hR
   have iU:=Hi (show n≤1000000∧L0.length+K.length≤1000000 from by
    have h1:=HN.out;have h2:=NA.out;have h3:=Nz.keys;omega)
   clear hK hL0 Ap Cz HG hR Ck Oi d0 d1 e0 Cs;generalize (LC A run).2.1=g1;generalize (LC A run).2.2=g2;go_wp2_with fail;have Y3:K.length≤1000000:=by have:=iU.2;omega
   go_loopw [2,28] (fun s i wr=>yV w0 A run L0 (.slice q R.length c) (.slice kq K.length kc) R K s i wr) (fun _ i _=>K.length -(intOf i).toNat)
   case atStart=>exact⟨0,n,cq,cc,AV _,by simpa using HN.out,rfl,rfl,by simpa using Pq.out,Au,xY,Ls⟩
   case round=>
    obtain⟨j,m,sq,sc,hj,hm,rfl,rfl,Af,hb,Gn,Cz⟩:=hrel;clear Pq xY Ls Au;have Ck:=Hi Af;have HB:=Hi hb;have Oi:=Hi Gn;have Ls:=Hi Cz;have EH:m≤1000000:=by
     have h1:=iU.2;have h2:=M8 (fun t=>(mV both A t).isNone) (K.take j);have h3:=List.length_take_le j K;rw[hm,AA,BP];omega
    have HM:=Hi hm;by_cases abm:j < K.length
    ·obtain⟨a,Cs,e0⟩:=(Hr (c:=kc) Cz).index kc j abm;have Cv:=Hi (asX (f:=fun t=>(mV both A t).isNone) abm);have Dw:=HUK _ (CQ abm);have HH:=Hi (aeC _ hb K[j] (by omega));rw[auR] at HH;obtain⟨d0,d1⟩:=HC _ hb;generalize K[j]=key at*;cases hv:(mV both A key).isSome with
     |true=>
      rw[hv] at HH
      have HS:=Hi (show(K.take (j+1)).filter (fun t=>(mV both A t).isNone)=(K.take j).filter (fun t=>(mV both A t).isNone) from by
       rw[Cv.out,Ab (by rw[Option.isNone_iff_eq_none];intro e;rw[e] at hv;cases hv),Ea])
      clear Af hb Gn Cz hm Cv Dw hv;go_wp2_with fail;refine HH.mono ?_;rintro e w4⟨rfl,AB⟩;have AX:=bH HB AB;have CF:=Hi (show yV w0 A run L0 (.slice q R.length c) (.slice kq K.length kc) R K (.slice sq m sc) (.int .i64 ((j:Int)+1)) w4 from⟨j+1,m,sq,sc,by omega,by rw[HS.out];exact HM.out,by go_num,rfl,by rw[HS.out];exact Cg Ck AB,AX,Cg Oi AB,Cg Ls AB⟩);clear AB;go_wp2;go_roundw
      case rel=>exact CF.out
      case measure=>
       show K.length -((j:Int)+1).toNat < K.length -((j:Int)).toNat
       omega
     |false=>
      rw[hv] at HH
      have HS:=Hi (show L0++((K.take (j+1)).filter (fun t=>(mV both A t).isNone)).map (fun t=>(3,run,t))=(L0++((K.take j).filter (fun t=>(mV both A t).isNone)).map (fun t=>(3,run,t)))++[(3,run,key)] from by
       rw[Cv.out,Ad (by rw[Option.isNone_iff_eq_none];cases hm:mV both A key with|none=>rfl|some v=>rw[hm] at hv;cases hv),CK,Dz];rfl)
      clear Af hb Gn Cz hm Cv Dw hv;go_wp2_with fail;refine HH.mono ?_;rintro e w4⟨rfl,AB⟩;have AX:=bH HB AB;have Xa:=Hi (Cg Ck AB);have apQ:=Hi (Cg Oi AB);have xO:=Hi (Cg Ls AB);clear AB;go_wp2_with (at_builtin;refine pG rfl _ _ rfl rfl Xa.out AX.out.size EH rfl ?_;intro g' cap' w5 hown AJ;have iV:=Hi hown;have X0:=Hi AJ;clear hown AJ);have Ce:=AU w4 (.cells #[.int .u8 3,.string (bs run),.string (bs key)] 23)
      have CF:=Hi (show yV w0 A run L0 (.slice q R.length c) (.slice kq K.length kc) R K (.slice (some ⟨g',0,none⟩) (m+1) cap') (.int .i64 ((j:Int)+1)) w5 from⟨j+1,m+1,some ⟨g',0,none⟩,cap',by omega,by rw[HS.out,AA,←HM.out];rfl,by go_num,rfl,by rw[HS.out,afZ];exact iV.out,
       (bT AX Ce).grown X0 (Aw AX.size Ce.size) (fun j hj=>E9 Xa hj),adE (Cg apQ Ce) (Cg Xa Ce) X0,adE (Cg xO Ce) (Cg Xa Ce) X0⟩)
      clear Ce;go_roundw
      case rel=>exact CF.out
      case measure=>
       show K.length -((j:Int)+1).toNat < K.length -((j:Int)).toNat
       omega
    ·obtain rfl:j=K.length:=(by omega);rw[Da] at Af hm;rw[←HW.out,←Di.out] at Af hm
     have CF:=Hi (show afE w0 A (.slice q (Bn Aa A).length c) (.slice sq m sc) (.int .i64 ((k:Int)+1)) wr from by
      refine⟨k+1,m,sq,sc,by omega,hm,by go_num,rfl,Af,hb,?_⟩;rw[Po.out];exact Gn)
     clear Af hb Gn Cz hm;go_wp2;go_roundw
     case rel=>exact CF.out
     case measure=>
      show(Bn Aa A).length -((k:Int)+1).toNat < (Bn Aa A).length -((k:Int)).toNat
      omega
  ·obtain rfl:k=(Bn Aa A).length:=(by omega);rw[Da,HWA.out] at Af hn
   have Ep:=Hi (show Ma wr w.heap.size (.slice cq n cc) ((Nu both A).map fun p=>(3,p.1,p.2)) from by
    show wr.ownsRow _ _ _ _ _ _
    rw[←hn];exact EA Af AR.size)
   clear Af hb Gn hn;go_wp2;go_ret;exact⟨_,rfl,Ep,AR.trans (HB.mono AR.size)⟩
end EX
namespace EX
open Go.Maps
open Av Ag Ar Bt Kp BI Hex BH Al Mem Ch
def wP(K:World→Prop)(v:Value)(f:Nat×T×T→Bool):Prop:=
 ∃ F recv JA,v=.func (.func F) recv JA∧(∀ args w,(callFunc F args).run prog w=.ok (.enter F args) w)∧
  ∀ W p,K W→Calls prog F (recv++ #[.agg #[.int .u8 (p.1:Int),.string (bs p.2.1),.string (bs p.2.2)]]++JA) W fun e W'=>e=.returned (.bool (f p))∧Bw W W'
def Va(f:Nat×T×T→Bool)(l:List (Nat×T×T)):Int:=match l.findIdx? f with
 |some i=>(i:Int)
 |none=> -1
theorem awL{f:Nat×T×T→Bool}{l:List (Nat×T×T)}{k:Nat}(hk:k < l.length)(h:f l[k]=true)(hn:∀ j (hj:j < k),f (l[j]'(by omega))=false):Va f l=(k:Int):=by
 have:l.findIdx? f=some k:=List.findIdx?_eq_some_iff_getElem.2 ⟨hk,h,fun j hj=>by rw[hn j hj];decide⟩;unfold Va;rw[this]
theorem awK{f:Nat×T×T→Bool}{l:List (Nat×T×T)}(hn:∀ j (hj:j < l.length),f l[j]=false):Va f l= -1:=by
 have:l.findIdx? f=none:=List.findIdx?_eq_none_iff.2 fun x hx=>by
  obtain⟨i,hi,rfl⟩:=Sy hx;exact hn i hi
 unfold Va;rw[this]
theorem awJ(f:Nat×T×T→Bool)(l:List (Nat×T×T)):decide (0≤Va f l)=l.any f:=by
 unfold Va;cases h:l.findIdx? f with
 |none=>
  have:=List.findIdx?_eq_none_iff.1 h;have e:l.any f=false:=by simpa using this
  rw[e];rfl
 |some i=>
  obtain⟨hi,h1,_⟩:=List.findIdx?_eq_some_iff_getElem.1 h;have e:l.any f=true:=List.any_eq_true.2 ⟨_,CQ hi,h1⟩;rw[e];simp
theorem aqV{w:World}{K:World→Prop}{v:Value}{f:Nat×T×T→Bool}{a:Option Addr}{l:List (Nat×T×T)}(cap:Nat)(hl:Lj w a l)(hf:wP K v f)(hK:∀ W,Bw w W→K W)(hlen:l.length≤1000000000):
  Calls prog 126 #[.slice a l.length cap,v] w fun e w'=>e=.returned (.int .i64 (Va f l))∧Bw w w':=by
 obtain⟨F,recv,JA,rfl,NQ,K9⟩:=hf;have HL:=Hi hl;have HC:=Hi K9;have HK:=Hi hK;clear hl K9 hK
 go_in
 go_wp2
 go_loopw [5,8] (fun _ i wr=>∃ k:Nat,k≤l.length∧i=.int .i64 k∧Bw w wr∧∀ j (hj:j < k),(h:j < l.length)→f l[j]=false) (fun _ i _=>l.length -(intOf i).toNat)
 case atStart=>exact⟨0,AV _,rfl,Ai _ _,fun j hj=>by omega⟩
 case round=>
  obtain⟨k,hk,rfl,hb,D9⟩:=hrel;have DW:=Hi D9;have HB:=Hi hb;clear D9;by_cases hlt:k < l.length
  ·obtain⟨q,Cs,hq,-⟩:=(HL.below hb).index cap k hlt;obtain⟨c0,c1,c2⟩:=hq.cells;have BN:=HC wr l[k] (HK wr hb);have SL:=Hi (show f l[k]=true→Va f l=(k:Int) from fun h=>awL hlt h (fun j hj=>DW j hj (by omega)))
   have Di:=Hi (show f l[k]=false→∀ j (hj:j < k+1),(h:j < l.length)→f l[j]=false from fun h j hj h'=>by
    by_cases e:j=k
    ·subst e;exact h
    ·exact DW j (by omega) h')
   generalize l[k]=x at*;have EE:=Hi BN;clear BN hq hb;go_wp2_with fail;refine EE.mono ?_;rintro e w1⟨rfl,Aj⟩;have HB1:=bH HB Aj;generalize f x=s at*;clear Aj;cases s with
   |true=>
    have iL:=Hi (SL rfl);clear SL Di;go_wp2;go_ret;exact⟨by rw[iL.out];rfl,HB1⟩
   |false=>
    have HN:=Hi (Di rfl);clear SL Di;go_wp2;go_roundw
    case rel=>exact⟨k+1,by omega,by go_num,HB1,HN⟩
    case measure=>simp[intOf];omega
  ·obtain rfl:k=l.length:=(by omega);have HN:=Hi (show Va f l= -1 from awK (fun j hj=>DW j hj hj));clear hb;go_wp2;go_ret;exact⟨by rw[HN.out];rfl,HB⟩
theorem aqT{w:World}{K:World→Prop}{v:Value}{f:Nat×T×T→Bool}{a:Option Addr}{l:List (Nat×T×T)}(cap:Nat)(hl:Lj w a l)(hf:wP K v f)(hK:∀ W,Bw w W→K W)(hlen:l.length≤1000000000):
  Calls prog 48 #[.slice a l.length cap,v] w fun e w'=>e=.returned (.bool (l.any f))∧Bw w w':=by
 have HI:=Hi (aqV cap hl hf hK hlen);have HE:=Hi (awJ f l);clear hl hf hK;generalize Va f l=i at*
 go_in
 go_wp2_with fail;refine HI.mono ?_;rintro e w1⟨rfl,hb⟩;have HB:=Hi hb;clear hb;go_wp2;go_ret;exact⟨by rw[←HE.out];rfl,HB⟩
theorem aAW(p:Nat×T×T)(w:World):Calls prog 49 #[.agg #[.int .u8 (p.1:Int),.string (bs p.2.1),.string (bs p.2.2)]] w fun e w'=>e=.returned (.bool (p.1 != 4))∧Bw w w':=by
 have hk:((p.1:Int) != 4)=(p.1 != 4):=by
  by_cases h:p.1=4
  ·rw[h];rfl
  ·have h2:¬ (p.1:Int)=4:=(by omega);rw[bne_iff_ne.2 h,bne_iff_ne.2 h2]
 obtain⟨k,x,y⟩:=p;have HB:=Hi (AU w (.cells #[.int .u8 (k:Int),.string (bs x),.string (bs y)] 23))
 go_in
 go_wp2;go_ret;exact⟨by rw[←hk];rfl,HB⟩
theorem aAV:wP (fun _=>True) (.func (.func 49) #[] #[]) (fun p=>p.1 != 4):=
 ⟨_,_,_,rfl,enters_of func49 (by kernel_rfl) rfl,fun W p _=>aAW p W⟩
end EX
namespace EX
open Go.Maps
open Av Ag Ar Bt Kp BI Hex BH Al Mem Ch GV
attribute [local go_sem ↓] cz
variable {w:World}{pm pd y:Nat}{A:M}
def VS(pm pd:Nat):Value:=.agg #[.pointer (some ⟨pm,0,none⟩),.pointer (some ⟨pd,0,none⟩)]
def findF:Nat→Nat
 |0=>66
 |1=>67
 |2=>68
 |_=>69
def Vg(A:M):Nat→List (Nat×T×T)
 |0=>(CR Ah A).map fun x=>(1,x,[])
 |1=>(CR Aa A).map fun x=>(2,x,[])
 |2=>(Nu both A).map fun p=>(3,p.1,p.2)
 |_=>(R8 both A).map fun x=>(4,[],x)
def upTo(A:M):Nat→List (Nat×T×T)
 |0=>[]
 |j+1=>upTo A j++Vg A j
theorem aoj(A:M):upTo A 4=N7 both A:=by
 show((([]++_)++_)++_)++_=_
 rw[Ei];rfl
theorem asY(j:Nat):∀ args w,(callFunc (findF j) args).run prog w=.ok (.enter (findF j) args) w:=by
 match j with
 |0=>exact enters_of func66 (by kernel_rfl) rfl
 |1=>exact enters_of func67 (by kernel_rfl) rfl
 |2=>exact enters_of func68 (by kernel_rfl) rfl
 |j+3=>exact enters_of func69 (by kernel_rfl) rfl
theorem at0(j:Nat)(hm:Gi w pm y)(hd:EN w pd y)(hf:He w y A)(Es:Oc A):
  Calls prog (findF j) #[VS pm pd] w fun e w'=>∃ v,e=.returned v∧Ma w' w.heap.size v (Vg A j)∧Bw w w':=by
 match j with
 |0=>exact axZ hm hf
 |1=>exact aCe hd hf
 |2=>exact aCy hm hd hf Es
 |j+3=>exact atb hm hd hf Es
theorem aoy{A:M}(hu:Up A)(Es:Oc A):(Nu both A).length≤1000000:=by
 have h:=congrArg List.length (aoJ A);rw[BP] at h;rw[←h];cases hl:(Bn Aa A).length with
 |zero=>rw[Ld.1 hl];exact AV _
 |succ n=>
  have hk:n < (Bn Aa A).length:=by omega
  have h1:=aoK hu hk;have h2:Bn Aa A=(Bn Aa A).take n++[(Bn Aa A)[n]]:=by
   rw[←Cx hk,Gu (by omega)]
  rw[h2,ae0,AA];have h3:(WQ A (Bn Aa A)[n]).length≤(Ko both A (Bn Aa A)[n]).length:=by
   unfold WQ;rw[BP];exact M8 _ _
  have:=Es.keys;omega
theorem aml{A:M}(hf:He w y A)(Es:Oc A)(j:Nat):(Vg A j).length≤1000000:=by
 match j with
 |0=>exact(by rw[show(Vg A 0).length=(CR Ah A).length from BP ..];exact Aw (cK _ _) hf.len)
 |1=>exact(by rw[show(Vg A 1).length=(CR Aa A).length from BP ..];exact Aw (cK _ _) hf.len)
 |2=>exact(by rw[show(Vg A 2).length=(Nu both A).length from BP ..];exact aoy hf.up Es)
 |j+3=>exact(by rw[show(Vg A (j+3)).length=(R8 both A).length from BP ..];exact als hf.up Es)
theorem vY{A:M}(hf:He w y A)(Es:Oc A)(j:Nat):(upTo A j).length≤j*1000000:=by
 induction j with
 |zero=>exact AV _
 |succ j ih=>
  have:=aml hf Es j
  show(upTo A j++Vg A j).length≤_
  rw[AA];omega
def afy(w0:World)(A:M)(s i:Value)(wr:World):Prop:=
 ∃ (j n:Nat) (q:Option Addr) (c:Nat),j≤4∧n=(upTo A j).length∧i=.int .i64 (j:Int)∧s=.slice q n c∧wr.ownsRow w0.heap.size 23 3 (.slice q n c) n (GA (upTo A j))∧Bw w0 wr
def lookO(pm pd:Nat):Obj:=.cells #[.func (.func 66) #[VS pm pd] #[],.func (.func 67) #[VS pm pd] #[],.func (.func 68) #[VS pm pd] #[],.func (.func 69) #[VS pm pd] #[]] 134
theorem acJ(hm:Gi w pm y)(hd:EN w pd y)(hf:He w y A)(Es:Oc A):
  Calls prog 18 #[.pointer (some ⟨pm,0,none⟩),.pointer (some ⟨pd,0,none⟩)] w fun e w'=>∃ v,e=.returned (.tuple #[v,.int .i64 0])∧Ma w' w.heap.size v (N7 both A)∧Bw w w':=by
 have sI:∀ (fn:Fn) (first cap:Array Value) (w:World),(Instr.makeFunc fn first cap).run prog w=.ok (.func fn first cap) w:=fun _ _ _ _=>rfl
 have Bg:=(AU w (Fg pm pd)).trans ((AU (w.alloc (Fg pm pd)) (lookO pm pd)).mono (AU w (Fg pm pd)).size);have AR:=Hi Bg;have U9:=Hi (fun(j:Nat) (W:World) (hW:Below ((w.alloc (Fg pm pd)).alloc (lookO pm pd)).heap.size ((w.alloc (Fg pm pd)).alloc (lookO pm pd)) W)=>at0 j (hm.below (bT Bg hW)) (hd.below (bT Bg hW)) (hf.below (bT Bg hW)) Es);have Ps:=Hi (fun j=>vY hf Es j);have KG:=Hi (fun j=>aml hf Es j)
 have HC:=Hi (fun(W:World) (hW:Below ((w.alloc (Fg pm pd)).alloc (lookO pm pd)).heap.size ((w.alloc (Fg pm pd)).alloc (lookO pm pd)) W) (j:Nat) (hj:j < 4)=>show W.cell? ⟨w.heap.size+1,j,none⟩=some (.func (.func (findF j)) #[VS pm pd] #[]) from by
  have h:=(hW.block (w.alloc (Fg pm pd)).heap.size (by rw[Ay (w.alloc (Fg pm pd))];omega)).trans (AQ (w.alloc (Fg pm pd)) (lookO pm pd));rw[Ay] at h;unfold lookO at h;rw[BL _ _ _ _ _ _ h]
  match j,hj with
  |0,_=>rfl
  |1,_=>rfl
  |2,_=>rfl
  |3,_=>rfl)
 obtain⟨w0,Gc⟩:=ex ((w.alloc (Fg pm pd)).alloc (lookO pm pd));rw[Gc] at AR U9 HC;clear hm hd hf Bg Es
 go_in
 unfold Fg lookO VS at Gc;go_wp2_with fail;clear Gc
 go_loopw [4,32] (fun s i wr=>afy w0 A s i wr) (fun _ i _=>4 -(intOf i).toNat)
 case atStart=>exact⟨0,0,none,0,by omega,rfl,rfl,rfl,by rw[show upTo A 0=[] from rfl,jg];exact DZ _ _ _ _,Ai _ _⟩
 case round=>
  obtain⟨j,n,q,c,hj,hn,rfl,rfl,Af,hb⟩:=hrel;have Ck:=Hi Af;have HB:=Hi hb;have HN:=Hi hn;by_cases hlt:j < 4
  ·have Cs:∀ W,(Instr.indexAt 135 (.slice (some ⟨w.heap.size+1,0,none⟩) 4 4) (.int .i64 (j:Int))).run prog W=.ok (.pointer (some ⟨w.heap.size+1,j,none⟩)) W:=fun W=>by
    have h:=IB prog 135 134 underlying135 1 (by kernel_rfl) ⟨w.heap.size+1,0,none⟩ 4 4 j hlt W;rw[add_plain,Nat.mul_one] at h;exact h
   have e0:=HC _ hb j hlt;unfold VS at e0;have hfe:=asY j;have HF:=Hi (fun(W:World) (hW:Bw w0 W)=>U9 j W hW);unfold VS at HF;have HU:=Hi (Ps j);have HP:=Hi (KG j);have Bh:=Hi (show upTo A (j+1)=upTo A j++Vg A j from rfl);generalize findF j=F at*;generalize Vg A j=K at*;clear Af hb hn;go_wp2_with fail;refine(HF _ (HB.alloc HB.size _)).mono ?_;rintro e w4⟨v,rfl,I8,AB⟩;obtain⟨q4,c4,rfl⟩:=Bo I8;have I5:=(AU wr (.cells #[.func (.func F) #[.agg #[.pointer (some ⟨pm,0,none⟩),.pointer (some ⟨pd,0,none⟩)]] #[]] 134)).trans (AB.mono (AU wr (.cells #[.func (.func F) #[.agg #[.pointer (some ⟨pm,0,none⟩),.pointer (some ⟨pd,0,none⟩)]] #[]] 134)).size);have AX:=bH HB I5;have eY:=Cg Ck I5;have EI:=HN.out;obtain⟨v7,w7,QT,LP,Ir⟩:=ar4 (W:=w4) (B:=w0.heap.size) (v:=.slice q n c) (l:=upTo A j) (by show w4.ownsRow _ _ _ _ _ _;rw[←EI];exact eY) (Lj.CX I8) (ar3 I8) (by have:=HU.out;have:=HP.out;omega) AX.size;obtain⟨q7,c7,rfl⟩:=Bo LP;have CF:=Hi (show afy w0 A (.slice q7 (upTo A j++K).length c7) (.int .i64 ((j:Int)+1)) w7 from⟨j+1,(upTo A j++K).length,q7,c7,by omega,by rw[Bh.out],by go_num,rfl,by rw[Bh.out];exact LP,AX.grown Ir AX.size (fun k hk=>E9 eY hk)⟩);clear I8 AB I5 eY EI LP Ir;go_wp2;go_roundw
   case rel=>rw[←AA];exact CF.out
   case measure=>
    show 4 -((j:Int)+1).toNat < 4 -((j:Int)).toNat
    omega
  ·obtain rfl:j=4:=by omega
   have Ep:=Hi (show Ma wr w.heap.size (.slice q n c) (N7 both A) from by
    show wr.ownsRow _ _ _ _ _ _
    rw[←aoj,←hn];exact EA Af AR.size)
   clear Af hb hn;go_wp2;go_ret2;exact⟨_,rfl,Ep,AR.trans (HB.mono AR.size)⟩
theorem ayB(w:World):Calls prog 18 #[.pointer none,.pointer none] w fun e w'=>e=.returned (.tuple #[.slice none 0 0,.int .i64 1])∧w=w':=by
 go_in
 go_wp2;go_ret2;exact⟨rfl,rfl⟩
theorem ag1(hf:He w y A)(Es:Oc A):(N7 both A).length≤4000000:=by
 rw[←aoj];exact vY hf Es 4
instance (A:M):Decidable (Ur both A):=inferInstanceAs (Decidable (_∧_∧_))
theorem aAX(A:M):(!(N7 both A).any fun b=>b.1 != 4)=decide (Ur both A):=by
 rw[Bool.eq_iff_iff,decide_eq_true_iff,aAY];simp
theorem aAZ(hm:Gi w pm y)(hd:EN w pd y)(hf:He w y A)(Es:Oc A):
  Calls prog 14 #[.pointer (some ⟨pm,0,none⟩),.pointer (some ⟨pd,0,none⟩)] w fun e w'=>e=.returned (.bool (decide (Ur both A)))∧Bw w w':=by
 have FT:=Hi (acJ hm hd hf Es);have HL:=Hi (ag1 hf Es);rw[←aAX];generalize N7 both A=L at*;clear hm hd hf Es
 go_in
 go_wp2_with fail;refine FT.mono ?_;rintro e w1⟨v,rfl,hr,hb⟩;obtain⟨q,c,rfl⟩:=Bo hr;have HC:=Hi (aqT c (Lj.CX hr) aAV (fun _ _=>trivial) (by have:=HL.out;omega));have HB:=Hi hb;clear hr hb;go_wp2_with fail;refine HC.mono ?_;rintro e w2⟨rfl,Ac⟩;have Ak:=bH HB Ac;clear Ac;go_wp2;go_ret;exact⟨rfl,Ak⟩
end EX
namespace GV
open Go.Maps
open Av Ag Ar Bt Kp BI Hex BH Al Mem Ch
section
variable {w:World}{D mb db rr rb kb pm pd:Nat}{q1 q2:Option Addr}{c1 c2:Nat}{L1 L2:List T}{a b c a2 b2 c3:Int}{W W':World}
end
def CW(l:M):Nat:=(l.map fun q=>4+q.1.length+q.2.length).sum
theorem qA(l:M):rowLen (flat l)=2+CW l:=by
 unfold rowLen CW
 induction l with
 |nil=>rfl
 |cons p l ih=>
  rw[Xx,Ca,Ca,DR,DR,Ca,DR];omega
theorem azK{K:Kind}{name d:T}{l:M}(h:K.CB name d=some l):CW l≤d.length:=by
 obtain⟨_,_,_,s,h4,h5⟩:=Nr h;unfold FO at h4;split at h4
 ·cases ht:BK (flat l) with
  |none=>rw[ht] at h4;cases h4
  |some a=>
   rw[ht] at h4;simp only[EK,Ci] at h4;have h6:=WO ht;rw[qA] at h6;have h7:d.length=s.length+4:=(by rw[h5];unfold A9.Fx;rw[AA,A9.C9]);rw[h7,←h4,AA];omega
 ·cases h4
theorem zT(K:Kind)(A:M):CW (EG K A)≤(A.map cost).sum:=by
 induction A with
 |nil=>exact Ae _
 |cons p A ih=>
  have e:EG K (p :: A)=(if K.ours p.1=true then(K.CB p.1 p.2).getD [] else[])++EG K A:=rfl;rw[e];unfold CW at ih ⊢;rw[CK,Lg,Ca,DR];have h1:((if K.ours p.1=true then(K.CB p.1 p.2).getD [] else[]).map fun q:T×T=>4+q.1.length+q.2.length).sum≤cost p:=by
   unfold cost;split
   ·cases hr:K.CB p.1 p.2 with
    |none=>exact AV _
    |some l=>
     have:=azK hr;unfold CW at this
     show((l.map fun q:T×T=>4+q.1.length+q.2.length).sum)≤_
     omega
   ·exact AV _
  omega
theorem zP{l:M}{q:T×T}(h:q∈l):4+q.1.length+q.2.length≤CW l:=by
 induction l with
 |nil=>simp at h
 |cons x l ih=>
  show _≤(4+x.1.length+x.2.length)+CW l
  rcases Cc.1 h with rfl|h
  ·omega
  ·have:=ih h;omega
theorem qi(l:M):4*l.length+(l.map fun p=>p.2.length).sum≤CW l:=by
 induction l with
 |nil=>exact Ae _
 |cons x l ih=>
  show _≤(4+x.1.length+x.2.length)+CW l
  rw[BG,Ca,DR];omega
theorem gJ:∀ {l:List T} {a:T},BK l=some a→∀ t∈l,t.length≤65535
 |[],_,_,t,h=>by simp at h
 |x :: l,a,h,t,ht=>by
  simp only[BK] at h;cases h1:Eg x with
  |none=>rw[h1] at h;cases h
  |some y=>
   cases h4:BK l with
   |none=>rw[h1,h4] at h;cases h
   |some z=>
    rcases Cc.1 ht with rfl|ht
    ·unfold Eg at h1;split at h1
     ·assumption
     ·cases h1
    ·exact gJ h4 t ht
theorem azF{s:T}{l:List T}(h:Dp s=some l):∀ t∈l,t.length≤65535:=by
 have h2:=mG h;unfold GN at h2;split at h2
 ·cases ht:BK l with
  |none=>rw[ht] at h2;cases h2
  |some a=>exact gJ ht
 ·cases h2
theorem asM{w:World}{b y n N N':Nat}{bl:Nat→Prop}{A A':M}(h:U4 w b y bl n N A A')(hN:N≤N'):U4 w b y bl n N' A A':=by
 obtain⟨D,fp,m,x,gv,F,h1,h2,h3,h4,h5,h6,h7,h8,h9,IZ⟩:=h
 exact⟨D,fp,m,x,gv,F,h1,h2,h3,h4,h5,h6,h7,h8,fun keep=>by
  obtain⟨F',D',q1,q2,q3,q4⟩:=h9 keep;exact⟨F',D',q1,q2,Aw q3 hN,q4⟩,IZ⟩
theorem qx{A:M}(h:used A≤100000):Oc A:=by
 have hm:=zT Ah A;have hd:=zT Aa A;have hu:(A.map cost).sum≤100000:=by unfold used at h;omega
 have LJ:=qi (EG Ah A);have Ms:=qi (EG Aa A);have hk:=axe (EG Aa A);refine⟨by omega,by omega,by omega,fun t ht=>?_,fun t ht=>?_,fun t ht=>?_⟩
 ·unfold Bn E8 at ht;rw[Ee] at ht;obtain⟨p,hp,rfl⟩:=Bz.1 ht;have:=zP hp;omega
 ·unfold Bn E8 at ht;rw[Ee] at ht;obtain⟨p,hp,rfl⟩:=Bz.1 ht;have:=zP hp;omega
 ·unfold ER at ht;obtain⟨p,hp,ht⟩:=Nv.1 ht;cases hr:Dp p.2 with
  |none=>rw[hr] at ht;simp at ht
  |some l=>
   rw[hr] at ht;exact Aw (azF hr t ht) (by decide)
theorem aC4{F:M}(hu:Up F){k d:T}(hg:get F k=some d):used (del k F)+(8+k.length+d.length)=used F:=by
 have hm:=get_some hg;have e:(put k d F)=F:=aU (hu.put _ _) hu fun p=>by
  rw[TQ hu];constructor
  ·rintro(rfl|⟨h,_⟩)
   ·exact hm
   ·exact h
  ·intro hp;by_cases e:p.1=k
   ·refine .inl ?_;have h1:=get_mem hu (show(p.1,p.2)∈F from hp);rw[e,hg] at h1;injection h1 with h1
    rw[←e,h1]
   ·exact .inr ⟨hp,e⟩
 have:=((aK (v:=d) hu k).map cost).sum_nat;rw[e,Ca,DR] at this;unfold used;unfold cost at this ⊢;simp only at this;omega
theorem adX:∀ {l:List Am} {F:M},Up F→(l.map (·.name)).Nodup→(∀ c∈l,∃ d,get F c.name=some d∧c.data.length≤d.length)→F8 l≤used F
 |[],F,_,_,_=>AV _
 |c :: l,F,hu,hn,h=>by
  obtain⟨n1,n2⟩:=Js.1 hn;obtain⟨d,h1,h2⟩:=h c (by simp)
  have h3:=adX (F:=del c.name F) (hu.del _) n2 (fun x hx=>by
   obtain⟨e,h3,h4⟩:=h x (F9 _ hx);have hne:x.name≠c.name:=fun e=>n1 (show c.name∈l.map (·.name) from by rw[←e];exact Hu hx)
   exact⟨e,by rw[jA hu,Ab hne,h3],h4⟩)
  have h4:=aC4 hu h1
  show(8+c.name.length+c.data.length)+F8 l≤_
  omega
theorem aCD{K:Kind}{A:M}{ks:List T}(hu:Up A)(hg:Ag.Good A)(ht:There K A ks):F8 (Fj K A ks)≤used A:=by
 refine adX hu (by rw[VU];exact WM _) fun c hc=>?_
 unfold Fj at hc;obtain⟨name,hn,rfl⟩:=Bz.1 hc;obtain⟨d,l,h1,_,_,h4,_⟩:=dm hg ht hn;exact⟨d,by rw[jm];exact h1,h4⟩
theorem asc{K:Kind}{A:M}{ks:List T}:(Fj K A ks).length≤ks.length:=by
 unfold Fj;rw[BP];have:=Vh (ks.map K.nm);rwa[BP] at this
theorem am0{w V V':World}{bl C8:Nat→Prop}(h1:A7 (Gx w bl) w V)(h2:A7 (Gx V C8) V V')(hb:∀ k,C8 k→bl k∨w.heap.size≤k):A7 (Gx w bl) w V':=
 h1.trans h2 (fun k hk=>by
  by_cases hl:w.heap.size≤k
  ·exact .inr hl
  ·refine .inl ?_;have OB:bl k:=(hb k hk.1).elim id (fun e=>absurd e hl);by_cases hn:Gx w bl k
   ·exact hn
   ·refine⟨OB,fun t ht=>?_⟩;obtain⟨cs,fr,hh⟩:=ht;exact hk.2 t ⟨cs,fr,(h1.block k (by omega) hn).trans hh⟩)
theorem alZ{w W V:World}{bl:Nat→Prop}(hb:Bw w W)(h:A7 (Gx W bl) W V):A7 (Gx w bl) w V:=
 am0 (A7.of_below (F:=Gx w bl) hb) h (fun k hk=>.inl hk)
theorem axM{K:Kind}{A:M}:made A (Fj K A [])=A:=by
 unfold Fj;rw[Kr,mH List.Pairwise.nil];rfl
section
variable {fz:Bool}{w:World}{b y n N:Nat}{bl:Nat→Prop}{A:M}
theorem atj{pd:Nat}{q:Option Addr}{cap:Nat}{ks:List T}(h:Fa fz w b y bl n N A)(hN:N < 1000000000)(hu:used A≤100000)(hd:EN w pd y)(hk:Du w q ks)(hl:ks.length≤100000)(ht:There Aa A ks):
  Calls prog 73 #[.pointer (some ⟨pd,0,none⟩),.slice q ks.length cap] w fun e w'=>∃ c,e=.returned (.int .i64 c)∧∃ C8,aZ fz w' b y C8 n (N+1) A (0,made A (Fj Aa A ks)) c∧A7 (Gx w bl) w w'∧∀ k,C8 k→bl k∨w.heap.size≤k:=by
 obtain⟨u1,u2,u3,-,-⟩:=h.up;obtain⟨d1,d2,-,-⟩:=agH GD u1 u2 u3 ht;refine arZ (Q:=fun c w'=>∃ C8,aZ fz w' b y C8 n (N+1) A (0,made A (Fj Aa A ks)) c∧A7 (Gx w bl) w w'∧∀ k,C8 k→bl k∨w.heap.size≤k) hd (qN h) u2 hk hl ht (fun W hW=>aa6 (h.below hW)) (fun e w' hw=>?_) (fun W q c hW Zx=>?_)
 ·subst e;rw[axM];exact⟨bl,.inl ⟨rfl,(h.below hw).more (Nat.le_succ _)⟩,A7.of_below hw,fun k hk=>.inl hk⟩
 ·refine(aa3 (h.below hW) hN Zx (Aw asc hl) (by have:=aCD u1 u2 ht;omega)).mono ?_;rintro e w'⟨c,rfl,C8,h1,h2,h3⟩;rw[d1,d2] at h1;exact⟨c,rfl,C8,h1,alZ hW h2,fun k hk=>(h3 k hk).imp id (fun e=>Aw hW.size e)⟩
end
end GV
namespace Ar
open Go.Maps Go.Sort Go.Shelf Go.Lib
open Av Ag
theorem aAS{w:World}{base:Nat}{v:Value}{l:List (List UInt8)}(h:Bq w base v l)(hl:l.length≤1000000):
  Calls prog 70 #[v] w fun e w'=>(∃ x,e=.returned x)∧Bq w' base v (l.mergeSort fun x y=>decide (x≤y))∧A7 (fun k=>v.ownBlock=some k) w w':=by
 rcases h.parts with⟨rfl,rfl⟩|⟨g,cap,rfl,hg,ZK,PN,NT⟩
 ·refine(AnyM.slices_Sort_string_none Xy none 0 _).mono ?_;rintro e w2⟨rfl,rfl⟩;exact⟨⟨_,rfl⟩,by rw[List.mergeSort_nil];exact h,A7.refl _ _⟩
 ·have ho:=h;unfold Bq at ho;rw[M5] at ho;obtain⟨g2,cap2,e2,_,_,_,_,_,hH⟩:=holds_of_ownsRow ho (by simp);cases e2;refine(AnyM.slices_Sort_string Xy g 0 cap l _ hH NT (by omega)).mono ?_;rintro e w2⟨rfl,n,os,rfl⟩;have CG:(l.mergeSort fun x y=>decide (x≤y)).length=l.length:=by simp
  have Dn:=ownsRow_putRow (q:=n) ho CG (Ae _);have JH:=Bv Dn (ub (below_grow (Ai _ _) (Ae _) os)) (fun _ _ f=>f);rw[Gu (by rw[CG];omega)] at JH;refine⟨⟨_,rfl⟩,?_,A7.of_grownBy (F:=fun k=>(Value.slice (some ⟨g,0,none⟩) l.length cap).ownBlock=some k) (grownBy_sorted (g:=g) _) (fun i e=>e)⟩;unfold Bq;rw[M5,CG];exact JH
theorem arD{w:World}{base:Nat}{v:Value}{S:List (List UInt8)}(h:Bq w base v S)(hl:S.length≤1000000):
  Calls prog 71 #[v] w fun e w'=>∃ v',e=.returned v'∧Bq w' base v' (Lib.compact S)∧A7 (fun k=>v.ownBlock=some k) w w':=by
 rcases h.parts with⟨rfl,rfl⟩|⟨g,cap,rfl,hg,ZK,PN,NT⟩
 ·refine(Any.slices_Compact_string_empty fG none 0 _).mono ?_;rintro e w2⟨rfl,rfl⟩;exact⟨_,rfl,by rw[show Lib.compact ([]:List (List UInt8))=[] by simp[Lib.compact,Lib.compactUpTo]];exact h,A7.refl _ _⟩
 ·have ho:=h;unfold Bq at ho;rw[M5] at ho;obtain⟨g2,cap2,e2,_,_,_,_,_,hH⟩:=holds_of_ownsRow ho (by simp);cases e2;have UK:=Any.slices_Compact_string fG g 0 cap S w hH (by omega) (by omega);rw[show(uj.f 194)=71 from rfl] at UK;refine UK.mono ?_;rintro e w4⟨rfl,q,rfl⟩;have BN:=compact_length_le S;have UZ:=ownsRow_putRow (q:=q) (k:=(Lib.compact S).length) ho (ys:=Lib.compact S++List.replicate (S.length -(Lib.compact S).length) []) (by simp;omega) BN;rw[IU rfl] at UZ;have rW:w.grownBy (Go.Sort.putRow encStr (Sort.ahead w q) g 0 (Lib.compact S++List.replicate (S.length -(Lib.compact S).length) []).toArray) (some g):=by
   have:=grownBy_sorted (w:=w) (g:=g) (n:=q) (os:=#[]) (Lib.compact S++List.replicate (S.length -(Lib.compact S).length) []).toArray;rwa[grow_empty] at this
  refine⟨_,rfl,?_,A7.of_grownBy (F:=fun k=>(Value.slice (some ⟨g,0,none⟩) S.length cap).ownBlock=some k) rW (fun i e=>e)⟩;unfold Bq;rw[M5];exact UZ
end Ar
namespace EX
open Go.Maps
open Av Ag Ar Bt Kp BI Hex BH Al Mem Ch GV
theorem aAT(l:List T):Go.Lib.compact (l.mergeSort fun x y=>decide (x≤y))=Bi l:=rfl
def N9(l:List (Nat×T×T)):List Am:=(l.filter fun b=>b.1 == 1 || b.1 == 2).map fun b=>⟨b.2.1,[],true⟩
def IC(l:List (Nat×T×T)):List T:=(l.filter fun b=>b.1 == 3).map fun b=>b.2.1
theorem aai(l:List (Nat×T×T))(b:Nat×T×T):N9 (l++[b])=N9 l++if b.1=1∨b.1=2 then[⟨b.2.1,[],true⟩] else[]:=by
 unfold N9;rw[M7,CK]
 congr 1
 by_cases h:b.1=1∨b.1=2
 ·rw[Ad h];rcases h with h|h<;>simp[h]
 ·rw[Ab h];simp only[not_or] at h;simp[h.1,h.2]
theorem adh(l:List (Nat×T×T))(b:Nat×T×T):IC (l++[b])=IC l++if b.1=3 then[b.2.1] else[]:=by
 unfold IC;rw[M7,CK]
 congr 1
 by_cases h:b.1=3
 ·rw[Ad h];simp[h]
 ·rw[Ab h];simp[h]
theorem ahP(l:List (Nat×T×T)):(N9 l).length≤l.length:=by unfold N9;rw[BP];exact M8 _ _
theorem aAl(l:List (Nat×T×T)):(IC l).length≤l.length:=by unfold IC;rw[BP];exact M8 _ _
theorem Xw{α:Type}(l:List α)(f:α→Nat×T×T)(p:Nat×T×T→Bool)(c:Bool)(h:∀ x,p (f x)=c):(l.map f).filter p=if c=true then l.map f else[]:=by
 cases c with
 |true=>
  rw[Ad rfl];refine List.filter_eq_self.2 fun b hb=>?_
  obtain⟨x,_,rfl⟩:=Bz.1 hb;exact h x
 |false=>
  rw[Ab (by decide)];refine List.filter_eq_nil_iff.2 fun b hb=>?_
  obtain⟨x,_,rfl⟩:=Bz.1 hb;rw[h x];decide
theorem au8(A:M):N9 (N7 both A)=Hg both A:=by
 unfold N9 N7 Hg UA;rw[M7,M7,M7,Xw _ _ _ true (fun _=>rfl),Xw _ _ _ true (fun _=>rfl),Xw _ _ _ false (fun _=>rfl),Xw _ _ _ false (fun _=>rfl)];simp[Kq,Function.comp_def]
theorem ano(A:M):IC (N7 both A)=(Nu both A).map (·.1):=by
 unfold IC N7;rw[M7,M7,M7,Xw _ _ _ false (fun _=>rfl),Xw _ _ _ false (fun _=>rfl),Xw _ _ _ true (fun _=>rfl),Xw _ _ _ false (fun _=>rfl)];simp[Kq,Function.comp_def]
structure Ow(w:World)(L:List (Nat×T×T))(q:Option Addr)(c k n1 n2:Nat)(q1 q2:Option Addr)(c1 c2:Nat)(wr:World):Prop where
 g:wr.ownsRow w.heap.size 57 3 (.slice q1 n1 c1) n1 (LA (N9 (L.take k)))
 r:wr.ownsRow w.heap.size 9 1 (.slice q2 n2 c2) n2 (strCells (IC (L.take k)))
 b:Bw w wr
 l:Ma wr w.heap.size (.slice q L.length c) L
 e1:n1=(N9 (L.take k)).length
 e2:n2=(IC (L.take k)).length
def aqp(w:World)(L:List (Nat×T×T))(q:Option Addr)(c:Nat)(s1 s2 i:Value)(wr:World):Prop:=
 ∃ (k n1 n2:Nat) (q1 q2:Option Addr) (c1 c2:Nat),k≤L.length∧i=.int .i64 (k:Int)∧s1=.slice q1 n1 c1∧s2=.slice q2 n2 c2∧Ow w L q c k n1 n2 q1 q2 c1 c2 wr
theorem gB{W W2:World}{b1 b2:Nat}{t1 t2:TypeId}{s1 s2 n1 n2:Nat}{v1 v2:Value}{cs1 cs2:List Value}(h:W.ownsRow b1 t1 s1 v1 n1 cs1)(ho:W.ownsRow b2 t2 s2 v2 n2 cs2)(hu:A7 (fun k=>v2.ownBlock=some k) W W2)(ht:t1≠t2):W2.ownsRow b1 t1 s1 v1 n1 cs1:=
 Bv h hu (fun g hg f=>by
  obtain⟨x1,f1,e1⟩:=Cn h hg;obtain⟨x2,f2,e2⟩:=Cn ho f;rw[e1] at e2;injection e2 with e2
  injection e2 with _ e2
  exact ht e2)
section
variable {w wr W2 w1:World}{L:List (Nat×T×T)}{q q1 q2:Option Addr}{c k n1 n2 c1 c2:Nat}
theorem Ow.below(h:Ow w L q c k n1 n2 q1 q2 c1 c2 wr)(hb:Bw wr W2):Ow w L q c k n1 n2 q1 q2 c1 c2 W2:=
 ⟨Cg h.g hb,Cg h.r hb,h.b.trans (hb.mono h.b.size),Cg h.l hb,h.e1,h.e2⟩
theorem Ow.none(h:Ow w L q c k n1 n2 q1 q2 c1 c2 wr)(hk:k < L.length)(h1:¬ (L[k].1=1∨L[k].1=2))(h2:¬ L[k].1=3):Ow w L q c (k+1) n1 n2 q1 q2 c1 c2 wr:=by
 have e1:N9 (L.take (k+1))=N9 (L.take k):=by rw[Cx hk,aai,Ab h1,Ea]
 have e2:IC (L.take (k+1))=IC (L.take k):=by rw[Cx hk,adh,Ab h2,Ea]
 exact⟨by rw[e1];exact h.g,by rw[e2];exact h.r,h.b,h.l,by rw[e1];exact h.e1,by rw[e2];exact h.e2⟩
theorem Ow.gone(h:Ow w L q c k n1 n2 q1 q2 c1 c2 wr)(hk:k < L.length)(h1:L[k].1=1∨L[k].1=2){q':Option Addr}{c':Nat}(hg:wr.grownBy w1 (Value.slice q1 n1 c1).ownBlock)
  (ho:w1.ownsRow w.heap.size 57 3 (.slice q' (n1+1) c') (n1+1) (LA (N9 (L.take k))++[.string (bs L[k].2.1),.string { data:=#[] },.bool true])):Ow w L q c (k+1) (n1+1) n2 q' q2 c' c2 w1:=by
 have e1:N9 (L.take (k+1))=N9 (L.take k)++[⟨L[k].2.1,[],true⟩]:=by rw[Cx hk,aai,Ad h1]
 have e2:IC (L.take (k+1))=IC (L.take k):=by rw[Cx hk,adh,Ab (by omega),Ea]
 have hu:=A7.of_grownBy (F:=fun k=>(Value.slice q1 n1 c1).ownBlock=some k) hg (fun k e=>e);exact⟨by rw[e1,pQ];exact ho,by rw[e2];exact gB h.r h.g hu (by decide),h.b.grown hg h.b.size (fun j hj=>E9 h.g hj),gB h.l h.g hu (by decide),by rw[e1,AA,←h.e1];rfl,by rw[e2];exact h.e2⟩
theorem Ow.run(h:Ow w L q c k n1 n2 q1 q2 c1 c2 wr)(hk:k < L.length)(h1:L[k].1=3){q':Option Addr}{c':Nat}(hg:wr.grownBy w1 (Value.slice q2 n2 c2).ownBlock)
  (ho:w1.ownsRow w.heap.size 9 1 (.slice q' (n2+1) c') (n2+1) (strCells (IC (L.take k))++[.string (bs L[k].2.1)])):Ow w L q c (k+1) n1 (n2+1) q1 q' c1 c' w1:=by
 have e1:N9 (L.take (k+1))=N9 (L.take k):=by rw[Cx hk,aai,Ab (by omega),Ea]
 have e2:IC (L.take (k+1))=IC (L.take k)++[L[k].2.1]:=by rw[Cx hk,adh,Ad h1]
 have hu:=A7.of_grownBy (F:=fun k=>(Value.slice q2 n2 c2).ownBlock=some k) hg (fun k e=>e);exact⟨by rw[e1];exact gB h.g h.r hu (by decide),by rw[e2,show ∀ a b,strCells (a++b)=strCells a++strCells b from fun a b=>by unfold strCells;rw[CK],show strCells [L[k].2.1]=[.string (bs L[k].2.1)] by unfold strCells;rfl];exact ho,h.b.grown hg h.b.size (fun j hj=>E9 h.r hj),gB h.l h.r hu (by decide),by rw[e1];exact h.e1,by rw[e2,AA,←h.e2];rfl⟩
theorem Ow.len(h:Ow w L q c k n1 n2 q1 q2 c1 c2 wr):n1≤L.length∧n2≤L.length:=by
 have h1:=ahP (L.take k);have h2:=aAl (L.take k);have h3:=List.length_take_le k L;have:=h.e1;have:=h.e2;have h4:(L.take k).length≤L.length:=by rw[AZ];omega
 omega
end
section
variable {fz:Bool}{w:World}{b y n N pm pd:Nat}{bl:Nat→Prop}{A:M}
def uk(k:Nat)(c:Int):Int:=if c=0 then(k:Int) else 0
theorem fH(k:Nat):uk k 0=(k:Int):=Ad rfl
theorem Yp(k:Nat):uk k 40=0:=Ab (by decide)
def yL(fz:Bool)(w:World)(b y n N:Nat)(bl:Nat→Prop)(A:M)(c:Int)(V:World):Prop:=
 A7 (Gx w bl) w V∧∃ C8:Nat→Prop,((c=0∧Fa fz V b y C8 n (N+2) (Iw both A))∨(fz=true∧c=40∧(U4 V b y C8 n (N+2) A (J9 both A)∨U4 V b y C8 n (N+2) (J9 both A) (Iw both A))))∧∀ k,C8 k→bl k∨w.heap.size≤k
def bV(fz:Bool)(w:World)(b y n N:Nat)(bl:Nat→Prop)(A:M)(V:World):Prop:=
 A7 (Gx w bl) w V∧∃ C8:Nat→Prop,Fa fz V b y C8 n (N+1) (J9 both A)∧∀ k,C8 k→bl k∨w.heap.size≤k
theorem bV.use{V:World}(h:bV fz w b y n N bl A V)(hd:EN w pd y):EN V pd y:=hd.upd h.1 (fun f=>f.not ⟨_,_,hd⟩ (by decide))
theorem aua(hu:Up A):F8 (Hg both A)≤used A:=by
 refine adX hu ?_ fun c hc=>?_
 ·unfold Hg;rw[Kq];exact(show((UA both A).map fun x=>x).Nodup by rw[List.map_id'];exact ahO Jz hu)
 ·unfold Hg at hc;obtain⟨x,hx,rfl⟩:=Bz.1 hc;obtain⟨d,hd⟩:=aah hu hx;exact⟨d,hd,AV _⟩
theorem au9(A:M):(Hg both A).length≤2*A.length:=by
 unfold Hg UA;rw[BP,AA];have h1:=cK both.m A;have h2:=cK both.d A;omega
theorem ay0{q:Option Addr}{cap:Nat}{W:World}(h:Fa fz w b y bl n N A)(hN:N+2 < 1000000000)(hu:used A≤100000)(hW:Bw w W)(hc:Eb W q (Hg both A)):
  Calls prog 17 #[.pointer (some ⟨y,0,none⟩),.slice q (Hg both A).length cap] W fun e w'=>∃ c:Int,e=.returned (.int .i64 c)∧((c=0∧bV fz w b y n N bl A w')∨(c=40∧yL fz w b y n N bl A 40 w'))∧A7 (Gx W bl) W w':=by
 obtain⟨u1,u2,u3,-,-⟩:=h.up;have Mv:BI.May n A:=⟨u1,u2,u3⟩;obtain⟨g1,g2,g3,g4⟩:=aaj Jz Mv;have hl:=au9 A;have I9:=Rf A;refine(aa3 (h.below hW) (by omega) hc (by omega) (by have:=aua u1;omega)).mono ?_;rintro e w'⟨c,rfl,C8,h1,h2,h3⟩;rw[g1,g2] at h1;have DY:A7 (Gx w bl) w w':=alZ hW h2;have CP:∀ k,C8 k→bl k∨w.heap.size≤k:=fun k hk=>(h3 k hk).imp id (fun e=>Aw hW.size e)
 rcases h1 with⟨e1,e2⟩|⟨e1,e2,_,e4⟩
 ·exact⟨c,rfl,.inl ⟨e1,DY,C8,e2,CP⟩,h2⟩
 ·exact⟨c,rfl,.inr ⟨e2,DY,C8,.inr ⟨e1,rfl,.inl (asM e4 (by omega))⟩,CP⟩,h2⟩
theorem uI:∀ (S l:List T),S.Nodup→(∀ x∈S,x∈l)→S.length≤l.length
 |[],l,_,_=>AV _
 |x :: S,l,hn,hs=>by
  obtain⟨a,b,e⟩:=List.append_of_mem (hs x Gf);have hx:=(Js.1 hn).1
  have ih:=uI S (a++b) (Js.1 hn).2 (fun y hy=>by
   have h1:=hs y (F9 _ hy);rw[e] at h1;rcases Eh.1 h1 with h|h
   ·exact U2 _ h
   ·rcases Cc.1 h with h|h
    ·subst h;exact absurd hy hx
    ·exact List.mem_append_right _ h)
  rw[e];simp only[BG,AA] at ih ⊢;omega
theorem ay1{q:Option Addr}{cap:Nat}{W:World}(h:Fa fz w b y bl n N A)(hN:N+2 < 1000000000)(hu:used A≤100000)(hd:EN w pd y)(hW:bV fz w b y n N bl A W)(hk:Du W q (M3 both A)):
  Calls prog 73 #[.pointer (some ⟨pd,0,none⟩),.slice q (M3 both A).length cap] W fun e w'=>∃ c:Int,e=.returned (.int .i64 c)∧(c=0∨c=40)∧yL fz w b y n N bl A c w':=by
 obtain⟨u1,u2,u3,-,-⟩:=h.up;have Mv:BI.May n A:=⟨u1,u2,u3⟩;have FM:=(aaj Jz Mv).2.2.1;have Ms:=hW.use hd;obtain⟨k1,bl1,k2,k3⟩:=hW;have UT:(M3 both A).length≤100000:=by
  have h1:(M3 both A).length≤(Bn Aa A).length:=uI _ _ (WM _) (fun r hr=>by
   unfold M3 at hr;rw[Ee] at hr;obtain⟨p,hp,rfl⟩:=Bz.1 hr;exact((um p.1 p.2).1 hp).1)
  have h2:(Xt both A).length=(EG Aa A).length:=av (K:=Aa) u1;have h2':(Bn Aa A).length=(EG Aa A).length:=h2;have h3:=qi (EG Aa A);have h4:=zT Aa A;have h5:(A.map cost).sum≤100000:=by unfold used at hu;omega
  omega
 refine(atj k2 (by omega) (Aw FM hu) Ms hk UT (vH Jz u1)).mono ?_;rintro e w'⟨c,rfl,C8,h1,h2,h3⟩;have DY:A7 (Gx w bl) w w':=am0 k1 h2 (fun k hk=>k3 k hk);have CP:∀ k,C8 k→bl k∨w.heap.size≤k:=fun k hk=>(h3 k hk).elim (k3 k) (fun e=>.inr (Aw k1.size e))
 rcases h1 with⟨e1,e2⟩|⟨e1,e2,_,e4⟩
 ·exact⟨c,rfl,.inl e1,DY,C8,.inl ⟨e1,e2⟩,CP⟩
 ·exact⟨c,rfl,.inr e2,DY,C8,.inr ⟨e1,e2,.inr e4⟩,CP⟩
theorem ay4(hm:Gi w pm y):Calls prog 72 #[.pointer (some ⟨pm,0,none⟩)] w fun e w'=>e=.returned (.pointer (some ⟨y,0,none⟩))∧w=w':=by
 have c0:=hm.cell;clear hm
 go_in
 go_wp2;go_ret;exact⟨rfl,rfl⟩
theorem ahb(h:Fa fz w b y bl n N A)(hN:N+2 < 1000000000)(hu:used A≤100000)(hm:Gi w pm y)(hd:EN w pd y):
  Calls prog 20 #[.pointer (some ⟨pm,0,none⟩),.pointer (some ⟨pd,0,none⟩)] w fun e w'=>∃ c:Int,e=.returned (.tuple #[.int .i64 (uk (Hg both A).length c),.int .i64 (uk (M3 both A).length c),.int .i64 c])∧(c=0∨c=40)∧yL fz w b y n N bl A c w':=by
 obtain⟨i0,Bl,AY,Ba,Be⟩:=DC pR;obtain⟨j0,hj0,fC,O1,ak⟩:=DC TV;have FT:=Hi (acJ hm hd (qz h) (qx hu));have CP:=ag1 (qz h) (qx hu);have xJ:=Hi (au8 A);have HRP:=Hi (ano A);have MO:=Hi (show Hg both A=[]→J9 both A=A from fun e=>by unfold J9;rw[e];rfl);have Ql:=Hi (fun(W:World) (q:Option Addr) (cap:Nat) (hW:Bw w W) (hc:Eb W q (Hg both A))=>ay0 (cap:=cap) h hN hu hW hc);have iB:=Hi (fun(W:World) (q:Option Addr) (cap:Nat) (hW:bV fz w b y n N bl A W) (hk:Du W q (M3 both A))=>ay1 (cap:=cap) h hN hu hd hW hk);have HMI:=Hi (fun(W:World) (hW:Bw w W) (e:Hg both A=[])=>show bV fz w b y n N bl A W from⟨A7.of_below hW,bl,by rw[MO e];exact(h.below hW).more (Nat.le_succ _),fun k hk=>.inl hk⟩);have HF:=Hi (fun(W:World) (hW:Bw w W)=>ay4 (hm.below hW));have RF:=Hi (show(IC (N7 both A)).length≤1000000 from by rw[ano,BP];exact aoy (qz h).up (qx hu));have HGL:=Hi (show(Hg both A).length≤4000000 from by rw[←xJ.out];exact Aw (ahP _) CP);clear h hm hd hu;obtain⟨L,hL⟩:=ex (N7 both A);rw[hL] at FT xJ HRP RF CP;clear hL;generalize Hg both A=G at*
 go_in
 go_wp2_with fail;refine FT.mono ?_;rintro e w1⟨v,rfl,Af,Aj⟩;obtain⟨q,c,rfl⟩:=Bo Af;have Ff:=Hi Af;have HB1:=Hi Aj;clear Af Aj FT;go_wp2
 go_loopw [8,9,25] (fun s1 s2 i wr=>aqp w L q c s1 s2 i wr) (fun _ _ i _=>L.length -(intOf i).toNat)
 case atStart=>exact⟨0,0,0,none,none,0,0,AV _,rfl,rfl,rfl,⟨by rw[Gg,show N9 []=[] from rfl,pO];exact DZ _ _ _ _,by rw[Gg,show IC []=[] from rfl,Sm];exact DZ _ _ _ _,HB1,Ff,rfl,rfl⟩⟩
 case round=>
  obtain⟨k,n1,n2,q1,q2,c1,c2,hk,rfl,rfl,rfl,hat⟩:=hrel;have IV:=Hi hat;obtain⟨FU,GM⟩:=hat.len;by_cases hlt:k < L.length
  ·obtain⟨a,Cs,Ce,-⟩:=(Lj.CX hat.l).index c k hlt;obtain⟨d0,d1,d2⟩:=Ce.cells;have DW:=Hi (fun(V:World) (hV:Bw wr V) h1 h2=>(hat.below hV).none hlt h1 h2);have HGO:=Hi (fun(V w1:World) (q':Option Addr) (c':Nat) (hV:Bw wr V) h1 hg ho=>(hat.below hV).gone (w1:=w1) (q':=q') (c':=c') hlt h1 hg ho);have bL:=Hi (fun(V w1:World) (q':Option Addr) (c':Nat) (hV:Bw wr V) h1 hg ho=>(hat.below hV).run (w1:=w1) (q':=q') (c':=c') hlt h1 hg ho);generalize L[k]=br at*;obtain⟨kd,who,key⟩:=br;dsimp only at*;have LF:=AU wr (.cells #[.int .u8 (kd:Int),.string (bs who),.string (bs key)] 23);have nR:=Hi (hat.below LF);have ED:=Hi LF;have DX:=Hi (Ay wr (.cells #[.int .u8 (kd:Int),.string (bs who),.string (bs key)] 23));clear hat Ce LF;by_cases hA:kd=1∨kd=2
   ·have HAA:=Hi hA;by_cases h1:kd=1
    case' pos=>have F4:((kd:Int) == 1)=true:=beq_iff_eq.2 (by omega)
    case' neg=>
     have F4:((kd:Int) == 1)=false:=FQ.2 (by omega);have I6:((kd:Int) == 2)=true:=beq_iff_eq.2 (by omega)
    all_goals
     clear hA h1;go_wp2_with (at_builtin;refine wpList_append_own_at _ rfl _ _ 32 rfl w.heap.size 57 i0 _ 3 40 underlying32 Bl AY Ba Be rfl (by decide) _ n1 _ rfl (nR.g.alloc _) ⟨wr.heap.size+1,0,none⟩ 1 1 [.string (bs who),.string { data:=#[] },.bool true] rfl rfl (by intro j u hj;rw[add_plain,←DX.out,E5];exact(Dy▸hj)) (by simp[Value.oneCell']) (by unfold maxLen;omega) (by omega) (by have:=nR.b.size;rw[Ay];omega) ?_;intro v' w5 hown AJ _ _;obtain⟨g',cap',rfl⟩:=ownsRow_succ hown;have CF:=Hi (HGO _ w5 (some ⟨g',0,none⟩) cap' (ED.trans ((AU _ _).mono ED.size)) HAA AJ hown);clear hown AJ);go_roundw
     case rel=>exact⟨k+1,n1+1,n2,_,_,_,_,by omega,by go_num,rfl,rfl,CF⟩
     case measure=>
      show L.length -((k:Int)+1).toNat < L.length -((k:Int)).toNat
      omega
   ·have HAA:=Hi hA;have F4:((kd:Int) == 1)=false:=FQ.2 (by omega);have I6:((kd:Int) == 2)=false:=FQ.2 (by omega);by_cases h3:kd=3
    ·have XZ:((kd:Int) == 3)=true:=beq_iff_eq.2 (by omega);have H3:=Hi h3;clear hA h3;go_wp2_with (at_builtin;refine wpList_append_own_at _ rfl _ _ 61 rfl w.heap.size 9 j0 _ 1 16 underlying61 hj0 fC O1 ak rfl (by decide) _ n2 _ rfl (nR.r.alloc _) ⟨wr.heap.size+1,0,none⟩ 1 1 [.string (bs who)] rfl rfl (by intro j u hj;rw[add_plain,←DX.out,E5];exact(Dy▸hj)) (by simp[Value.oneCell']) (by unfold maxLen;omega) (by omega) (by have:=nR.b.size;rw[Ay];omega) ?_;intro v' w5 hown AJ _ _;obtain⟨g',cap',rfl⟩:=ownsRow_succ hown;have CF:=Hi (bL _ w5 (some ⟨g',0,none⟩) cap' (ED.trans ((AU _ _).mono ED.size)) H3 AJ hown);clear hown AJ);go_roundw
     case rel=>exact⟨k+1,n1,n2+1,_,_,_,_,by omega,by go_num,rfl,rfl,CF⟩
     case measure=>
      show L.length -((k:Int)+1).toNat < L.length -((k:Int)).toNat
      omega
    ·have XZ:((kd:Int) == 3)=false:=FQ.2 (by omega);have CF:=Hi (DW _ ED hA h3);clear hA h3;go_wp2;go_roundw
     case rel=>exact⟨k+1,n1,n2,_,_,_,_,by omega,by go_num,rfl,rfl,CF⟩
     case measure=>
      show L.length -((k:Int)+1).toNat < L.length -((k:Int)).toNat
      omega
  ·obtain rfl:k=L.length:=(by omega);have hg:=hat.g;have hr:=hat.r;have he1:=hat.e1;have he2:=hat.e2;rw[Da] at hg hr he1 he2;rw[xJ.out] at hg he1;subst he1 he2;have HB:=Hi hat.b;have HG:=Hi hg;have Ep:=Hi (show Ar.Bq wr w.heap.size (.slice q2 (IC L).length c2) (IC L) from hr);have Ot:=Hi (aAS Ep RF);have HWE:=Hi (show Bi (IC L)=M3 both A from by unfold M3;rw[HRP.out]);have El:((IC L).mergeSort fun x y=>decide (x≤y)).length=(IC L).length:=(by simp);have Om:=Hi (aAT (IC L));obtain⟨S,hS⟩:∃ S,((IC L).mergeSort fun x y=>decide (x≤y))=S:=⟨_,rfl⟩;rw[hS] at Ot Om El;have NB:=Hi El;obtain⟨rn,Wq⟩:=ex ((IC L).length);have aqj:=Hi (show S.length≤1000000 from by rw[El];exact RF.out);rw[Wq] at Ot Ep;simp only[Wq];clear hg hr hat IV hS El Wq FU GM;go_wp2_with fail;refine Ot.mono ?_;rintro e w3⟨⟨x3,rfl⟩,QS,De⟩;have Au:=Hi (Cy HB De (fun k e=>E9 Ep e) HB.size);have FR:=Hi (gB HG Ep De (by decide));have bq:=Hi (arD QS aqj);rw[Om.out,HWE.out] at bq;have MS:=Hi QS;clear QS De Ot;go_wp2_with fail;refine bq.mono ?_;rintro e w4⟨v4,rfl,I8,OT⟩;obtain⟨q4,c4,rfl⟩:=Bo I8;have AX:=Hi (Cy Au OT (fun k e=>E9 MS e) Au.size);have GR:=Hi (gB FR MS OT (by decide));have Lt:=Hi I8;clear I8 OT bq;by_cases OM:G=[]
   ·have GJ:¬ (0:Int) < (G.length:Int):=(by rw[OM];simp);have HD:=Hi (iB w4 q4 c4 (HMI w4 AX OM) (Hr Lt));clear OM;go_wp2_with fail;refine HD.mono ?_;rintro e w6⟨cd,rfl,OO,hend⟩;have HE:=Hi hend;clear hend;rcases OO with rfl|rfl
    ·go_wp2;go_ret3;exact⟨0,by rw[fH,fH];rfl,.inl rfl,HE.out⟩
    ·go_wp2;go_ret3;exact⟨40,by rw[Yp,Yp];rfl,.inr rfl,HE.out⟩
   ·have GJ:(0:Int) < (G.length:Int):=(by have:=List.length_pos_iff.2 OM;omega);clear OM;go_wp2_with fail;refine(HF w4 AX).mono ?_;rintro e w5⟨rfl,rfl⟩;have HC:=Hi (Ql w4 q1 c1 AX (Eb.CX GR));go_wp2_with fail;refine HC.mono ?_;rintro e w5⟨cc,rfl,OO,LW⟩;have KH:=Hi (Bv Lt LW (fun k hk f=>f.not (Cn Lt hk) (by decide)));clear LW;rcases OO with⟨rfl,ajS⟩|⟨rfl,hend⟩
    ·have HD:=Hi (iB w5 q4 c4 ajS (Hr KH));clear ajS;go_wp2_with fail;refine HD.mono ?_;rintro e w6⟨cd,rfl,OO,hend⟩;have HE:=Hi hend;clear hend;rcases OO with rfl|rfl
     ·go_wp2;go_ret3;exact⟨0,by rw[fH,fH];rfl,.inl rfl,HE.out⟩
     ·go_wp2;go_ret3;exact⟨40,by rw[Yp,Yp];rfl,.inr rfl,HE.out⟩
    ·have HE:=Hi hend;clear hend;go_wp2;go_ret3;exact⟨40,by rw[Yp,Yp];rfl,.inr rfl,HE.out⟩
end
end EX
section
open Go.WideShapes Go.ChangeShapes Go.Deep
open Ag
theorem art{H:Type}{enc:TypeId×Value→H}{W:World}{base:Nat}{sp:Nat→Bool}{hd:Bool}{n:Nat}{cs:List Value}{y:DataW H×List MemPlace}(q:Addr)
  (hc:W.cells? base q 3=some cs)(h:DataW.trod enc prog W base sp hd n 57 cs=some y)(hz:∀ n∈DataW.weights prog 57 y.1,n≤reachBytes):
  ∃ x:Am,Rn W q x∧x.name.length≤reachBytes∧x.data.length≤reachBytes:=by
 obtain⟨_,hl,hat⟩:=World.cells?_some hc;obtain⟨xs,n',_,rfl,_,Gq,hf⟩:=DataW.trod_struct underlying57 h;have o2:prog.cellsOf 9=1:=by kernel_rfl
 have o3:prog.cellsOf 4=1:=by kernel_rfl
 have akP:xs.length=3:=Gq;have g0:DataW.trod enc prog W base sp hd n' 9 ((cs.drop 0).take (prog.cellsOf 9))=xs[0]? :=hf 0 _ rfl;have g1:DataW.trod enc prog W base sp hd n' 9 ((cs.drop 1).take (prog.cellsOf 9))=xs[1]? :=hf 1 _ rfl;have g2:DataW.trod enc prog W base sp hd n' 4 ((cs.drop 2).take (prog.cellsOf 4))=xs[2]? :=hf 2 _ rfl;rw[o2,WK hl _ (by omega),CJ (by omega)] at g0 g1;rw[o3,WK hl _ (by omega),CJ (by omega)] at g2;obtain⟨v0,e0,y0,_⟩:=DataW.trod_string underlying9 g0;obtain⟨v1,e1,y1,_⟩:=DataW.trod_string underlying9 g1;obtain⟨v2,e2,_⟩:=DataW.trod_bool underlying4 g2;have cell:∀ j (hj:j < 3) v,[cs[j]'(by omega)]=[v]→W.cell? (q.add j)=some v:=fun j hj v e=>by
  rw[hat j hj,CJ (by omega)];simpa using e
 refine⟨⟨v0.data.toList,v1.data.toList,v2⟩,⟨cell 0 (by omega) _ e0,cell 1 (by omega) _ e1,cell 2 (by omega) _ e2⟩,?_,?_⟩
 ·refine hz _ ?_;simp only[DataW.weights,underlying57];refine DataW.weights_mem_each (j:=0) (t:=9) (d:=.lit (.string v0.data.toList)) rfl ?_ _ (by simp[DataW.weights]);rw[Jr,CJ (by omega),y0];rfl
 ·refine hz _ ?_;simp only[DataW.weights,underlying57];refine DataW.weights_mem_each (j:=1) (t:=9) (d:=.lit (.string v1.data.toList)) rfl ?_ _ (by simp[DataW.weights]);rw[Jr,CJ (by omega),y1];rfl
end
section
open Go.Maps
open Ag
end
namespace Ar
open Go.Maps Go.Sort Go.Shelf Go.Lib
open Av Ag
theorem jo(w:World)(p:Option Addr)(n c:Nat):(binOp .eql 61 (.slice p n c) (.slice none 0 0)).run prog w=.ok (.bool p.isNone) w:=by
 have h:∀ d,(Op.equalIn (d+1) 61 (.slice p n c) (.slice none 0 0)).run prog w=.ok p.isNone w:=fun d=>by
  cases p<;>simp[Op.equalIn,Hd underlying61]
 simp only[binOp];simp[show Op.equal 61 (.slice p n c) (.slice none 0 0)=Op.equalIn (9999+1) 61 (.slice p n c) (.slice none 0 0) from rfl,h 9999]
theorem zR(w:World):(w.alloc (.cells #[] 9)).ownsRow w.heap.size 9 1 (.slice (some ⟨w.heap.size,0,none⟩) 0 0) 0 []:=
 ⟨by rfl,.inr ⟨w.heap.size,0,#[],rfl,Ae _,AQ w _,Ae _,AV _,rfl,by rfl⟩⟩
theorem aBp{w:World}{q:Option Addr}{cap:Nat}{l:List T}(h:Du w q l)(hq:q=none→cap=0)(hl:l.length≤1000000):
  Calls prog 149 #[.slice q l.length cap] w fun e w'=>∃ v',e=.returned v'∧Bq w' w.heap.size v' l∧(v'=.slice none 0 0→l=[])∧Bw w w':=by
 obtain⟨i0,Bl,AY,Ba,Be⟩:=DC TV;cases q with
 |none=>
  obtain rfl:cap=0:=hq rfl;have Mt:l=[]:=by
   cases l with
   |nil=>rfl
   |cons x l=>obtain⟨p,e,_⟩:=h 0 (by simp);cases e
  subst Mt;have hqe:=fun w=>jo w none 0 0
  clear h
  go_in
  go_wp2;go_ret;exact⟨_,rfl,by unfold Bq;rw[M5];exact DZ _ _ _ _,by first|exact⟨fun _=>rfl,Ai _ _⟩|exact Ai _ _⟩
 |some p=>
  have HH:=Hi (h.below (AU w (.cells #[] 9)));have hqe:=fun w=>jo w (some p) l.length cap
  clear h hq
  go_in
  go_wp2_with (at_builtin;refine wpList_append_own_at _ rfl _ _ 61 rfl w.heap.size 9 i0 _ 1 16 underlying61 Bl AY Ba Be rfl (by decide) _ 0 [] rfl (zR w) p l.length cap (strCells l) rfl (by rw[strCells_length,Nat.mul_one]) (fun j u hj=>by
   have Kb:j < l.length:=by
    have:=(U1.1 hj).1;rwa[strCells_length] at this
   rw[YA l j Kb] at hj;obtain⟨p2,hp,hc⟩:=HH j Kb;cases hp;rw[hc,←hj]) (adv _) (by unfold maxLen;omega) (by omega) (by rw[Ay];omega) ?_;intro v' w1 hown AJ hne hat)
  go_ret;refine⟨v',rfl,by unfold Bq;rw[Ha,Ei] at hown;exact hown,fun e=>?_,(AU w _).grown AJ (by rw[Ay];omega) (fun k e=>?_)⟩
  ·rw[Ha] at hown;rcases hown.2 with⟨e1,e2⟩|⟨g,c2,cur,e1,_⟩
   ·exact Ld.1 e2
   ·rw[e] at e1;injection e1 with e1;cases e1
  ·have e':some w.heap.size=some k:=e;have:=GQ e';omega
theorem asb{w:World}{q0:Option Addr}{c0:Nat}{l:List (List UInt8)}(h:Du w q0 l)(hq0:q0=none→c0=0)(hl:l.length≤1000000):
  Calls prog 106 #[.slice q0 l.length c0] w fun e w'=>∃ v',e=.returned v'∧Bq w' w.heap.size v' (Bi l)∧Bw w w':=by
 have HC:=Hi (aBp h hq0 hl);clear h hq0
 go_in
 go_wp2_with fail;refine HC.mono ?_;rintro e w1⟨v1,rfl,DI,FU,Aj⟩;rcases DI.parts with⟨rfl,rfl⟩|⟨g,cap,rfl,hg,ZK,PN,NT⟩
 ·have HB1:=Hi Aj;clear DI FU Aj;go_wp2_with fail;refine(AnyM.slices_Sort_string_none Xy none 0 _).mono ?_;rintro e w2⟨rfl,rfl⟩;go_wp2_with fail;refine(Any.slices_Compact_string_empty fG none 0 _).mono ?_;rintro e w3⟨rfl,rfl⟩;go_wp2;go_ret;exact⟨_,rfl,by unfold Bq;rw[show Bi []=[] by simp[Bi,Lib.compact,Lib.compactUpTo],M5];exact DZ _ _ _ _,HB1⟩
 ·have TB:=DI;unfold Bq at TB;rw[M5] at TB;obtain⟨g2,cap2,e2,_,_,_,_,_,hH⟩:=holds_of_ownsRow TB (by simp);cases e2;have D5:=Hi TB;have HB1:=Hi Aj;have HH:=Hi hH;clear DI TB FU Aj hH;go_wp2_with fail;refine(AnyM.slices_Sort_string Xy g 0 cap l _ HH NT (by omega)).mono ?_;rintro e w2⟨rfl,n,os,rfl⟩;have CG:(l.mergeSort fun x y=>decide (x≤y)).length=l.length:=by simp
  have Dn:=ownsRow_putRow (q:=n) D5 CG (Ae _);have Ac:=below_putRow (q:=n) (enc:=encStr) (d:=(l.mergeSort fun x y=>decide (x≤y)).toArray) HB1 hg;have JH:=Bv Dn (ub (below_grow (Ai _ _) (Ae _) os)) (fun _ _ f=>f);have Ap:=below_grow Ac Ac.size os;clear Dn Ac;rw[Gu (by rw[CG];omega)] at JH;obtain⟨S,UG⟩:∃ S,(l.mergeSort fun x y=>decide (x≤y))=S:=⟨_,rfl⟩;have hR:Hid (Bi l=Lib.compact S):=Hi (by unfold Bi;rw[UG]);rw[UG] at JH Ap CG ⊢;generalize Go.Sort.grow (Go.Sort.putRow encStr (Sort.ahead w1 n) g 0 S.toArray) os=w3 at*;obtain⟨g3,pJ,e3,_,_,_,_,_,Zn⟩:=holds_of_ownsRow JH (by simp);cases e3;have UK:=Any.slices_Compact_string fG g 0 cap S w3 Zn (by omega) (by omega);rw[←CG] at JH;rw[show(uj.f 194)=71 from rfl,CG] at UK;have xA:=Hi UK;have Oj:=Hi JH;have Au:=Hi Ap;have HH3:=Hi Zn;clear JH Ap Zn UK;go_wp2_with fail;refine xA.mono ?_;rintro e w4⟨rfl,q,rfl⟩;rw[←CG];have BN:=compact_length_le S;have UZ:=ownsRow_putRow (q:=q) (k:=(Lib.compact S).length) Oj (ys:=Lib.compact S++List.replicate (S.length -(Lib.compact S).length) []) (by simp;omega) BN;have AB:=below_putRow (q:=q) (enc:=encStr) (d:=(Lib.compact S++List.replicate (S.length -(Lib.compact S).length) []).toArray) Au hg;rw[IU rfl] at UZ;generalize Go.Sort.putRow encStr (Sort.ahead w3 q) g 0 (Lib.compact S++List.replicate (S.length -(Lib.compact S).length) []).toArray=w4 at*;have y7:=Hi UZ;have AX:=Hi AB;clear UZ AB;go_wp2;go_ret;refine⟨_,rfl,?_,AX⟩;unfold Bq;rw[hR.out,M5];exact y7.out
end Ar
section
open Go.Maps Av
theorem adC:∀ {l:List (List UInt8)} {S:List UInt8},BK l=some S→S.length≤l.length*65537
 |[],S,h=>by
  simp only[BK,Ci] at h;subst h;exact Ae _
 |x :: l,S,h=>by
  simp only[BK] at h;cases h1:Eg x with
  |none=>rw[h1] at h;cases h
  |some y=>
   cases h4:BK l with
   |none=>rw[h1,h4] at h;cases h
   |some z=>
    rw[h1,h4] at h;simp only[CL,EK,Ci] at h;subst h;have:=adC h4;unfold Eg at h1;split at h1
    ·simp only[Ci] at h1;subst h1;have GK:(A9.le 2 x.length).length=2:=A9.C9 _ _;simp only[AA,BG,GK];omega
    ·cases h1
theorem ayJ(l:List (List UInt8))(a:Option Addr)(cap:Nat)(w:World)(hl:Du w a l)(hlen:l.length≤maxLen)(Es:l.length≤10000):
  Calls prog 105 #[.slice a l.length cap] w fun e w'=>e=.returned (.tuple #[.string (bs (D8 l).1),.int .i64 (D8 l).2])∧Bw w w':=by
 unfold maxLen at hlen;by_cases aaR:65535 < l.length
 ·have hR:Hid (D8 l=([],5)):=Hi (by unfold D8 GN;rw[Ab (by omega)]);rw[hR.out];clear hl
  go_in
  go_wp2_with fail;all_goals
   go_ret2;exact⟨rfl,Ai _ _⟩
 ·have HL:=Hi hl;have Bg:Bw w (w.alloc (.cells #[.pointer none,.slice none 0 0] 210)):=(Ai _ w).alloc (Ae _) _;have AR:=Hi Bg;have DV:=Hi (Ej.made w);clear hl Bg
  go_in
  go_wp2_with fail;refine(jh l.length 2 _ (by decide)).mono ?_;rintro e w1⟨rfl,hb⟩;have Fq:=DV.upd (ub hb) (fun _ _ f=>f);have Qj:=Hi Fq;have HB1:=Hi (AR.trans (hb.mono (by rw[Ay];omega)));clear hb Fq;go_wp2_with fail;refine(Xq Qj (A9.le 2 l.length) (by simp[A9.C9])).mono ?_;rintro e w2⟨rfl,fp2,h1,h2,h3⟩;rw[Ei] at h1;have GI:∀ q,fp2 q→w.heap.size≤q:=fun q hq=>by
   rcases h3 q hq with h|h
   ·rcases h with h|h
    ·omega
    ·simp[Value.ownBlock] at h
   ·have:=HB1.size;omega
  have Ak:=Hi (Cy HB1 h2 (fun i hi=>by rcases hi with h|h;omega;simp[Value.ownBlock] at h) HB1.size);have Pf:=Hi h1;have Fe:=Hi GI;clear h1 h2 h3 GI;go_wp2
  go_loopw [19] (fun i wr=>∃ (k:Nat) (S:List UInt8) (fp:Nat→Prop),k≤l.length∧i=.int .i64 k∧BK (l.take k)=some S∧Ej wr w.heap.size (A9.le 2 l.length++S) fp∧(∀ q,fp q→w.heap.size≤q)∧Bw w wr) (fun i _=>l.length -(intOf i).toNat)
  case atStart=>exact⟨0,[],fp2,by omega,rfl,rfl,by rw[Ea];exact Pf.out,Fe,Ak⟩
  case round=>
   clear DV Qj Pf AR HB1 Ak Fe;obtain⟨k,S,fp,hk,rfl,hS,Fq,GI,hb⟩:=hrel;have HS:=Hi hS;have DV:=Hi Fq;have Fe:=Hi GI;have HB:=Hi hb;clear hS Fq GI hb;by_cases hlt:k < l.length
   ·obtain⟨q,Iu,hq⟩:=(HL.below HB).index cap k hlt;have GK:=adC HS.out;rw[AZ] at GK;have KI:=Hi (adD hlt HS);by_cases OA:65535 < l[k].length
    ·have hR:Hid (D8 l=([],5)):=Hi (by unfold D8 GN;rw[Ad (by omega),vR hlt OA];rfl);clear GK;generalize l[k]=x at*;go_wp2_with fail;refine(acM x _ OA).mono ?_;rintro e w3⟨rfl,rfl⟩;go_wp2;go_ret2;rw[hR.out];exact⟨rfl,HB⟩
    ·have Gq:l[k].length≤65535:=(by omega);have hle:S.length+l[k].length≤1000000000:=(by have:=P9 65537 (show min k l.length≤10000 by omega);omega);clear GK OA;generalize l[k]=x at*;go_wp2_with fail;refine(acN x _ Gq).mono ?_;rintro e w3⟨rfl,Ap⟩;have U6:=Hi (DV.upd (ub Ap) (fun _ _ f=>f));have Au:=bH HB Ap;clear Ap hq;go_wp2_with fail;refine(Xq U6 (A9.le 2 x.length++x) (by simp[A9.C9];omega)).mono ?_;rintro e w4⟨rfl,PH,h1,h2,h3⟩;have x9:=Hi h1
     have xG:=Hi (show ∀ q,PH q→w.heap.size≤q from fun q hq=>by
      rcases h3 q hq with h|h
      ·exact Fe q h
      ·exact Aw Au.size h)
     have AX:=Hi (Cy Au h2 Fe Au.size);clear h1 h2 h3;go_wp2;go_roundw
     case rel=>exact⟨k+1,S++(A9.le 2 x.length++x),PH,by omega,by go_num,by rw[KI.out];unfold Eg;rw[Ad Gq];rfl,by rw[←Dz];exact x9.out,xG.out,AX.out⟩
     case measure=>simp[intOf];omega
   ·obtain rfl:k=l.length:=(by omega);go_wp2_with fail;refine(Xp DV).mono ?_;rintro e w3⟨rfl,hu⟩;have Au:=Hi (Cy HB hu Fe HB.size)
    have hR:Hid (D8 l=(A9.le 2 l.length++S,0)):=Hi (by
     have h:=HS.out;rw[Da] at h;unfold D8 GN;rw[Ad (by omega),h];rfl)
    clear hu;go_wp2;go_ret2;rw[hR.out];exact⟨rfl,Au⟩
end
namespace Ch
open Go.Maps
open Av Ag Ar Bt Kp BI Hex BH Al Mem
structure Zf(w:World)(q:Addr)(u:T×List T):Prop where
 run:w.cell? q=some (.string (bs u.1))
 keys:∃ kq kc,w.cell? ⟨q.block,q.off+1,none⟩=some (.slice kq u.2.length kc)∧Du w kq u.2∧(kq=none→kc=0)
def MX(w:World)(a:Option Addr)(l:Us):Prop:=∀ i,(h:i < l.length)→∃ p:Addr,a=some p∧Zf w (p.add (i*2)) l[i]
theorem aoo:(prog.info? 63).map (fun i=>(i.zero,i.size,i.bytes))=some (some (.agg #[.string ByteArray.empty,.slice none 0 0]),2,40):=by kernel_rfl
section
variable {w w':World}{a:Option Addr}{l:Us}
theorem Zf.below{q:Addr}{u:T×List T}(h:Zf w q u)(hb:Bw w w'):Zf w' q u:=by
 obtain⟨kq,kc,h1,h2,h3⟩:=h.keys;have hlt:=Cr h.run;exact⟨(hb.cell hlt).trans h.run,kq,kc,(hb.cell (p:=⟨q.block,q.off+1,none⟩) hlt).trans h1,h2.below hb,h3⟩
theorem MX.below(h:MX w a l)(hb:Bw w w'):MX w' a l:=fun i hi=>by
 obtain⟨p,e,hp⟩:=h i hi;exact⟨p,e,hp.below hb⟩
theorem MX.index(h:MX w a l)(cap k:Nat)(hk:k < l.length):
  ∃ q:Addr,(∀ W,(Instr.indexAt 31 (.slice a l.length cap) (.int .i64 (k:Int))).run prog W=.ok (.pointer (some q)) W)∧Zf w q l[k]:=by
 obtain⟨p,rfl,hp⟩:=h k hk;exact⟨_,fun W=>IB prog _ 63 underlying31 2 (by kernel_rfl) p l.length cap k hk W,hp⟩
end
theorem azk{K:Kind}{lt:M}{L:List (T×M)}(h:Kp.EF K lt L){p:T×T}{l:M}(hl:l=BM K (lt++[p]) (K.nm p.1)):Kp.EF K (lt++[p]) (Ch.putRow L (K.nm p.1) l):=by
 unfold Ch.putRow;refine⟨Js.2 ⟨fun hm=>?_,List.Sublist.nodup (List.Sublist.map (fun x:T×M=>x.1) (List.filter_sublist (p:=fun x:T×M=>!(x.1 == K.nm p.1)) (l:=L))) h.nodup⟩,fun t=>?_,fun x hx=>?_⟩
 ·obtain⟨x,hx,e⟩:=Bz.1 hm;have:=(FZ.1 hx).2;simp[e] at this
 ·rw[Ca,Cc,CK,Eh,List.map_singleton,FJ];constructor
  ·rintro(e|e)
   ·exact .inr e
   ·obtain⟨x,hx,e2⟩:=Bz.1 e;exact .inl ((h.names t).1 (by rw[←e2];exact Hu (FZ.1 hx).1))
  ·rintro(e|e)
   ·by_cases ht:t=K.nm p.1
    ·exact .inl ht
    ·obtain⟨x,hx,e2⟩:=Bz.1 ((h.names t).2 e);refine .inr (Bz.2 ⟨x,FZ.2 ⟨hx,?_⟩,e2⟩);have e2:x.1=t:=e2;simp[e2,ht]
   ·exact .inl e
 ·rcases Cc.1 hx with rfl|hx
  ·exact hl
  ·obtain⟨h1,h2⟩:=FZ.1 hx;have h2:x.1≠K.nm p.1:=(by simpa using h2);rw[NK,Ab (fun e=>h2 e.symm)];exact h.rows x h1
theorem aAE{V:World}{o pb:Nat}{q:Option Addr}{c:Nat}{l:M}{pr:T×T}(ho:V.heap[o]?=some (.cells #[.slice q l.length c,.slice (some ⟨pb,0,none⟩) 1 1] 30))(hp:V.heap[pb]?=some (.cells #[.string (bs pr.1),.string (bs pr.2)] 51))(hr:Bf V q l)(hq:q=none→c=0)(hc:l.length≤c)(hl:l.length≤1000):
  Calls prog 97 #[.slice (some ⟨o,0,none⟩) 2 2] V fun e w'=>∃ q' c',e=.returned (.slice q' (L6 [l,[pr]]).length c')∧BJ w' V.heap.size (.slice q' (L6 [l,[pr]]).length c') (L6 [l,[pr]])∧Bw V w':=by
 have abO:yS V (some ⟨o,0,none⟩) [l,[pr]]:=by
  intro i hi;have JG:i < 2:=hi;refine⟨_,rfl,?_⟩;rw[add_plain]
  match i,JG with
  |0,_=>exact⟨q,c,cr ho,hr,hq,hc⟩
  |1,_=>
   refine⟨some ⟨pb,0,none⟩,1,cr ho,?_,(fun e=>by cases e),Ae _⟩;intro j hj;obtain rfl:j=0:=(by simpa using hj);refine⟨_,rfl,?_,?_⟩
   ·rw[add_plain,BL _ _ _ _ _ _ hp];rfl
   ·rw[add_plain]
    show V.cell? ⟨pb,0+0*2+1,none⟩=_
    rw[BL _ _ _ _ _ _ hp];rfl
 refine(alN (cap:=2) abO (by simp;omega) (by simp)).mono ?_;rintro e w'⟨v,rfl,h1,h2,h3⟩;obtain⟨q',c',rfl,-,-⟩:=FH h1;exact⟨q',c',rfl,an9 h1 h3,h2⟩
def yT(w:World)(m:Nat)(l:Us)(i:Value)(wr:World):Prop:=
 ∃ (k:Nat) (L:List (T×M)) (g:T→Value),k≤l.length∧i=.int .i64 (k:Int)∧Gz wr w.heap.size m L g∧Kp.EF Aa (BA (l.take k)) L∧Bw w wr∧Fits Aa (BA (l.take k))∧MW (l.take k)
theorem ash{w:World}{p y:Nat}{A:M}{q:Option Addr}{cap:Nat}{l:Us}{Q:Int→World→Prop}(hm:EN w p y)(hg:Ar.Pb w y A)(D9:∀ k,Ag.get A (Aa.nm k)=none)(hk:MX w q l)(hl:l.length≤1000)(Dw:∀ x∈l,x.1.length≤1000000∧x.2.length≤10000)(FL:∀ j name,Small (BM Aa (BA (l.take j)) name))
  (hf:∀ W,Bw w W→Calls prog 175 #[.pointer (some ⟨y,0,none⟩)] W fun e w'=>e=.returned (.int .i64 0)∧W=w')
  (h5:¬ (MW l∧Fits Aa (BA l))→∀ w',Bw w w'→Q 5 w')
  (hc:MW l∧Fits Aa (BA l)→∀ W q c,Bw w W→Eb W q (ES Aa (BA l))→Calls prog 17 #[.pointer (some ⟨y,0,none⟩),.slice q (ES Aa (BA l)).length c] W fun e w'=>∃ c,e=.returned (.int .i64 c)∧Q c w'):
  Calls prog 42 #[.pointer (some ⟨p,0,none⟩),.slice q l.length cap] w fun e w'=>∃ c,e=.returned (.int .i64 c)∧Q c w':=by
 have HF:=Hi hf;have H5:=Hi h5;have HC:=Hi hc;have HM:=Hi hm;have HG:=Hi hg;have HK:=Hi hk;have DW:=Hi D9;have KD:=Hi Dw;have Oq:=Hi FL;have kY:=hm.lt;clear hf h5 hc hm hg hk D9 Dw FL;have Ng:=@run_makeMap prog
 go_in
 go_wp2_with fail;refine(ags (P:=fun W w'=>W=w') HM (HF _ (Ai _ _))).mono ?_;rintro e w1⟨rfl,Kk⟩;subst Kk;go_wp2_with fail;have jX:=AU w (.map #[] 0);have Pp:=Hi (show yT w w.heap.size l (.int .i64 0) (w.alloc (.map #[] 0)) from⟨0,[],fun _=>.slice none 0 0,AV _,rfl,Gz.made w w.heap.size _ (Ae _),by rw[Gg];exact Kp.EF.nil,jX,by rw[Gg];exact zZ,by rw[Gg];exact fun u hu=>by simp at hu⟩);generalize w.alloc (.map #[] 0)=V at*;clear jX
 go_loopw [24] (fun i wr=>yT w w.heap.size l i wr) (fun i _=>l.length -(intOf i).toNat)
 case atStart=>exact Pp.out
 case round=>
  obtain⟨k,L,g,hk,rfl,he,GZ,hb,Cf,NZ⟩:=hrel;have HE:=Hi he;have X8:=Hi GZ;have HB:=Hi hb;have Lm:=Hi Cf;have Z5:=Hi NZ;clear he GZ hb Cf NZ Pp;by_cases hlt:k < l.length
  ·obtain⟨a,Cs,ha⟩:=(HK.below HB).index cap k hlt;have c0:=ha.run;obtain⟨kq,kc,c1,Gl,ek⟩:=ha.keys;have Lr:=Hi (CQ hlt);obtain⟨LU,Y1⟩:=KD _ Lr.out;have Cv:=Hi (Cx hlt);have KI:=Hi (fun name=>Oq (k+1) name);obtain⟨u,hu⟩:=ex (l[k]);rw[hu] at Lr Cv c0 c1 Gl LU Y1;obtain⟨run,keys⟩:=u;clear ha hu;have Ce:=AU wr (.cells #[.string (bs run),.slice kq keys.length kc] 63);have Xf:=Hi (AQ wr (.cells #[.string (bs run),.slice kq keys.length kc] 63));have iB:=Hi (asb (Gl.below Ce) ek (by omega));have Aq:=bH HB Ce;have Rt:=Hi (HE.below Ce);simp only at c0 c1 LU Y1;clear Gl Ce;go_wp2_with fail;refine iB.mono ?_;rintro e w1⟨v1,rfl,Q0,Aj⟩;obtain⟨rq,rc,rfl⟩:=Bo Q0;have aEz:=Vh keys;have Ck:=Hi (ayJ (Bi keys) rq rc w1 (Hr Q0) (by unfold maxLen;omega) (by omega));have HB1:=bH Aq Aj;have Jd:=Hi (Rt.below Aj);have oO:=Hi ((Aj.block _ (Ao Xf)).trans Xf);obtain⟨ub,hub⟩:=ex (wr.heap.size);rw[hub] at oO;have aEH:w.heap.size≤ub:=(by rw[←hub];exact HB.size);clear Q0 Aj Aq Rt Xf iB Cs c0 c1;by_cases hz:(D8 (Bi keys)).2=0
   case neg=>
    have TK:D8 (Bi keys)=([],5):=by
     unfold D8 at hz ⊢;cases eZ:GN (Bi keys) with
     |none=>rfl
     |some s=>rw[eZ] at hz;exact absurd rfl hz
    have Oi:=Hi (H5 (fun h=>hz (h.1 _ Lr)));rw[TK] at Ck;clear TK hz;go_wp2_with fail;refine Ck.mono ?_;rintro e w2⟨rfl,Ac⟩;have HQ:=Hi (Oi w2 (bT HB1 Ac));clear Ac;go_wp2;go_ret;exact⟨5,rfl,HQ⟩
   case pos=>
    obtain⟨s,hs⟩:=ex ((D8 (Bi keys)).1);have Yf:D8 (Bi keys)=(s,0):=Prod.ext hs hz;rw[Yf] at Ck;have yj:=Hi (show MW (l.take (k+1)) from by rw[Cv.out];exact anb.2 ⟨Z5,hz⟩);have EM:=Hi (show BA (l.take (k+1))=BA (l.take k)++[(run,s)] from by rw[Cv.out,aos];unfold Qf;rw[hs]);have Ju:=Hi (fun(W:World)=>qf run W (by omega));have EI:(Aa.nm run).length=17:=jl run;clear hz hs Yf;go_wp2_with fail;refine Ck.mono ?_;rintro e w2⟨rfl,Ac⟩;have Ak:=bH HB1 Ac;have WZ:=Hi (Jd.below Ac);have oP:=Hi ((Ac.block _ (Ao oO)).trans oO);have cu2:w2.cell? ⟨ub,0,none⟩=some (.string (bs run)):=cr oP.out;clear Ac HB1 Jd oO Ck;go_wp2_with fail;refine(Ju _).mono ?_;rintro e w3⟨rfl,Ap⟩;have bu:=Hi (WZ.below Ap);have Au:=bH Ak Ap;have bP:=Hi ((Ap.block _ (Ao oP)).trans oP);clear Ap cu2 Ak WZ oP;have XF:L.length≤1000:=by
     have:=uV X8.out;rw[P5,AZ] at this;omega
    have HSG:=Hi (KI (Aa.nm run))
    have Qp:=Hi (show Fits Aa (BA l)→(BV (BM Aa (BA (l.take k)++[(run,s)]) (Aa.nm run))).isSome=true from fun h=>by
     have h1:=h k (by rw[P5];exact hlt);rw[←wu,EM.out] at h1;have h2:(BA l)[k]'(by rw[P5];exact hlt)=(run,s):=by
      have e1:(BA (l.take (k+1)))[k]?=(BA l)[k]? :=by
       rw[wu,List.getElem?_take,Ad (by omega)]
      rw[EM.out,List.getElem?_append_right (by rw[P5,AZ];omega),P5,AZ,Ih hk,Nat.sub_self] at e1;have e2:=e1.symm;rw[CJ (by rw[P5];exact hlt)] at e2;exact GQ e2
     rw[h2] at h1;exact h1)
    by_cases D6:Aa.nm run∈L.map (·.1)
    case' pos=>
     obtain⟨⟨t,l1⟩,hx,Ho⟩:=Bz.1 D6;have Ho:t=Aa.nm run:=Ho;subst Ho;have NU:=bu.uK hx (by rw[EI];decide);have Af:=bu.row _ hx;obtain⟨q1,c1,Nc,Gp,GH⟩:=FH Af;rw[Nc] at NU Af;have eB:l1=BM Aa (BA (l.take k)) (Aa.nm run):=X8.rows _ hx;have G7:=Hi eB;have Ce:=AU w3 (.cells #[.slice q1 l1.length c1] 193);have VJ:=Hi (AQ w3 (.cells #[.slice q1 l1.length c1] 193));have Rt:=Hi (bu.below Ce);have Aq:=bH Au Ce;have RB:=Hi ((Ce.block _ (Ao bP)).trans bP);have Ij:=Hi (Cg Af Ce);have Wi:w.heap.size≤w3.heap.size:=Au.size;clear hx Nc Af Ce eB Ho;generalize TA:Aa.nm run=name at*;have Mg:=Hi TA;clear TA;go_wp2_with fail;obtain⟨wA,TL⟩:=ex (w3.alloc (.cells #[.slice q1 l1.length c1] 193));rw[TL] at VJ Rt Aq RB Ij ⊢;obtain⟨b,OB⟩:=ex (w3.heap.size);rw[OB] at VJ Wi ⊢;clear TL
    case' neg=>
     have NU:=bu.uL D6 (by rw[EI];decide);have Ce:=AU w3 (.cells #[.slice none 0 0] 193);have yC:=Hi (AQ w3 (.cells #[.slice none 0 0] 193));have YK:=bH Au Ce;have xB:=Hi (bu.below Ce);have aqb:=Hi ((Ce.block _ (Ao bP)).trans bP);have jN:=qh (HM.below YK) (XB HG YK) (Aa.nm run) (by rw[EI];decide);have PU:fileOf Aa A (Aa.nm run)=none:=(by unfold fileOf;rw[DW run];rfl);unfold Qx at jN;rw[PU,DW run] at jN;obtain⟨l1,Gm⟩:∃ l1:M,l1=[]:=⟨_,rfl⟩;rw[show((none:Option M).getD [])=l1 from Gm.symm] at jN
     have G7:=Hi (show l1=BM Aa (BA (l.take k)) (Aa.nm run) from by
      rw[Gm,jD];exact fun e=>D6 ((X8.names _).2 e))
     have FT:=Hi jN;have Wi:w.heap.size≤w3.heap.size:=Au.size;clear Ce jN PU Gm;generalize TA:Aa.nm run=name at*;have Mg:=Hi TA;clear TA;go_wp2_with fail;refine FT.mono ?_;rintro e w4⟨q1,c1,rfl,Af,Gp,AB⟩;have tT:=(AB.block _ (Ao yC)).trans yC.out;have zD:w4.cell? ⟨w3.heap.size,0,none⟩=some (.slice none 0 0):=cr tT;have hf4:=Dt w4 w3.heap.size 0 _ _ tT;have LW:=(A7.refl (fun j=>j=w3.heap.size) w4).setCell (p:=⟨w3.heap.size,0,none⟩) (.inl rfl) (.slice q1 l1.length c1);have VJ:=Hi (Cu w4 w3.heap.size 0 _ _ (.slice q1 l1.length c1) tT);have Wv:=Ay w3 (.cells #[.slice none 0 0] 193);have DT:Bw w3 (w4.setCell ⟨w3.heap.size,0,none⟩ (.slice q1 l1.length c1)):=by
      have h1:Bw w3 w4:=(AU w3 _).trans (AB.mono (AU w3 _).size);exact h1.setCell (p:=⟨w3.heap.size,0,none⟩) (Ae _) _
     have Rt:=Hi (bu.below DT);have Aq:=bH Au DT;have RB:=Hi ((DT.block _ (Ao bP)).trans bP)
     have Ij:=Hi (EA (Bv Af LW (fun j hj e=>by
      have:=E9 Af hj;rw[Wv] at this;omega)) (show w.heap.size≤(w3.alloc (.cells #[.slice none 0 0] 193)).heap.size from by rw[Wv];omega))
     clear AB LW DT Wv FT yC YK xB aqb tT Af;go_wp2_with fail;obtain⟨wA,TL⟩:=ex (w4.setCell ⟨w3.heap.size,0,none⟩ (.slice q1 l1.length c1));rw[TL] at VJ Rt Aq RB Ij ⊢;obtain⟨b,OB⟩:=ex (w3.heap.size);rw[OB] at VJ Wi ⊢;clear TL zD hf4
    all_goals
     have avO:l1.length≤1000:=by
      rw[G7.out];have:=qP Aa (BA (l.take k)) name;rw[P5,AZ] at this;omega
     have bQ:=Hi (show Up l1 from by rw[G7.out];exact Tg _ _);have cxb:wA.cell? ⟨b,0,none⟩=some (.slice q1 l1.length c1):=cr VJ.out;have qc:wA.cell? ⟨ub,0,none⟩=some (.string (bs run)):=cr RB.out;have WU:=Hi (fun(W:World) (hW:Bw wA W)=>zk (w:=W) ((Bf.CX Ij).below hW) Gp (by omega) run);have x8:=Hi (fun(W:World) (hW:Bw wA W)=>(hW.block b (Ao VJ)).trans VJ);have aqc:=Hi (fun(W:World) (hW:Bw wA W)=>(hW.block ub (Ao RB)).trans RB);have ZL:(l1.filter fun p=>!(p.1 == run)).length≤1000:=Aw (M8 _ _) avO
     have X7:=Hi (fun(w5:World) (q4:Option Addr) (c4 pb o:Nat) (ho:w5.heap.size=o) (BF:Bw wA w5) (hp:w5.heap[pb]?=some (.cells #[.string (bs run),.string (bs s)] 51)) (I8:Bf w5 q4 (l1.filter fun p=>!(p.1 == run))) (eX:q4=none→c4=0) (Mr:(l1.filter fun p=>!(p.1 == run)).length≤c4)=>
      show Calls prog 97 #[.slice (some ⟨o,0,none⟩) 2 2] (w5.alloc (.cells #[.slice q4 (l1.filter fun p=>!(p.1 == run)).length c4,.slice (some ⟨pb,0,none⟩) 1 1] 30)) fun e w'=>∃ q9 c9,e=.returned (.slice q9 (put run s l1).length c9)∧BJ w' wA.heap.size (.slice q9 (put run s l1).length c9) (put run s l1)∧Bw wA w'∧w'.cell? ⟨b,0,none⟩=some (.slice q1 l1.length c1)∧w'.frozen? ⟨b,0,none⟩=false from by
       subst ho;have h2:=AQ w5 (.cells #[.slice q4 (l1.filter fun p=>!(p.1 == run)).length c4,.slice (some ⟨pb,0,none⟩) 1 1] 30);have CS:=AU w5 (.cells #[.slice q4 (l1.filter fun p=>!(p.1 == run)).length c4,.slice (some ⟨pb,0,none⟩) 1 1] 30);generalize w5.alloc (.cells #[.slice q4 (l1.filter fun p=>!(p.1 == run)).length c4,.slice (some ⟨pb,0,none⟩) 1 1] 30)=w6 at*;refine(aAE (pr:=(run,s)) h2 ((CS.block _ (Ao hp)).trans hp) (I8.below CS) eX Mr ZL).mono ?_;rintro e w'⟨q9,c9,rfl,Q3,FD⟩;have DT:=BF.trans ((bT CS FD).mono BF.size);have hx9:=x8 w' DT;rw[alP bQ (run,s)] at Q3 ⊢;exact⟨q9,c9,rfl,EA Q3 (Aw BF.size CS.size),DT,cr hx9,Dt w' b 0 _ _ hx9⟩)
     have XL:=AU wA (.cells #[.string (bs run),.string (bs s)] 51);have hnP:=AQ wA (.cells #[.string (bs run),.string (bs s)] 51);have Vq:=Hi XL;have bI:=Hi hnP;have arR:(wA.alloc (.cells #[.string (bs run),.string (bs s)] 51)).drew.cell? ⟨ub,0,none⟩=some (.string (bs run)):=(XL.cell (p:=⟨ub,0,none⟩) (Ao RB)).trans qc;have arU:(wA.alloc (.cells #[.string (bs run),.string (bs s)] 51)).drew.cell? ⟨b,0,none⟩=some (.slice q1 l1.length c1):=(XL.cell (p:=⟨b,0,none⟩) (Ao VJ)).trans cxb;clear XL hnP;clear NU Ju;refine aW ?_
     go_region_law
      (first
       |(go_simp;go_at_call 109;refine(WU _ ((Ai _ wA).drew)).mono ?_;rintro e w4 ⟨v4,rfl,I8,AB⟩;obtain⟨q4,c4,rfl,eX,Mr⟩:=FH I8;have AB:Bw wA w4:=((Ai _ wA).drew).trans (AB.mono (Ae _));have arQ:w4.cell? ⟨ub,0,none⟩=some (.string (bs run)):=(AB.cell (p:=⟨ub,0,none⟩) (Ao RB)).trans qc;go_wp2_with fail)
       |(go_simp;go_at_call 109;refine(WU _ Vq.drew).mono ?_;rintro e w4 ⟨v4,rfl,I8,AB⟩;obtain⟨q4,c4,rfl,eX,Mr⟩:=FH I8;have hp4:w4.heap[wA.heap.size]?=some (.cells #[.string (bs run),.string (bs s)] 51):=(AB.block _ (Ao bI)).trans bI.out;have AB:Bw wA w4:=Vq.trans (((Ai _ _).drew.trans (AB.mono (Ae _))).mono Vq.size);have arQ:w4.cell? ⟨ub,0,none⟩=some (.string (bs run)):=(AB.cell (p:=⟨ub,0,none⟩) (Ao RB)).trans qc;go_wp2_with fail)
       |(go_simp;go_at_call 97;refine(X7 w4 q4 c4 _ _ rfl AB hp4 (Bf.CX I8) eX Mr).mono ?_;rintro e w9 ⟨q9,c9,rfl,Q3,FD,cx9,dR⟩;go_wp2_with fail)
       |(go_simp;go_at_call 97;refine(X7 _ q4 c4 _ _ (Ay _ _) (AB.alloc AB.size _) (AQ w4 _) ((Bf.CX I8).below (AU w4 _)) eX Mr).mono ?_;rintro e w9 ⟨q9,c9,rfl,Q3,FD,cx9,dR⟩;go_wp2_with fail))
     all_goals
      dsimp only[Yt];have tV:=x8 w9 FD;have ac8:=Cu w9 b 0 _ _ (.slice q9 (put run s l1).length c9) tV;have arT:(w9.setCell ⟨b,0,none⟩ (.slice q9 (put run s l1).length c9)).cell? ⟨b,0,none⟩=some (.slice q9 (put run s l1).length c9):=cr ac8;have ll:=(A7.refl (fun j=>j=b) w9).setCell (p:=⟨b,0,none⟩) (.inl rfl) (.slice q9 (put run s l1).length c9);have LK:∀ k,k=b→¬ Bb w9 k 51:=fun k e hb=>by
       obtain⟨cs,fr,hb⟩:=hb;rw[e,tV] at hb;injection hb with hb
       injection hb with _ hb
       exact absurd hb (by decide)
      have ain:Gz (w9.setCell ⟨b,0,none⟩ (.slice q9 (put run s l1).length c9)) w.heap.size w.heap.size L g:=by
       have aip:=Rt.below FD;have hNB:¬ Bb w9 w.heap.size 193:=aip.Dl;obtain⟨⟨kv,h1,h2⟩,h3,h4,h6⟩:=aip;exact⟨⟨kv,h1,h2.upd ll (fun e=>hNB (by rw[e];exact⟨_,_,tV⟩))⟩,h3,fun x hx=>Bv (h4 x hx) ll (fun j hj e=>LK j e (Cn (h4 x hx) hj)),h6⟩
      have abJ:=Bv (EA Q3 Aq.size) ll (fun j hj e=>LK j e (Cn Q3 hj));have aaV:=Aq.trans (FD.mono Aq.size);have XK:=Cy aaV ll (fun i e=>by rw[e];exact Wi) aaV.size;have Tv:BM Aa (BA (l.take k)++[(run,s)]) name=put run s l1:=(by rw[NK,Ad Mg.out,←G7.out]);have hsg:=HSG.out;rw[EM.out,Tv] at hsg;obtain⟨aED,akv⟩:=hsg;have SG:=Hi (age (cap:=c9) (Bf.CX abJ) (CU.Ra (bQ.put run s)) (by omega) akv);have hfs:=Qp.out;rw[Tv] at hfs;have iJ:=Hi hfs
      have Vu:=Hi (show Kp.EF Aa (BA (l.take (k+1))) (Ch.putRow L name (put run s l1)) from by
       rw[EM.out,←Mg.out];exact azk X8 (by rw[Mg.out,Tv]))
      have Ub:=Hi (@Fits.mf Aa (BA (l.take k)) (run,s));have afp:=Hi ain;have Nw:=Hi XK;have af3:=Hi abJ;have yD:=Hi ac8;have X0:=Hi Tv;obtain⟨EB,Yi⟩:=ex (w9.setCell ⟨b,0,none⟩ (.slice q9 (put run s l1).length c9));rw[Yi] at SG afp Nw af3 yD arT ⊢;clear Yi tV ac8 ll LK ain abJ aaV XK Tv akv hfs Q3 FD cx9 dR I8 AB eX Mr X7 WU x8 aqc Vq bI arR arU cxb qc D6;generalize put run s l1=l2 at*;by_cases DF:(BV l2).isSome=true
      ·rw[Ad DF] at SG
       have YO:=Hi (show Fits Aa (BA (l.take (k+1))) from by
        rw[EM.out];refine Ub.2 ⟨Lm,?_⟩;rw[Mg.out,X0.out];exact DF)
       generalize (BV l2).getD []=ct at*;clear DF;go_wp2_with fail;refine SG.mono ?_;rintro e YG⟨rfl,QI⟩;have akM:=(QI.block _ (Ao yD)).trans yD.out;have aDA:YG.cell? ⟨b,0,none⟩=some (.slice q9 l2.length c9):=cr akM;obtain⟨wF,aEB,ail,ajg⟩:=(afp.below QI).put (name:=name) (by rw[EI];decide) (Cg af3 QI) (by unfold maxLen;omega);have Tk:=(bT Nw QI).grown ajg (bT Nw QI).size (fun k e=>Nat.le_of_eq (GQ e));have CF:=Hi (show yT w w.heap.size l (.int .i64 ((k:Int)+1)) wF from⟨k+1,_,_,by omega,by go_num,ail,Vu,Tk,YO,yj⟩);generalize l2.length=n2 at*;clear QI akM ail ajg Tk;go_wp2;go_roundw
       case rel=>exact CF.out
       case measure=>
        show l.length -((k:Int)+1).toNat < l.length -((k:Int)).toNat
        omega
      ·rw[Ab DF] at SG;have VB:=Hi (H5 (fun h=>DF (iJ h.2)));generalize (BV l2).getD []=ct at*;generalize l2.length=n2 at*;clear DF;go_wp2_with fail;refine SG.mono ?_;rintro e YG⟨rfl,QI⟩;have HQ:=Hi (VB YG (bT Nw QI));clear QI;go_wp2;go_ret;exact⟨5,rfl,HQ⟩
  ·obtain rfl:k=l.length:=(by omega);have Cf:=Lm.out;have NZ:=Z5.out;have GZ:=X8.out;rw[Da] at Cf NZ GZ;have XF:L.length≤100000:=by
    have:=uV GZ;rw[P5] at this;omega
   have e1:=GZ.pU;have e2:=GZ.fits Cf
   have Ph:=Hi (agt (Q:=Q) (HM.below HB) HE (fun x hx=>by
    have h1:=Oq l.length x.1;rw[Da] at h1;rw[GZ.rows x hx];exact⟨CU.Ra (Tg _ _),Aw h1.1 (by decide),h1.2⟩) (fun x hx=>by
    obtain⟨z,_,hz⟩:=Bz.1 ((GZ.names x.1).1 (Hu hx));rw[←hz,jl];decide) XF (fun h=>absurd e2 h) (fun _ W q c hW Zx=>by
    rw[e1] at Zx ⊢;exact HC ⟨NZ,Cf⟩ W q c (bT HB hW) Zx))
   clear Cf NZ GZ e1 e2;go_wp2_with fail;refine Ph.mono ?_;rintro e w9⟨cc,rfl,ZT⟩;go_wp2;go_ret;exact⟨cc,rfl,ZT⟩
end Ch
namespace Hv
open Go.Maps
open Av Ag Bt Kp BI Hex BH Al Mem Ch
open Ar
def JM(l:M):Nat:=(l.map fun p=>p.1.length+p.2.length).sum
def OY(l:M):Nat:=(l.map fun p=>p.1.length+min p.2.length 8192).sum
theorem az0(l:M)(k:Nat)(h:k < l.length):JM (l.take (k+1))=JM (l.take k)+l[k].1.length+l[k].2.length:=by
 unfold JM;rw[Cx h,CK,Lg];simp;omega
theorem ayY(l:M)(k:Nat)(h:k < l.length):OY (l.take (k+1))=OY (l.take k)+l[k].1.length+min l[k].2.length 8192:=by
 unfold OY;rw[Cx h,CK,Lg];simp;omega
theorem ayZ(l:M)(b:Nat)(h:∀ c∈l,c.1.length≤b∧c.2.length≤b):JM l≤l.length*(2*b):=by
 unfold JM
 induction l with
 |nil=>simp
 |cons c l ih=>
  have h1:=ih (fun x hx=>h x (F9 _ hx));have h2:=h c Gf;rw[Ca,DR,BG,Nat.succ_mul];omega
theorem ayX(l:M)(b:Nat)(h:∀ c∈l,c.1.length≤b):OY l≤l.length*(b+8192):=by
 unfold OY
 induction l with
 |nil=>simp
 |cons c l ih=>
  have h1:=ih (fun x hx=>h x (F9 _ hx));have h2:=h c Gf;rw[Ca,DR,BG,Nat.succ_mul];omega
theorem amo(l:M):∀ c∈l,c.1.length+c.2.length≤JM l:=by
 unfold JM
 induction l with
 |nil=>intro x hx;simp at hx
 |cons y l ih=>
  intro x hx;rw[Ca,DR];rcases Cc.1 hx with rfl|hx
  ·omega
  ·have:=ih x hx;omega
def Yn(l:M):Bool:=decide (200 < l.length) || decide (262144 < JM (l.take 400))
theorem axF{l:M}(h:Yn l=false):l.length≤200∧JM l≤262144:=by
 unfold Yn at h;simp only[Bool.or_eq_false_iff,decide_eq_false_iff_not] at h;obtain⟨h1,h2⟩:=h;rw[Gu (by omega)] at h2;exact⟨by omega,by omega⟩
theorem axE{w:World}{a:Option Addr}{cap:Nat}{l:M}(hL:Bf w a l)(hlen:l.length≤maxLen)(hok:∀ c∈l,c.1.length≤reachBytes∧c.2.length≤reachBytes):
  Calls prog 89 #[.slice a l.length cap] w fun e w'=>e=.returned (.bool (Yn l))∧Bw w w':=by
 have HL:=Hi hL;have Gv:=Hi hok;have EH:l.length≤9223372036854775807:=by unfold maxLen at hlen;omega
 clear hL hok hlen
 go_in
 go_wp2
 go_loopw [3,4] (fun n i wr=>∃ k:Nat,k≤l.length∧k≤400∧i=.int .i64 k∧n=.int .i64 (JM (l.take k))∧Bw w wr) (fun _ i _=>400 -(intOf i).toNat)
 case atStart=>exact⟨0,AV _,by omega,rfl,by rw[Gg];rfl,Ai _ _⟩
 case round=>
  obtain⟨k,hk,I6,rfl,rfl,hb⟩:=hrel;have HB:=Hi hb;have D7:JM (l.take k)≤400*(2*reachBytes):=by
   refine Aw (ayZ _ reachBytes (fun c hc=>Gv c (List.mem_of_mem_take hc))) (P9 _ ?_);rw[AZ];omega
  unfold reachBytes at D7;by_cases hlt:k < l.length
  ·by_cases ahZ:k < 400
   ·obtain⟨q,Cs,hq,-⟩:=HL.index cap k hlt;have RO:q.block < w.heap.size:=Cr hq.key;have c0:=(hb.cell RO).trans hq.key;have c1:=(hb.cell (p:=⟨q.block,q.off+1,none⟩) RO).trans hq.val;have Bc:=az0 l k hlt;have D6:=Gv _ (CQ hlt);unfold reachBytes at D6;have Bh:=Hi Bc;clear Bc hq hb;generalize l[k]=x at*;generalize JM (l.take k)=n at*;go_wp2
    go_quiet (fail)
    go_wp2;go_roundw
    case rel=>exact⟨k+1,by omega,by omega,by go_num,by rw[Bh.out];go_num,HB.trans ((FB _ _).mono HB.size)⟩
    case measure=>simp[intOf];omega
   ·have hV:Hid (Yn l=true):=Hi (by unfold Yn;rw[MM (show 200 < l.length by omega)];rfl);have Zm:(200:Int) < (l.length:Int):=(by omega);clear hb;go_wp2;go_ret;exact⟨by rw[hV.out];rfl,HB⟩
  ·obtain rfl:k=l.length:=(by omega);rw[Da] at D7;have hV:Yn l=(decide (200 < l.length) || decide (262144 < JM l)):=by
    unfold Yn;by_cases h:200 < l.length
    ·simp[h]
    ·rw[Gu (by omega)]
   have HV:=Hi hV;rw[Da];clear hb hV;generalize JM l=n at*;by_cases Zm:200 < l.length
   ·have aut:(200:Int) < (l.length:Int):=(by omega);rw[MM Zm,Bool.true_or] at HV;clear Zm;go_wp2;go_ret;exact⟨by rw[HV.out];rfl,HB⟩
   ·have aut:¬ (200:Int) < (l.length:Int):=(by omega);rw[decide_eq_false Zm,Bool.false_or] at HV;clear Zm;go_wp2;go_ret;have rO:decide ((262144:Int) < (n:Int))=decide (262144 < n):=decide_eq_decide.2 (by omega);exact⟨by rw[HV.out,←rO];rfl,HB⟩
structure bX(w:World)(q:Addr)(v:Value):Prop where
 l:w.cell? ⟨q.block,q.off+1,none⟩=some v
 k:w.cell? ⟨q.block,q.off+2,none⟩=some (.slice none 0 0)
 t:w.cell? ⟨q.block,q.off+3,none⟩=some (.string (bs []))
theorem bX.below{w w':World}{q:Addr}{v:Value}(h:bX w q v)(hb:Bw w w'):bX w' q v:=by
 have hl:=Cr h.l;exact⟨(hb.cell (p:=⟨q.block,q.off+1,none⟩) hl).trans h.l,(hb.cell (p:=⟨q.block,q.off+2,none⟩) hl).trans h.k,(hb.cell (p:=⟨q.block,q.off+3,none⟩) hl).trans h.t⟩
theorem uM{w:World}{v:Value}{t:TypeId}{g:Nat}{cs:Array Value}(hg:w.heap.size=g)(hc:cs[1]?=some v∧cs[2]?=some (.slice none 0 0)∧cs[3]?=some (.string (bs []))):bX (w.alloc (.cells cs t)) ⟨g,0,none⟩ v:=by
 subst hg;have hx:=AQ w (.cells cs t);obtain⟨h1,h2,h3⟩:=hc;refine⟨?_,?_,?_⟩<;>(unfold World.cell?;rw[hx];simpa)
def afu(N:Int)(l:M)(w:World)(e:Ending)(w':World):Prop:=∃ h,e=.returned (.bool h)∧Bw w w'∧(h=false→l.length≤20∧JM l≤262144∧OY l≤16384∧N≤200)
theorem aiZ{N:Int}{q:Addr}{a:Option Addr}{cap:Nat}{l:M}{w:World}(hs:bX w q (.slice a l.length cap))(hL:Bf w a l)(hlen:l.length≤maxLen)(hok:∀ c∈l,c.1.length≤reachBytes∧c.2.length≤reachBytes):
  Calls prog 36 #[.int .i64 N,.slice (some q) 1 1] w fun e w'=>afu N l w e w':=by
 have HL:=Hi hL;have Gv:=Hi hok;have HS:=Hi hs;have Fy:=Hi hlen;have EH:l.length≤9223372036854775807:=by unfold maxLen at hlen;omega
 clear hL hok hlen hs;have ZG:∀ W,(Instr.indexAt 91 (.slice (some q) 1 1) (.int .i64 0)).run prog W=.ok (.pointer (some q)) W:=fun W=>by
  have:=IB prog _ 90 underlying91 5 (by kernel_rfl) q 1 1 0 (by omega) W;rw[Nat.zero_mul,add_zero'] at this;exact this
 go_in
 go_wp2
 go_loopw [5,6] (fun n i wr=>((i=.int .i64 0∧n=.int .i64 0)∨(i=.int .i64 1∧n=.int .i64 (OY l)∧l.length≤20∧JM l≤262144))∧Bw w wr) (fun _ i _=>1 -(intOf i).toNat)
 case atStart=>exact⟨.inl ⟨rfl,rfl⟩,Ai _ _⟩
 case round=>
  obtain⟨hi,hb⟩:=hrel;have HB:=Hi hb;rcases hi with⟨rfl,rfl⟩|⟨rfl,rfl,UD,D7⟩
  ·obtain⟨c1,c2,c3⟩:=HS.below hb;clear hb;go_wp2_with fail;refine(axE (HL.below HB) Fy Gv).mono ?_;rintro e w1⟨rfl,Aj⟩;have HB1:=bH HB Aj;obtain⟨c1,c2,c3⟩:=HS.below HB1.out;clear Aj;cases hV:Yn l with
   |true=>
    go_wp2;go_ret;exact⟨true,rfl,HB1,fun h=>by cases h⟩
   |false=>
    have HV:=Hi (axF hV);clear hV;by_cases UD:20 < l.length
    ·have aap:(20:Int) < (l.length:Int):=(by omega);go_wp2;go_ret;exact⟨true,rfl,HB1,fun h=>by cases h⟩
    have aap:¬ (20:Int) < (l.length:Int):=(by omega);go_wp2
    go_loopw [5,7] (fun n j wr=>∃ m:Nat,m≤l.length∧j=.int .i64 m∧n=.int .i64 ((OY (l.take m):Nat):Int)∧Bw w wr) (fun _ j _=>20 -(intOf j).toNat)
    case atStart=>exact⟨0,by omega,rfl,by simp[OY],HB1⟩
    case round=>
     obtain⟨m,hm,rfl,rfl,Ac⟩:=hrel;have Ak:=Hi Ac;obtain⟨c1,c2,c3⟩:=HS.below Ac;have Ww:=ayX (l.take m) reachBytes (fun s hs=>(Gv s (List.mem_of_mem_take hs)).1);rw[AZ,Ih hm] at Ww;have ag:OY (l.take m)≤20*(reachBytes+8192):=Aw Ww (P9 _ (by omega));unfold reachBytes at ag;by_cases UY:m < l.length
     ·obtain⟨q2,avI,DJ,-⟩:=HL.index cap m UY;have RO:q2.block < w.heap.size:=Cr DJ.key;have d0:=(Ac.cell RO).trans DJ.key;have d1:=(Ac.cell (p:=⟨q2.block,q2.off+1,none⟩) RO).trans DJ.val;have FL:=ayY l m UY;have CG:=Gv l[m] (CQ UY);unfold reachBytes at CG;have Oq:=Hi FL;clear FL Ww DJ Ac;generalize l[m]=s at*;generalize OY (l.take m)=T at*;have hmn:(if(8192:Int) < (s.2.length:Int) then(8192:Int) else(s.2.length:Int))=((min s.2.length 8192:Nat):Int):=(by split<;>omega);go_wp2
      go_quiet (fail)
      go_wp2;go_roundw
      case rel=>exact⟨m+1,by omega,by go_num,by rw[Oq.out];go_num,Ak.trans ((FB _ _).mono Ak.size)⟩
      case measure=>simp[intOf];omega
     ·obtain rfl:m=l.length:=(by omega);rw[Da] at ag ⊢;clear Ww UY Ac;go_wp2
      go_loopw [5,8] (fun n j wr=>j=.int .i64 0∧n=.int .i64 ((OY l:Nat):Int)∧Bw w wr) (fun _ j _=>1)
      case atStart=>exact⟨rfl,rfl,Ak⟩
      case round=>
       obtain⟨rfl,rfl,Ap⟩:=hrel;have Au:=Hi Ap;obtain⟨c1,c2,c3⟩:=HS.below Ap;clear Ap;go_wp2;go_roundw
       case rel=>exact⟨.inr ⟨rfl,rfl,by omega,HV.2⟩,Au.out⟩
       case measure=>simp[intOf]
  ·clear hb
   have HP:Hid (∀ b,b=(decide (16384 < (OY l:Int)) || decide (200 < N))→afu N l w (.returned (.bool b)) wr):=Hi (fun b hb=>⟨b,rfl,HB,fun h=>by
    subst hb;simp only[Bool.or_eq_false_iff,decide_eq_false_iff_not] at h;exact⟨UD,D7,by omega,by omega⟩⟩)
   clear D7;generalize OY l=C at*;by_cases h81:(16384:Int) < (C:Int)
   ·go_wp2;go_ret;exact HP _ (by simp;omega)
   by_cases h1:200 < N
   ·go_wp2;go_ret;exact HP _ (by simp;omega)
   ·go_wp2;go_ret;exact HP _ (by simp;omega)
def Nl(l:List T):Nat:=(l.map fun s=>2+min s.length 4096).sum
def IE(l:Us):Nat:=(l.map fun u=>u.1.length+Nl u.2).sum
theorem ax3(l:List T)(k:Nat)(h:k < l.length):Nl (l.take (k+1))=Nl (l.take k)+2+min l[k].length 4096:=by
 unfold Nl;rw[Cx h,CK,Lg];simp;omega
theorem aBX(l:Us)(k:Nat)(h:k < l.length):IE (l.take (k+1))=IE (l.take k)+l[k].1.length+Nl l[k].2:=by
 unfold IE;rw[Cx h,CK,Lg];simp;omega
theorem akX(l:List T):Nl l≤l.length*4098:=by
 unfold Nl
 induction l with
 |nil=>simp
 |cons x l ih=>
  rw[Ca,DR,BG,Nat.succ_mul];omega
theorem aBW(l:Us)(b:Nat)(h:∀ u∈l,u.1.length≤b∧u.2.length≤30):IE l≤l.length*(b+30*4098):=by
 unfold IE
 induction l with
 |nil=>simp
 |cons c l ih=>
  have h1:=ih (fun x hx=>h x (F9 _ hx));have h2:=h c Gf;have h3:=akX c.2;have h4:c.2.length*4098≤30*4098:=P9 _ h2.2;rw[Ca,DR,BG,Nat.succ_mul];omega
theorem aol(l:Us):∀ c∈l,c.1.length≤IE l:=by
 unfold IE
 induction l with
 |nil=>intro x hx;simp at hx
 |cons y l ih=>
  intro x hx;rw[Ca,DR];rcases Cc.1 hx with rfl|hx
  ·omega
  ·have:=ih x hx;omega
def afv(N:Int)(l:Us)(w:World)(e:Ending)(w':World):Prop:=∃ h,e=.returned (.bool h)∧Bw w w'∧(h=false→l.length≤20∧(∀ u∈l,u.2.length≤30)∧IE l≤16384∧N≤200)
theorem aj0{N:Int}{q:Addr}{a:Option Addr}{cap:Nat}{l:Us}{w:World}(hs:bX w q (.slice a l.length cap))(hL:MX w a l)(hlen:l.length≤maxLen)(hok:∀ c∈l,c.1.length≤reachBytes∧c.2.length≤maxLen):
  Calls prog 37 #[.int .i64 N,.slice (some q) 1 1] w fun e w'=>afv N l w e w':=by
 have HL:=Hi hL;have Gv:=Hi hok;have HS:=Hi hs;have Fy:=Hi hlen;have EH:l.length≤9223372036854775807:=by unfold maxLen at hlen;omega
 clear hL hok hlen hs;have ZG:∀ W,(Instr.indexAt 95 (.slice (some q) 1 1) (.int .i64 0)).run prog W=.ok (.pointer (some q)) W:=fun W=>by
  have:=IB prog _ 94 underlying95 4 (by kernel_rfl) q 1 1 0 (by omega) W;rw[Nat.zero_mul,add_zero'] at this;exact this
 obtain⟨i0,Bl,AY,Ba,Be⟩:=DC aoo
 go_in
 go_wp2
 go_loopw [5,6] (fun n i wr=>((i=.int .i64 0∧n=.int .i64 0)∨(i=.int .i64 1∧n=.int .i64 (IE l)∧l.length≤20∧∀ u∈l,u.2.length≤30))∧Bw w wr) (fun _ i _=>1 -(intOf i).toNat)
 case atStart=>exact⟨.inl ⟨rfl,rfl⟩,Ai _ _⟩
 case round=>
  obtain⟨hi,hb⟩:=hrel;have HB:=Hi hb;rcases hi with⟨rfl,rfl⟩|⟨rfl,rfl,UD,Gl⟩
  ·obtain⟨c1,c2,c3⟩:=HS.below hb;clear hb;by_cases UD:20 < l.length
   ·have aap:(20:Int) < (l.length:Int):=(by omega);go_wp2;go_ret;exact⟨true,rfl,HB,fun h=>by cases h⟩
   have aap:¬ (20:Int) < (l.length:Int):=(by omega);go_wp2
   go_loopw [5,7] (fun n j wr=>j=.int .i64 0∧n=.int .i64 0∧Bw w wr) (fun _ j _=>1)
   case atStart=>exact⟨rfl,rfl,HB⟩
   case round=>
    obtain⟨rfl,rfl,Ap⟩:=hrel;have Au:=Hi Ap;obtain⟨c1,c2,c3⟩:=HS.below Ap;clear Ap;go_wp2
    go_loopw [5,8] (fun n j wr=>∃ m:Nat,m≤l.length∧j=.int .i64 m∧n=.int .i64 ((IE (l.take m):Nat):Int)∧Bw w wr∧∀ u∈l.take m,u.2.length≤30) (fun _ j _=>20 -(intOf j).toNat)
    case atStart=>exact⟨0,by omega,rfl,by simp[IE],Au,by simp⟩
    case round=>
     obtain⟨m,hm,rfl,rfl,Ac,Gl⟩:=hrel;have Ak:=Hi Ac;obtain⟨c1,c2,c3⟩:=HS.below Ac;have JW:=Hi Gl;have Ww:=aBW (l.take m) reachBytes (fun s hs=>⟨(Gv s (List.mem_of_mem_take hs)).1,Gl s hs⟩);rw[AZ,Ih hm] at Ww;have ag:IE (l.take m)≤20*(reachBytes+30*4098):=Aw Ww (P9 _ (by omega));unfold reachBytes at ag;by_cases UY:m < l.length
     ·obtain⟨q2,avI,DJ⟩:=(HL.below Ac).index cap m UY;obtain⟨kq,kc,d1,hkt,Y3⟩:=DJ.keys;have d0:=DJ.run;have FL:=aBX l m UY;have CG:=Gv l[m] (CQ UY);unfold reachBytes maxLen at CG;have Oq:=Hi FL;have Cv:Hid (∀ x∈l.take (m+1),x∈l.take m∨x=l[m]):=Hi fun x hx=>by
       rw[Cx UY] at hx;rcases Eh.1 hx with h|h
       ·exact .inl h
       ·exact .inr (by simpa using h)
      have HKT:=Hi hkt;clear FL Ww DJ Ac hkt Y3 Gl;generalize l[m]=s at*;generalize IE (l.take m)=U at*;have Aq:=Hi (Ak.trans ((AU wr (.cells #[.string (bs s.1),.slice kq s.2.length kc] 63)).mono Ak.size));by_cases h30:30 < s.2.length
      ·have auq:(30:Int) < (s.2.length:Int):=(by omega);go_wp2;go_ret;exact⟨true,rfl,Aq,fun h=>by cases h⟩
      have auq:¬ (30:Int) < (s.2.length:Int):=(by omega);go_wp2_with fail;have HA:=Hi (AQ wr (.cells #[.string (bs s.1),.slice kq s.2.length kc] 63));have HKA:=Hi (HKT.below (AU wr (.cells #[.string (bs s.1),.slice kq s.2.length kc] 63)));have e1:(wr.alloc (.cells #[.string (bs s.1),.slice kq s.2.length kc] 63)).cell? ⟨wr.heap.size,1,none⟩=some (.slice kq s.2.length kc):=by
       unfold World.cell?;rw[HA.out];rfl
      generalize wr.alloc (.cells #[.string (bs s.1),.slice kq s.2.length kc] 63)=wa at*;generalize wr.heap.size=g at*;have e0:((U:Nat):Int)+(s.1.length:Int)=((U+s.1.length:Nat):Int):=(by omega);simp only[e0];clear e0
      go_loopw [5,10] (fun n j wr2=>∃ r:Nat,r≤s.2.length∧j=.int .i64 r∧n=.int .i64 ((U+s.1.length+Nl (s.2.take r):Nat):Int)∧Bw wa wr2) (fun _ j _=>30 -(intOf j).toNat)
      case atStart=>exact⟨0,by omega,rfl,by simp[Nl],Ai _ _⟩
      case round=>
       obtain⟨r,hr,rfl,rfl,AB⟩:=hrel;have AX:=Hi AB;have lF:g < wa.heap.size:=Cr e1;have e2:=(AB.cell (p:=⟨g,1,none⟩) lF).trans e1;have V4:=akX (s.2.take r);rw[AZ,Ih hr] at V4;have aw8:Nl (s.2.take r)≤30*4098:=Aw V4 (P9 _ (by omega));clear V4;by_cases ZZ:r < s.2.length
       ·obtain⟨q3,aEf,K8⟩:=(HKA.below AB).index kc r ZZ;have QU:=ax3 s.2 r ZZ;have j3:=Hi QU;clear QU AB;generalize s.2[r]=t at*;generalize Nl (s.2.take r)=O at*;have e0:((U+s.1.length+O:Nat):Int)=(U:Int)+(s.1.length:Int)+(O:Int):=(by omega);simp only[e0];clear e0;go_wp2_with fail;refine⟨⟨r+1,by omega,by go_num,?_,AX⟩,by simp[intOf];omega⟩;rw[j3.out]
        congr 1
        omega
       ·obtain rfl:r=s.2.length:=(by omega);rw[Da] at aw8 ⊢;have FY:(U+s.1.length+Nl s.2:Nat)=IE (l.take (m+1)):=Oq.symm;rw[FY];clear FY ZZ AB
        have HR:=Hi (show ∀ y∈l.take (m+1),y.2.length≤30 from fun y hy=>by
         rcases Cv y hy with h|h
         ·exact JW y h
         ·subst h;omega)
        go_wp2;go_roundw
        case rel=>exact⟨m+1,by omega,by go_num,rfl,Aq.trans (AX.mono Aq.size),HR⟩
        case measure=>simp[intOf];omega
     ·obtain rfl:m=l.length:=(by omega);rw[Da] at ag Gl ⊢;clear Ww UY Ac;have apv:=Hi Gl;clear Gl;go_wp2;go_roundw
      case rel=>exact⟨.inr ⟨rfl,rfl,by omega,apv⟩,Ak.out⟩
      case measure=>simp[intOf]
  ·clear hb
   have HP:Hid (∀ b,b=(decide (16384 < (IE l:Int)) || decide (200 < N))→afv N l w (.returned (.bool b)) wr):=Hi (fun b hb=>⟨b,rfl,HB,fun h=>by
    subst hb;simp only[Bool.or_eq_false_iff,decide_eq_false_iff_not] at h;exact⟨UD,Gl,by omega,by omega⟩⟩)
   clear Gl;generalize IE l=C at*;by_cases h81:(16384:Int) < (C:Int)
   ·go_wp2;go_ret;exact HP _ (by simp;omega)
   by_cases h1:200 < N
   ·go_wp2;go_ret;exact HP _ (by simp;omega)
   ·go_wp2;go_ret;exact HP _ (by simp;omega)
def LB(l:List Am):Nat:=(l.map fun c=>c.data.length).sum
theorem arW(l:List Am)(k:Nat)(h:k < l.length):LB (l.take (k+1))=LB (l.take k)+l[k].data.length:=by
 unfold LB;rw[Cx h,CK,Lg];simp
theorem arV(l:List Am)(b:Nat)(h:∀ c∈l,c.data.length≤b):LB l≤l.length*b:=by
 unfold LB
 induction l with
 |nil=>simp
 |cons c l ih=>
  have h1:=ih (fun x hx=>h x (F9 _ hx));have h2:=h c Gf;rw[Ca,DR,BG,Nat.succ_mul];omega
structure pq(N:Int)(l:M)(us:Us)(fs:List Am):Prop where
 tX:l.length≤20
 u6:JM l≤262144
 aEU:OY l≤16384
 u20:us.length≤20
 uks:∀ u∈us,u.2.length≤30
 vW:IE us≤16384
 f10:fs.length≤10
 ahm:LB fs≤4096
 n8:8≤N
 n200:N≤200
def p8(N:Int)(l:M)(us:Us)(fs:List Am)(w:World)(e:Ending)(w':World):Prop:=∃ h,e=.returned (.bool h)∧Bw w w'∧(h=false→pq N l us fs)
theorem avq{N:Int}{a ua fa:Option Addr}{cap uc fc:Nat}{l:M}{us:Us}{fs:List Am}{w:World}(hL:Bf w a l)(hlen:l.length≤maxLen)(hok:∀ c∈l,c.1.length≤reachBytes∧c.2.length≤reachBytes)
  (hU:MX w ua us)(lu:us.length≤maxLen)(lC:∀ c∈us,c.1.length≤reachBytes∧c.2.length≤maxLen)(hF:Eb w fa fs)(kG:fs.length≤maxLen)(UO:∀ c∈fs,c.name.length≤reachBytes∧c.data.length≤reachBytes):
  Calls prog 11 #[.agg #[.int .i64 N,.slice a l.length cap,.slice ua us.length uc,.slice fa fs.length fc]] w fun e w'=>p8 N l us fs w e w':=by
 have HL:=Hi hL;have Gv:=Hi hok;have Fy:=Hi hlen;have HU:=Hi hU;have afq:=Hi lC;have afn:=Hi lu;have HF:=Hi hF;have iH:=Hi UO;have EH:fs.length≤9223372036854775807:=by unfold maxLen at kG;omega
 clear hL hok hlen hU lC lu hF UO kG
 go_in
 go_wp2_with fail;have AR:=Hi (AU w (.cells #[.int .i64 N,.slice a l.length cap,.slice ua us.length uc,.slice fa fs.length fc] 34));have hx:=AQ w (.cells #[.int .i64 N,.slice a l.length cap,.slice ua us.length uc,.slice fa fs.length fc] 34);generalize lF:w.alloc (.cells #[.int .i64 N,.slice a l.length cap,.slice ua us.length uc,.slice fa fs.length fc] 34)=wa at*;have HX:Hid (∀ wr,Bw wa wr→wr.cell? ⟨w.heap.size,0,none⟩=some (.int .i64 N)∧wr.cell? ⟨w.heap.size,1,none⟩=some (.slice a l.length cap)∧wr.cell? ⟨w.heap.size,2,none⟩=some (.slice ua us.length uc)∧wr.cell? ⟨w.heap.size,3,none⟩=some (.slice fa fs.length fc)):=Hi fun wr hb=>by
  have hk:w.heap.size < wa.heap.size:=(Dq.1 hx).1;refine⟨(hb.cell (p:=⟨w.heap.size,0,none⟩) hk).trans ?_,(hb.cell (p:=⟨w.heap.size,1,none⟩) hk).trans ?_,(hb.cell (p:=⟨w.heap.size,2,none⟩) hk).trans ?_,(hb.cell (p:=⟨w.heap.size,3,none⟩) hk).trans ?_⟩<;>(unfold World.cell?;rw[hx];rfl)
 clear lF hx
 go_loopw [3,4] (fun n i wr=>∃ k:Nat,k≤fs.length∧k≤20∧i=.int .i64 k∧n=.int .i64 (LB (fs.take k))∧Bw wa wr) (fun _ i _=>20 -(intOf i).toNat)
 case atStart=>exact⟨0,AV _,by omega,rfl,by rw[Gg];rfl,Ai _ _⟩
 case round=>
  obtain⟨k,hk,I6,rfl,rfl,hb⟩:=hrel;have HB:=Hi hb;have Ak:=bH AR hb;obtain⟨c0,c1,c2,c3⟩:=HX _ hb;have D7:LB (fs.take k)≤20*reachBytes:=by
   refine Aw (arV _ reachBytes (fun c hc=>(iH c (List.mem_of_mem_take hc)).2)) (P9 _ ?_);rw[AZ];omega
  unfold reachBytes at D7;clear hb;by_cases hlt:k < fs.length
  ·by_cases ahZ:k < 20
   ·obtain⟨q,Cs,hq,-⟩:=(HF.below Ak).index fc k hlt;obtain⟨d0,d1,d2⟩:=hq.cells;have Bc:=arW fs k hlt;have D6:=iH _ (CQ hlt);unfold reachBytes at D6;have Bh:=Hi Bc;clear Bc hq;generalize fs[k]=x at*;generalize LB (fs.take k)=n at*;go_wp2;go_roundw
    case rel=>exact⟨k+1,by omega,by omega,by go_num,by rw[Bh.out];go_num,HB⟩
    case measure=>simp[intOf];omega
   ·have HS:Hid (fs.length≤10→LB (fs.take k)≤4096→LB fs≤4096):=Hi (fun h=>by omega);have Aq:=Hi (HB.trans ((AU wr (.cells #[.int .i64 0,.slice a l.length cap,.slice none 0 0,.string (bs []),.bool false] 90)).mono HB.size));go_wp2_with fail;refine(aiZ (l:=l) (uM rfl ⟨rfl,rfl,rfl⟩) (HL.below (bT AR Aq)) Fy Gv).mono ?_;rintro e w1⟨h1,rfl,Aj,kK⟩;have HB1:=bH Aq Aj;have X4:=Hi kK;clear Aj kK c0 c1 c2 c3 Aq;obtain⟨c0,c1,c2,c3⟩:=HX _ HB1.out;cases h1 with
    |true=>
     go_wp2;go_ret;exact⟨true,rfl,AR.trans (HB1.mono AR.size),fun h=>by cases h⟩
    |false=>
     have AP:=Hi (HB1.trans ((AU w1 (.cells #[.int .i64 0,.slice ua us.length uc,.slice none 0 0,.string (bs [])] 94)).mono HB1.size));go_wp2_with fail;refine(aj0 (l:=us) (uM rfl ⟨rfl,rfl,rfl⟩) (HU.below (bT AR AP)) afn afq).mono ?_;rintro e w2⟨h2,rfl,Ac,kL⟩;have Au:=bH AP Ac;have Ud:=Hi kL;clear Ac kL c0 c1 c2 c3 AP;obtain⟨c0,c1,c2,c3⟩:=HX _ Au.out;have HT:Hid (p8 N l us fs w (.returned (.bool true)) w2):=Hi ⟨true,rfl,AR.trans (Au.mono AR.size),fun h=>by cases h⟩;cases h2 with
     |true=>
      go_wp2;go_ret;exact HT.out
     |false=>
      have IZ:(10:Int) < (fs.length:Int):=(by omega);go_wp2;go_ret;exact HT.out
  ·obtain rfl:k=fs.length:=(by omega);rw[Da] at D7 ⊢;have HS:Hid (fs.length≤10→LB fs≤4096→LB fs≤4096):=Hi (fun _ h=>h);have Aq:=Hi (HB.trans ((AU wr (.cells #[.int .i64 0,.slice a l.length cap,.slice none 0 0,.string (bs []),.bool false] 90)).mono HB.size));go_wp2_with fail;refine(aiZ (l:=l) (uM rfl ⟨rfl,rfl,rfl⟩) (HL.below (bT AR Aq)) Fy Gv).mono ?_;rintro e w1⟨h1,rfl,Aj,kK⟩;have HB1:=bH Aq Aj;have X4:=Hi kK;clear Aj kK c0 c1 c2 c3 Aq;obtain⟨c0,c1,c2,c3⟩:=HX _ HB1.out;cases h1 with
   |true=>
    go_wp2;go_ret;exact⟨true,rfl,AR.trans (HB1.mono AR.size),fun h=>by cases h⟩
   |false=>
    have AP:=Hi (HB1.trans ((AU w1 (.cells #[.int .i64 0,.slice ua us.length uc,.slice none 0 0,.string (bs [])] 94)).mono HB1.size));go_wp2_with fail;refine(aj0 (l:=us) (uM rfl ⟨rfl,rfl,rfl⟩) (HU.below (bT AR AP)) afn afq).mono ?_;rintro e w2⟨h2,rfl,Ac,kL⟩;have Au:=bH AP Ac;have Ud:=Hi kL;clear Ac kL c0 c1 c2 c3 AP;obtain⟨c0,c1,c2,c3⟩:=HX _ Au.out;have HT:Hid (p8 N l us fs w (.returned (.bool true)) w2):=Hi ⟨true,rfl,AR.trans (Au.mono AR.size),fun h=>by cases h⟩;cases h2 with
    |true=>
     go_wp2;go_ret;exact HT.out
    |false=>
     have HG:Hid (∀ b,b=(decide ((10:Int) < (fs.length:Int)) || decide ((4096:Int) < (LB fs:Int)) || decide (N < 8))→p8 N l us fs w (.returned (.bool b)) w2):=Hi fun b hb=>⟨b,rfl,AR.trans (Au.mono AR.size),fun g=>by
      obtain⟨x1,x2,x3,x4⟩:=X4 (by first|rfl|trivial);obtain⟨y1,y2,y3,y4⟩:=Ud (by first|rfl|trivial);subst hb;simp only[Bool.or_eq_false_iff,decide_eq_false_iff_not] at g;exact⟨x1,x2,x3,y1,y2,y3,by omega,by omega,by omega,x4⟩⟩
     clear HS;generalize LB fs=D at*;by_cases IZ:(10:Int) < (fs.length:Int)
     ·go_wp2;go_ret;exact HT.out
     by_cases h4:(4096:Int) < (D:Int)
     ·go_wp2;go_ret;exact HT.out
     by_cases h8:N < 8
     ·go_wp2;go_ret;exact HG _ (by simp<;>omega)
     ·go_wp2;go_ret;exact HG _ (by simp<;>omega)
end Hv
namespace Mem
open Go.Maps
open Av Ag Ar Bt Kp BI Hex BH
def yO(w:World)(q:Option Addr)(cap:Nat)(l:M)(i:Value)(wr:World):Prop:=∃ k:Nat,k≤l.length∧i=.int .i64 k∧Bw w wr∧BJ wr w.heap.size (.slice q l.length cap) l
theorem azP(name data:T)(l:M)(h:Ah.CB name data=some l)(w:World)(hd:data.length≤1000000):Calls prog 185 #[.string (bs name),.string (bs data)] w fun e w'=>∃ q cap,e=.returned (.tuple #[.slice q l.length cap,.bool true])∧BJ w' w.heap.size (.slice q l.length cap) l∧(q=none→cap=0)∧Bw w w':=by
 have hsh:=(gp h).2;obtain⟨hne,DY,Jm,s,GZ,Ki⟩:=Nr h;have kX:A9.Ey data=(s,0):=by rw[Ki];exact A9.acL s
 have CG:s.length≤1000000:=by
  have:data.length=s.length+4:=by rw[Ki];unfold A9.Fx;rw[AA,A9.C9]
  omega
 have HO:=Hi (an3 data w (by omega));rw[kX] at HO;have HG:=Hi (fun(W:World)=>amW s l (qK GZ (CU.Ra DY)) W (by omega));have Ju:=Hi (fun p hp=>(Jm p hp).1);have EM:=Hi DY;have Rz:=Hi hsh;have hlz:((l.length:Int) == 0)=false:=FQ.2 (fun e=>hne (Ld.1 (by omega)));have El:l.length≤65535:=(gp h).1;clear h kX GZ Ki DY Jm hne hsh
 go_in
 go_wp2_with fail;refine HO.mono ?_;rintro e w1⟨rfl,Aj⟩;have HB1:=Hi Aj;clear Aj;go_wp2_with fail;refine(HG _).mono ?_;rintro e w2⟨v,rfl,DK,Ac⟩;obtain⟨q,cap,rfl,hq,hc⟩:=FH DK;have BX:=Hi (EA DK HB1.size);have Ak:=bH HB1 Ac;have HQ:=Hi hq;clear DK Ac hq hc;go_wp2
 go_loopw [9] (fun i wr=>yO w q cap l i wr) (fun i _=>l.length -(intOf i).toNat)
 case atStart=>exact⟨0,AV _,rfl,Ak,BX⟩
 case round=>
  obtain⟨k,Dw,rfl,hb,hr⟩:=hrel;have HB:=Hi hb;have HR:=Hi hr;clear hb hr Ak BX;by_cases hlt:k < l.length
  ·obtain⟨a,Cs,c0,-⟩:=Yv HR hlt;have F4:=(Rz _ (CQ hlt)).1;have KX:=Ju _ (CQ hlt);by_cases Kc:k=0
   ·subst Kc;generalize l[0]=x at*;have HN:=Hi (fun(W:World)=>ad8 x.1 W (by omega));rw[KX] at HN;have ZG:∀ W,(Instr.indexAt 30 (.slice q l.length cap) (.int .i64 0)).run prog W=.ok (.pointer (some a)) W:=Cs;have HC:=Hi (fun(V:World) (hb:Bw wr V)=>(hb.cell (Cr c0)).trans c0);clear Cs c0 KX;go_wp2_with fail;have HS:=Hi (fun(V:World) (hb:Bw wr V)=>(show(fun V:World=>V.cell? a=some (.string (bs x.1))) V from HC V hb));refine wp_region_held (S:=(fun V:World=>V.cell? a=some (.string (bs x.1)))) (by kernel_rfl) ?_;have BR:=Hi ((Ai wr.heap.size wr).drew);refine Az 0 (HS _ BR) ?_;refine Az 1 (HS _ BR) ?_;refine Az 2 (HS _ BR) ?_;refine Az 3 (HS _ BR) ?_;refine Az 4 (HS _ BR) ?_;refine Az 6 (HS _ BR) ?_;refine OZ 5 (fun K1 Jh=>?_);go_simp;refine(HN _).mono ?_;rintro e wA⟨rfl,DT⟩;have Aq:=Hi (show Bw wr wA from BR.trans (DT.mono (Ae _)));clear DT;refine Jh _ _ (HS _ Aq) ?_;try simp only[Act.put,np]
    refine Az 7 (HS _ Aq) ?_;refine Az 8 (HS _ Aq) ?_;refine Az 9 (HS _ Aq) ?_;refine Az 10 (HS _ Aq) ?_;refine Az 11 (HS _ Aq) ?_;refine Jc 12 (HS _ Aq) ?_;refine Jc 13 (HS _ Aq) ?_;refine Jc 14 (HS _ Aq) ?_;refine Jc 15 (HS _ Aq) ?_;refine Jc 16 (HS _ Aq) ?_;refine Jc 17 (HS _ Aq) ?_;refine Jc 18 (HS _ Aq) ?_;refine Jc 19 (HS _ Aq) ?_;refine Jc 20 (HS _ Aq) ?_;refine Jc 21 (HS _ Aq) ?_;refine Jc 22 (HS _ Aq) ?_;refine Jc 23 (HS _ Aq) ?_;refine Az 24 (HS _ Aq) ?_;refine Az 25 (HS _ Aq) ?_;refine wpAnyH_done (by kernel_rfl) ?_ _;clear Jh K1;have CF:=Hi (show yO w q cap l (.int .i64 1) wA from⟨1,by omega,rfl,HB.trans (Aq.mono HB.size),Cg HR Aq⟩);go_wp2;go_roundw
    case rel=>exact CF.out
    case measure=>show l.length -(1:Int).toNat < l.length -(0:Int).toNat;omega
   ·obtain⟨a',abb,c1,-⟩:=Yv HR (show k -1 < l.length by omega);have QV:IntKind.i64.wrap ((k:Int) -1)=((k -1:Nat):Int):=(by rw[ET _ (by omega)];omega);have GJ:(0:Int) < (k:Int):=(by omega);have Tw:0 < k:=(by omega);have hne:((l[k -1]'(by omega)).1 == l[k].1)=false:=by
     have h1:=List.pairwise_iff_getElem.1 EM (k -1) k (by omega) hlt (by omega);exact FQ.2 (fun e=>by rw[e] at h1;exact Sc _ h1)
    obtain⟨y,hy⟩:=ex (l[k -1]'(by omega));obtain⟨x,hx⟩:=ex (l[k]);rw[hy] at c1 hne;rw[hx] at c0 F4 KX hne;have HN:=Hi (fun(W:World)=>ad8 x.1 W (by omega));rw[KX] at HN;have HC:=Hi (fun(V:World) (hb:Bw wr V)=>Cw ((hb.cell (Cr c0)).trans c0) ((hb.cell (Cr c1)).trans c1));clear c0 c1 KX hx hy;go_wp2_with fail;have HS:=Hi (fun(V:World) (hb:Bw wr V)=>(show(fun V:World=>V.cell? a=some (.string (bs x.1))∧V.cell? a'=some (.string (bs y.1))) V from HC V hb));refine wp_region_held (S:=(fun V:World=>V.cell? a=some (.string (bs x.1))∧V.cell? a'=some (.string (bs y.1)))) (by kernel_rfl) ?_;have BR:=Hi ((Ai wr.heap.size wr).drew);refine Az 0 (HS _ BR) ?_;refine Az 1 (HS _ BR) ?_;refine Az 2 (HS _ BR) ?_;refine Az 3 (HS _ BR) ?_;refine Az 4 (HS _ BR) ?_;refine Az 6 (HS _ BR) ?_;refine OZ 5 (fun K1 Jh=>?_);go_simp;refine(HN _).mono ?_;rintro e wA⟨rfl,DT⟩;have Aq:=Hi (show Bw wr wA from BR.trans (DT.mono (Ae _)));clear DT;refine Jh _ _ (HS _ Aq) ?_;try simp only[Act.put,np]
    refine Az 7 (HS _ Aq) ?_;refine Az 8 (HS _ Aq) ?_;refine Az 9 (HS _ Aq) ?_;refine Az 10 (HS _ Aq) ?_;refine Az 11 (HS _ Aq) ?_;refine Az 12 (HS _ Aq) ?_;refine Az 13 (HS _ Aq) ?_;refine Az 14 (HS _ Aq) ?_;refine Az 15 (HS _ Aq) ?_;refine Az 16 (HS _ Aq) ?_;refine Az 17 (HS _ Aq) ?_;refine Az 18 (HS _ Aq) ?_;refine Az 19 (HS _ Aq) ?_;refine Az 20 (HS _ Aq) ?_;refine Az 21 (HS _ Aq) ?_;refine Az 22 (HS _ Aq) ?_;refine Az 23 (HS _ Aq) ?_;refine Az 24 (HS _ Aq) ?_;refine Az 25 (HS _ Aq) ?_;refine wpAnyH_done (by kernel_rfl) ?_ _;clear Jh K1;have CF:=Hi (show yO w q cap l (.int .i64 ((k:Int)+1)) wA from⟨k+1,by omega,by go_num,HB.trans (Aq.mono HB.size),Cg HR Aq⟩);go_wp2;go_roundw
    case rel=>exact CF.out
    case measure=>
     show l.length -((k:Int)+1).toNat < l.length -((k:Int)).toNat
     omega
  ·obtain rfl:k=l.length:=(by omega);go_wp2;go_ret2;exact⟨q,cap,rfl,HR,HQ,HB⟩
end Mem
section
open Go.Maps
open Ag Ar
section
variable {w w':World}
def Zi(most:Nat)(A:M)(l:List Am):Int:=if l.all Am.may=false then 2 else if most < used (made A l) then 4 else 0
def WJ(most:Nat)(A:M)(l:List Am):M:=if l.all Am.may=true∧used (made A l)≤most then made A l else A
theorem amI{r most cap:Nat}{a:Option Addr}{v:Value}{A:M}{l:List Am}(h:Hz w r v A (most:Int))(hu:Up A)(hl:Eb w a l)(aEr:most≤2000000000000)(hA:used A≤3000000)(El:l.length≤100000)(hw:F8 l≤900000):
  Calls prog 44 #[.pointer (some ⟨r,0,none⟩),.slice a l.length cap] w fun e w'=>e=.returned (.int .i64 (Zi most A l))∧∃ v',Hz w' r v' (WJ most A l) (most:Int)∧A7 (fun k=>k=r) w w':=by
 have I9:=Rf A;have FM:=Vj hu l;have hok:∀ c∈l,c.name.length≤maxLen∧c.data.length≤maxLen:=fun c hc=>by
  have:=aoz hc;unfold maxLen;omega
 have HR:=Hi h;have HL:=Hi hl;have Gv:=Hi hok;clear h hl hok
 go_in
 go_wp2
 go_loopw [5] (fun i wr=>∃ k:Nat,k≤l.length∧i=.int .i64 (k:Int)∧(l.take k).all Am.may=true∧Bw w wr) (fun i _=>l.length -(intOf i).toNat)
 case atStart=>exact⟨0,AV _,rfl,rfl,Ai _ _⟩
 case round=>
  obtain⟨k,hk,rfl,hall,hb⟩:=hrel;have Fb:=Hi hall;have HB:=Hi hb;clear hall;by_cases hlt:k < l.length
  ·obtain⟨p,Iu,hp,_⟩:=(HL.below hb).index cap k hlt;obtain⟨p0,p1,p2⟩:=hp.cells;obtain⟨o1,o2⟩:=Gv _ (CQ hlt);have HM:=Hi (an2 l[k].name l[k].data l[k].gone wr o1 o2);obtain⟨mv,Ex⟩:=ex (Am.may l[k]);rw[show(⟨l[k].name,l[k].data,l[k].gone⟩:Am)=l[k] from rfl,Ex] at HM;have Rw:=Hi Ex;have NV:=CQ hlt;cases mv with
   |true=>
    have HN:=Hi (show(l.take (k+1)).all Am.may=true by rw[Cx hlt,List.all_append,Fb.out,Bool.true_and];simp[Rw.out]);clear hb hp NV Ex o1 o2;generalize l[k]=c at*;go_wp2_with fail;refine HM.mono ?_;rintro e w2⟨rfl,Ac⟩;have Ak:=bH HB Ac;clear Ac;go_wp2;go_roundw
    case rel=>exact⟨k+1,by omega,by go_num,HN,Ak⟩
    case measure=>simp[intOf];omega
   |false=>
    have QP:l.all Am.may=false:=by
     rw[Bool.eq_false_iff];intro e;rw[MH] at e;rw[e _ NV] at Ex;cases Ex
    have HC:=Hi (show Zi most A l=2 by unfold Zi;rw[Ad QP]);have HX:=Hi (show WJ most A l=A by unfold WJ;rw[Ab (by rw[QP];simp)]);clear hb hp NV Ex o1 o2 QP;generalize l[k]=c at*;go_wp2_with fail;refine HM.mono ?_;rintro e w2⟨rfl,Ac⟩;have Ak:=bH HB Ac;clear Ac;go_wp2;go_ret;exact⟨by rw[HC.out];rfl,v,by rw[HX.out];exact HR.below Ak,A7.of_below Ak⟩
  ·obtain rfl:k=l.length:=(by omega);have hall:=Fb.out;rw[Da] at hall;have HW:=Hi (anq (cap:=cap) (HR.below hb) hu (HL.below hb) (by omega) (by omega));have SC:=Hi hall;clear hb hall Fb;go_wp2_with fail;refine HW.mono ?_;rintro e w2⟨v2,rfl,DK,Ac⟩;obtain⟨q2,cap2,rfl⟩:=Bo DK;have Ak:=bH HB Ac;have BX:=Hi DK;have Fz:=Hi (fun(W:World) (hW:Bw w2 W)=>adi (Bv DK (ub hW) (fun _ _ f=>f)) (by omega));have FW:=HR.below Ak.out;have c1:w2.cell? ⟨r,1,none⟩=some (.int .i64 (most:Int)):=cr FW.1;have HRF:=Hi FW;obtain⟨F,hF⟩:=ex (made A l);rw[hF] at Fz BX ⊢;have YN:=Hi hF;obtain⟨U,hU⟩:=ex (used F);rw[hU] at Fz;rw[hF,hU] at FM;have j6:=Hi hU;clear DK Ac FW hU hF;have ky:Zi most A l=if most < U then 4 else 0:=by
    unfold Zi;rw[Ab (by rw[SC.out];simp),YN.out,j6.out]
   have kS:WJ most A l=if most < U then A else F:=by
    unfold WJ;rw[YN.out,j6.out];by_cases e:most < U
    ·rw[Ad e,Ab (by omega)]
    ·rw[Ab e,Ad ⟨SC,by omega⟩]
   have SF:=Hi (Cw ky kS);clear ky kS I9 hw El hA hlt hk;by_cases GJ:most < U
   ·have QM:(most:Int) < (U:Int):=(by omega);have HG:=Hi GJ;clear GJ;go_wp2
    go_region_held3 (fun V=>V.cell? ⟨r,1,none⟩=some (.int .i64 (most:Int))) (go_keep)
     (first|(go_at_call 120;refine(Fz _ ((Ai _ _).drew)).mono ?_;rintro e wA ⟨rfl,DT⟩;have Aq:=Hi (Ak.trans ((show Bw w2 wA from((Ai _ w2).drew).trans DT).mono Ak.size));clear DT;have cA:wA.cell? ⟨r,1,none⟩=some (.int .i64 (most:Int)):=(by rw[BL _ _ _ _ _ _ (HR.below Aq).1];rfl)))
    all_goals
     go_wp2;go_ret;exact⟨by rw[SF.1,Ad HG.out];rfl,v,by rw[SF.2,Ad HG.out];exact HR.below Aq.out,A7.of_below Aq.out⟩
   ·have QM:¬ (most:Int) < (U:Int):=(by omega);have HG:=Hi GJ;clear GJ;go_wp2
    go_region_held3 (fun V=>V.cell? ⟨r,1,none⟩=some (.int .i64 (most:Int))) (go_keep)
     (first|(go_at_call 120;refine(Fz _ ((Ai _ _).drew)).mono ?_;rintro e wA ⟨rfl,DT⟩;have Aq:=Hi ((show Bw w2 wA from((Ai _ w2).drew).trans DT));clear DT;have cA:wA.cell? ⟨r,1,none⟩=some (.int .i64 (most:Int)):=(by rw[BL _ _ _ _ _ _ (HR.below (bT Ak Aq)).1];rfl)))
    all_goals
     have Dc:=bH Ak Aq;have FW:=HR.below Dc.out;have d0:wA.cell? ⟨r,0,none⟩=some v:=cr FW.1;have df:=Dt _ _ 0 _ _ FW.1;have Ij:=Hi (Cw FW.1 (Bv BX (ub Aq) (fun _ _ f=>f)));clear FW c1;go_wp2;go_ret;refine⟨by rw[SF.1,Ab HG.out];rfl,.slice q2 F.length cap2,?_,(A7.of_below (F:=fun k=>k=r) Dc).setCell (p:=⟨r,0,none⟩) (.inl rfl) _⟩;rw[SF.2,Ab HG.out];refine⟨Cu _ _ 0 _ _ _ Ij.1,Bv Ij.2 ((A7.refl (fun k=>k=r) wA).setCell (p:=⟨r,0,none⟩) (.inl rfl) _) (fun g hg e=>?_)⟩;rw[e] at hg;exact Bb.ne (Cn Ij.2 hg) ⟨_,_,Ij.1⟩ (by decide) rfl
end
end
namespace Mem
open Go.Maps
open Av Ag Ar Bt Kp BI Hex BH
theorem anp{w:World}{r:Nat}{v:Value}{A:M}{most:Int}(h:Hz w r v A most)(hA:used A≤1000000000):
  Calls prog 103 #[.pointer (some ⟨r,0,none⟩)] w fun e w'=>e=.returned (.int .i64 (used A:Nat))∧Bw w w':=by
 obtain⟨q,cap,rfl⟩:=Bo h.2;have c0:w.cell? ⟨r,0,none⟩=some (.slice q A.length cap):=cr h.1;have HU:=Hi (adi h.2 hA);clear h
 go_in
 go_wp2_with fail;refine HU.mono ?_;rintro e w1⟨rfl,hb⟩;have HB:=Hi hb;clear hb;go_wp2;go_ret;exact⟨rfl,HB⟩
theorem azV{w:World}{r:Nat}{v:Value}{A:M}{most:Int}(h:Hz w r v A most)(hA:A.length≤1000000)(name:T)(KV:∀ d,Ag.get A name=some d→d.length≤1000000)(hf:∀ d,Ag.get A name=some d→(fileOf Ah A name).isSome=true):
  Calls prog 100 #[.pointer (some ⟨r,0,none⟩),.string (bs name)] w fun e w'=>∃ q cap,e=.returned (.tuple #[.slice q ((fileOf Ah A name).getD []).length cap,.bool (Ag.get A name).isSome,.bool false])∧BJ w' w.heap.size (.slice q ((fileOf Ah A name).getD []).length cap) ((fileOf Ah A name).getD [])∧(q=none→cap=0)∧Bw w w':=by
 have HG:=Hi (amX h hA name);have XU:∀ d,Ag.get A name=some d→fileOf Ah A name=Ah.CB name d:=fun d hd=>by unfold fileOf;rw[hd];rfl
 have hfn:Ag.get A name=none→fileOf Ah A name=none:=fun hd=>by unfold fileOf;rw[hd];rfl
 clear h;cases hx:Ag.get A name with
 |none=>
  rw[hx] at HG;rw[hfn hx];clear hx hf XU hfn KV
  go_in
  go_wp2_with fail;refine HG.mono ?_;rintro e w1⟨rfl,hb⟩;have HB:=Hi hb;clear hb;go_wp2_with fail;exact EU (v:=.tuple #[.slice none 0 0,.bool false,.bool false]) (by simp[results,results100,go_sem]) rfl ⟨none,0,rfl,WL _ _,fun _=>rfl,HB⟩
 |some d=>
  rw[hx] at HG;have h1:=hf d hx;rw[XU d hx] at h1 ⊢;obtain⟨l,hl⟩:=Lh.1 h1;rw[hl];have HE:=Hi (fun(W:World)=>azP name d l hl W (KV d hx));clear hx hf XU hfn KV h1 hl
  go_in
  go_wp2_with fail;refine HG.mono ?_;rintro e w1⟨rfl,hb⟩;have HB:=Hi hb;clear hb;go_wp2_with fail;refine(HE _).mono ?_;rintro e w2⟨q,cap,rfl,hr,hq,Ac⟩;have HR:=Hi (EA hr HB.size);have Ak:=bH HB Ac;clear Ac hr;go_wp2_with fail;exact EU (v:=.tuple #[.slice q l.length cap,.bool true,.bool false]) (by simp[results,results100,go_sem]) rfl ⟨q,cap,rfl,HR,hq,Ak⟩
theorem aoA{K:Kind}(hK:K.BO)(l:M):F8 (FP K l)≤l.length*65560:=by
 induction l using Vi with
 |h0=>exact AV _
 |h1 l p ih=>
  rw[vM];have e:∀ a b:List Am,F8 (a++b)=F8 a+F8 b:=fun a b=>by unfold F8;rw[CK,Lg]
  rw[e,AA,Le];have h2:F8 [MC K (l++[p]) (K.nm p.1)]≤65560:=by
   show 8+(K.nm p.1).length+((BV (BM K (l++[p]) (K.nm p.1))).getD []).length+0≤_
   rw[hK.len];cases hc:BV (BM K (l++[p]) (K.nm p.1)) with
   |none=>show 8+17+0+0≤_;decide
   |some d=>
    have:=dh hc
    show 8+17+d.length+0≤_
    omega
  omega
def yP(w:World)(xb:Nat)(A l:M)(i:Value)(wr:World):Prop:=
 ∃ (k:Nat) (vx:Value),k≤l.length∧i=.int .i64 (k:Int)∧Hz wr xb vx (made A (FP Ah (l.take k))) (1099511627776:Nat)∧Fits Ah (l.take k)∧Bw w wr
theorem aA5{w:World}{r n cap:Nat}{a:Option Addr}{v:Value}{A l:M}(h:Hz w r v A (Co n))(hu:Up A)(D9:∀ k,Ag.get A (Ah.nm k)=none)(hn:n≤16384)(hA:used A≤Co n)(hk:Bf w a l)(hl:l.length≤20)(Dw:∀ x∈l,x.1.length≤1000000)(FL:∀ j name,Small (BM Ah (l.take j) name)):
  Calls prog 41 #[.pointer (some ⟨r,0,none⟩),.slice a l.length cap] w fun e w'=>e=.returned (.int .i64 (H9 Ah n A l).1)∧∃ v',Hz w' r v' (H9 Ah n A l).2 (Co n)∧A7 (fun k=>k=r) w w':=by
 obtain⟨vq,vc,rfl⟩:=Bo h.2;have J2:=aO hn;have HR:=Hi h;have HU:=Hi hu;have DW:=Hi D9;have HK:=Hi hk;have KD:=Hi Dw;have Oq:=Hi FL
 have Fz:=Hi (show ∀ k,used (made A (FP Ah (l.take k)))≤2000000 from fun k=>by
  have h1:=Vj hu (FP Ah (l.take k));have h2:=aoA JL (l.take k);have h3:(l.take k).length≤20:=by rw[AZ];omega
  have h4:=P9 65560 h3;omega)
 have zC:w.cell? ⟨r,0,none⟩=some (.slice vq A.length vc):=cr h.1;have awf:=Ao h.1
 have Zd:=Hi (show Hz (w.alloc (.cells #[.slice vq A.length vc,.int .i64 1099511627776] 174)) w.heap.size (.slice vq A.length vc) (made A (FP Ah (l.take 0))) (1099511627776:Nat) from by
  rw[Gg];exact⟨AQ w _,(h.below (AU w _)).2⟩)
 have AR:=Hi (AU w (.cells #[.slice vq A.length vc,.int .i64 1099511627776] 174));clear h hu D9 hk Dw FL
 go_in
 go_wp2_with fail;have Pp:=Hi (show yP w w.heap.size A l (.int .i64 0) (w.alloc (.cells #[.slice vq A.length vc,.int .i64 1099511627776] 174)) from⟨0,.slice vq A.length vc,AV _,rfl,Zd,by rw[Gg];exact zZ,AR⟩);generalize w.alloc (.cells #[.slice vq A.length vc,.int .i64 1099511627776] 174)=V0 at*;clear Zd AR zC
 go_loopw [6] (fun i wr=>yP w w.heap.size A l i wr) (fun i _=>l.length -(intOf i).toNat)
 case atStart=>exact Pp.out
 case round=>
  obtain⟨k,vx,hk,rfl,hx,Cf,hb⟩:=hrel;have HX:=Hi hx;have Lm:=Hi Cf;have HB:=Hi hb;clear Cf hb Pp;by_cases hlt:k < l.length
  ·obtain⟨q,Cs,hp,-⟩:=(HK.below HB).index cap k hlt;have lJ:=KD _ (CQ hlt);have Cv:=Hi (Cx hlt);have Qp:=Hi (fun(hF:Fits Ah l)=>hF k hlt);obtain⟨x,lI⟩:=ex (l[k]);rw[lI] at hp lJ Cv Qp;have c0:=hp.key;have c1:=hp.val;have HPX:=Hi hp;have HN:=Hi (fun(W:World)=>ad8 x.1 W (by omega));have NT:=qM HU (K:=Ah) (l.take k) (Ah.nm x.1);rw[DW.out] at NT;have PU:=jq HU DW (fun p _=>rfl) Lm x.1
   have FT:=Hi (fun(W:World) (hW:Bw wr W)=>azV (HX.below hW) (by have:=Rf (made A (FP Ah (l.take k)));have:=Fz k;omega) (Ah.nm x.1) (fun d hd=>by
    rw[NT] at hd;split at hd
    ·injection hd with hd
     rw[←hd];cases hc:BV (BM Ah (l.take k) (Ah.nm x.1)) with
     |none=>exact AV _
     |some d=>exact Aw (dh hc) (by decide)
    ·cases hd) (fun d hd=>by
    rw[NT] at hd;rw[PU];split at hd
    ·rename_i D6
     rw[Ad D6];rfl
    ·cases hd))
   rw[ah1 HU DW (fun p _=>rfl) Lm x.1] at FT;clear NT PU hp lI hx;generalize TA:Ah.nm x.1=name at*;have Mg:=Hi TA;clear TA;have X3:=Hi (Tg (K:=Ah) (l.take k) name);have MO:=Hi (show BM Ah (l.take (k+1)) name=put x.1 x.2 (BM Ah (l.take k) name) from by rw[Cv.out,NK,Ad Mg.out]);have KI:=Hi (Oq (k+1) name);have OI:(BM Ah (l.take k) name).length≤20:=by
    have h1:=qP Ah (l.take k) name;rw[AZ] at h1;omega
   generalize BM Ah (l.take k) name=G at*;generalize (Ag.get (made A (FP Ah (l.take k))) name).isSome=isb at*;obtain⟨xk,xv⟩:=x;simp only at*;go_wp2_with fail;refine(HN _).mono ?_;rintro e w1⟨rfl,Aj⟩;have HB1:=Hi Aj;clear Aj;go_wp2_with fail;refine(FT _ HB1).mono ?_;rintro e w2⟨q2,c2,rfl,DK,DJ,Ac⟩;have Ak:=bH HB1 Ac;have BX:=Hi (EA DK (AV _));clear DK Ac;have c0:w2.cell? q=some (.string (bs xk)):=(Ak.cell (Cr c0)).trans c0;have c1:w2.cell? ⟨q.block,q.off+1,none⟩=some (.string (bs xv)):=(Ak.cell (p:=⟨q.block,q.off+1,none⟩) (Cr c1)).trans c1;have HW:=Hi (aAo (w:=w2) (cap:=c2) (⟨xk,xv,false⟩:Am) rfl BX X3 (by omega));rw[show Am.on G (⟨xk,xv,false⟩:Am)=put xk xv G from rfl] at HW;go_wp2_with fail;refine HW.mono ?_;rintro e w3⟨v3,rfl,QS,Ap⟩;obtain⟨q3,c3,rfl,TD,K8⟩:=FH QS;have Au:=bH Ak Ap;have Wu:=KI.out;rw[MO.out] at Wu;have HD:=Hi (azw (cap:=c3) (Bf.CX QS) (CU.Ra (X3.put xk xv)) (by have:=Wu.1;omega) Wu.2)
   have iJ:=Hi (show Fits Ah l→(BV (put xk xv G)).isSome=true from fun hF=>by
    have h1:=Qp hF
    first
    |(rw[Mg.out,MO.out] at h1;exact h1)
    |(rw[MO.out] at h1;exact h1))
   have Om:=Hi (show FP Ah (l.take (k+1))=FP Ah (l.take k)++[⟨name,(BV (put xk xv G)).getD [],false⟩] from by
    rw[Cv.out,vM,←Cv.out]
    congr 1
    unfold MC;rw[show Ah.nm ((xk,xv):T×T).1=name from Mg.out,MO.out])
   have Ub:=Hi (show Fits Ah (l.take (k+1))↔Fits Ah (l.take k)∧(BV (put xk xv G)).isSome=true from by
    rw[Cv.out,Fits.mf,←Cv.out,show Ah.nm ((xk,xv):T×T).1=name from Mg.out,MO.out])
   clear QS Ap Wu TD K8 Qp HW c0 c1;generalize put xk xv G=G2 at*;by_cases DF:(BV G2).isSome=true
   ·rw[Ad DF] at HD;obtain⟨d,hd⟩:=Lh.1 DF;rw[hd] at HD Om;simp only[Option.getD_some] at HD Om;have KV:=dh hd;have YO:=Hi (Ub.2 ⟨Lm,DF⟩);have EI:name.length=17:=by rw[←Mg.out];exact JL.len _
    have Pk:=Hi (show Am.may ⟨name,d,false⟩=true from by
     have h1:=acR JL YO (p:=(xk,xv)) (by rw[Cv.out];simp);have h2:MC Ah (l.take (k+1)) (Ah.nm ((xk,xv):T×T).1)=⟨name,d,false⟩:=by
      unfold MC;rw[show Ah.nm ((xk,xv):T×T).1=name from Mg.out,MO.out,hd];rfl
     rw[h2] at h1;exact h1)
    clear DF hd iJ;go_wp2_with fail;refine HD.mono ?_;rintro e w4⟨rfl,AB⟩;have AX:=bH Au AB;have Ce:=AU w4 (.cells #[.string (bs name),.string (bs d),.bool false] 57);have QP:=AQ w4 (.cells #[.string (bs name),.string (bs d),.bool false] 57);have Aq:=bH AX Ce;have Ph:=Hi (amI (most:=1099511627776) (cap:=1) (HX.below Aq) (HU.made _) (zx (c:=⟨name,d,false⟩) QP) (by omega) (by have:=Fz k;omega) (by simp) (by show 8+name.length+d.length+0≤_;omega));have kU:WJ 1099511627776 (made A (FP Ah (l.take k))) [⟨name,d,false⟩]=made A (FP Ah (l.take (k+1))):=by
     unfold WJ;have h1:=Fz (k+1);rw[Om.out,uf] at h1;rw[Ad ⟨by simp[Pk.out],by omega⟩,Om.out,uf]
    rw[kU] at Ph;have Dk:=HB.trans (Aq.mono HB.size);have Dc:=Hi Dk;clear AB Ce QP kU Dk;generalize Zi 1099511627776 (made A (FP Ah (l.take k))) [⟨name,d,false⟩]=cc at*;go_wp2_with fail;refine Ph.mono ?_;rintro e w5⟨rfl,v5,fA,LW⟩;have CF:=Hi (show yP w w.heap.size A l (.int .i64 ((k:Int)+1)) w5 from⟨k+1,v5,by omega,by go_num,fA,YO,Cy Dc LW (fun i e=>Nat.le_of_eq e.symm) Dc.size⟩);clear fA LW;go_wp2;go_roundw
    case rel=>exact CF.out
    case measure=>
     show l.length -((k:Int)+1).toNat < l.length -((k:Int)).toNat
     omega
   ·rw[Ab DF] at HD
    have VB:=Hi (show H9 Ah n A l=(5,A) from by
     unfold H9;rw[Ab (fun hF=>DF (iJ hF))])
    generalize (BV G2).getD []=dd at*;clear DF iJ Ub;go_wp2_with fail;refine HD.mono ?_;rintro e w4⟨rfl,AB⟩;have AX:=Hi (HB.trans ((bT Au AB).mono HB.size));clear AB;go_wp2;go_ret;rw[VB.out];exact⟨rfl,_,HR.below AX,A7.of_below AX⟩
  ·obtain rfl:k=l.length:=(by omega);have Cf:=Lm.out;rw[Da] at Cf hx;have FM:=Fz l.length;rw[Da] at FM;have Jv:=Hi (acW (A:=A) JL (n:=n) Cf);rw[←aoq HU.out,←mq HU.out] at Jv;have Za:=Hi (fun(W:World) (hW:Bw wr W)=>anp (hx.below hW) (by omega));have RG:=Hi hx;obtain⟨xq,xc,rfl⟩:=Bo hx.2;have FW:=HR.below HB.out;have c1:wr.cell? ⟨r,1,none⟩=some (.int .i64 (Co n:Int)):=cr FW.1;clear Cf hx FW HX;generalize hF:made A (FP Ah l)=F at*;obtain⟨U,jP⟩:=ex (used F);rw[jP] at Za Jv FM;clear hF jP;by_cases GJ:Co n < U
   ·have QM:(Co n:Int) < (U:Int):=(by omega);rw[Ad GJ] at Jv;clear GJ;go_wp2
    go_region_held3 (fun V=>V.cell? ⟨r,1,none⟩=some (.int .i64 (Co n:Int))) (go_keep)
     (first|(go_at_call 103;refine(Za _ ((Ai _ _).drew)).mono ?_;rintro e wA ⟨rfl,DT⟩;have Aq:=Hi (HB.trans ((show Bw wr wA from((Ai _ wr).drew).trans DT).mono HB.size));clear DT;have cA:wA.cell? ⟨r,1,none⟩=some (.int .i64 (Co n:Int)):=(by rw[BL _ _ _ _ _ _ (HR.below Aq).1];rfl)))
    all_goals
     go_wp2;go_ret;rw[Jv.out];exact⟨rfl,_,HR.below Aq,A7.of_below Aq⟩
   ·have QM:¬ (Co n:Int) < (U:Int):=(by omega);rw[Ab GJ] at Jv;clear GJ;go_wp2
    go_region_held3 (fun V=>V.cell? ⟨r,1,none⟩=some (.int .i64 (Co n:Int))) (go_keep)
     (first|(go_at_call 103;refine(Za _ ((Ai _ _).drew)).mono ?_;rintro e wA ⟨rfl,DT⟩;have Aq:=Hi (show Bw wr wA from((Ai _ wr).drew).trans DT);clear DT;have cA:wA.cell? ⟨r,1,none⟩=some (.int .i64 (Co n:Int)):=(by rw[BL _ _ _ _ _ _ (HR.below (bT HB Aq)).1];rfl)))
    all_goals
     have Dc:=bH HB Aq;have FW:=HR.below Dc.out;have OU:=RG.below Aq.out;have d0:wA.cell? ⟨r,0,none⟩=some (.slice vq A.length vc):=cr FW.1;have df:=Dt _ _ 0 _ _ FW.1;have x0:wA.cell? ⟨w.heap.size,0,none⟩=some (.slice xq F.length xc):=cr OU.1;have Ij:=Hi (Cw FW.1 OU.2);clear FW c1 OU;go_wp2;go_ret;rw[Jv.out];refine⟨rfl,.slice xq F.length xc,?_,(A7.of_below (F:=fun k=>k=r) Dc).setCell (p:=⟨r,0,none⟩) (.inl rfl) _⟩;refine⟨Cu _ _ 0 _ _ _ Ij.1,Bv Ij.2 ((A7.refl (fun k=>k=r) wA).setCell (p:=⟨r,0,none⟩) (.inl rfl) _) (fun g hg e=>?_)⟩;rw[e] at hg;exact Bb.ne (Cn Ij.2 hg) ⟨_,_,Ij.1⟩ (by decide) rfl
end Mem
namespace Ar
open Go.Maps Av Ag
section
variable {B:Nat}{w0 w w':World}{b y n N:Nat}{A A':M}
def Qw(w w':World):Prop:=∀ (base:Nat) (v:Value) (l:List T),Bq w base v l→Bq w' base v l
theorem Qw.below(hb:Bw w w'):Qw w w':=fun _ _ _ h=>Cg h hb
theorem Qw.trans{w1 w2 w3:World}(h:Qw w1 w2)(k:Qw w2 w3):Qw w1 w3:=fun a v l r=>k a v l (h a v l r)
theorem Qw.upd{bl:Nat→Prop}(hu:A7 (Gx w bl) w w'):Qw w w':=fun _ _ _ h=>Bv h hu (fun _ hg e=>e.not (Cn h hg) (by decide))
end
end Ar
namespace Ar
open Go.Maps Av Ag
structure Er(B:Nat)(w0 W:World)(b y n N:Nat)(A:M)(L:List (Nat×Obj)):Prop where
 x:VL B w0 W b y n N A (fun k=>∃ o,(k,o)∈L)
 at_:∀ k o,(k,o)∈L→W.heap[k]?=some o
section
variable {B:Nat}{w0 w w':World}{b y n N:Nat}{A A':M}{L:List (Nat×Obj)}
theorem Er.of(h:MyF B w0 w b y n N A):Er B w0 w b y n N A []:=by
 obtain⟨h1,h2,bl,h3,h4⟩:=h;exact⟨⟨h1,h2,fun k hk=>by obtain⟨o,ho⟩:=hk;simp at ho,bl,h3,fun k hk=>⟨h4 k hk,fun⟨o,ho⟩=>by simp at ho⟩⟩,fun k o h=>by simp at h⟩
theorem Er.AO(h:Er B w0 w b y n N A L):Below B w0 w:=h.x.1
theorem Er.step(h:Er B w0 w b y n N A L)(hb:Bw w w'):Er B w0 w' b y n N A L:=
 ⟨h.x.step hb,fun k o ho=>(hb.block k (Dq.1 (h.at_ k o ho)).1).trans (h.at_ k o ho)⟩
theorem Er.cell(h:Er B w0 w b y n N A L){k:Nat}{cs:Array Value}{t:TypeId}(hm:(k,.cells cs t)∈L)(i:Nat):w.cell? ⟨k,i,none⟩=cs[i]? :=BL w k i cs t _ (h.at_ _ _ hm)
theorem Er.pick(h:Er B w0 w b y n N A L):∃ bl,Qi w b y bl n N A∧(∀ k,bl k→k < w.heap.size)∧∀ {N':Nat} {A':M} {w':World},Goes w b y bl n N' A' w'→Er B w0 w' b y n N' A' L∧Qw w w':=by
 obtain⟨⟨h1,h2,hx,bl,h3,h4⟩,ha⟩:=h;refine⟨_,h3.shrink,fun k hk=>hk.2,fun {N' A' w'} ⟨C8,g1,g2,g3⟩=>?_⟩;obtain⟨k1,k2⟩:=VL.turn h1 h2 hx (fun k hk=>h4 k hk.1) g1 g2 g3;exact⟨⟨k1,fun k o ho=>(k2 k ⟨o,ho⟩).trans (ha k o ho)⟩,Qw.upd g2⟩
theorem fK(h:Er B w0 w b y n N A L):Up A∧Ag.Good A∧used A≤Co n:=by
 obtain⟨bl,h1,h3,h2⟩:=h.pick;exact⟨h1.up.1,h1.up.2.1,h1.up.2.2.1⟩
end
end Ar
namespace Ar
open Go.Maps Av Ag
theorem axB{w:World}{base:Nat}(hb:base≤w.heap.size)(l:List T)(hl:l.length≤1000)(cs:Array Value)(hc:cs=(strCells l).toArray){g n:Nat}(hg:w.heap.size=g)(hn:l.length=n):Bq (w.alloc (.cells cs 9)) base (.slice (some ⟨g,0,none⟩) n n) l:=by
 subst hc hg hn;have:=World.ownsRow_lit (base:=base) (e:=9) (size:=1) w (strCells l).toArray l.length hb (by unfold maxLen;omega) (by simp[strCells]);exact this
end Ar
namespace Ar
open Go.Maps
abbrev T:=List UInt8
end Ar
namespace Ar
open Go.Maps Av Ag
theorem az2{l:List T}{x:T}{k:Nat}(hk:k < l.length)(h:∀ j,(hj:j < l.length)→j < k→l[j] < x)(hx:¬ l[k] < x):
  l.takeWhile (fun y=>decide (y < x))=l.take k∧l.dropWhile (fun y=>decide (y < x))=l.drop k:=by
 induction l generalizing k with
 |nil=>simp at hk
 |cons y l ih=>
  cases k with
  |zero=>
   have:¬ y < x:=hx;rw[List.takeWhile_cons_of_neg (by simpa using this),List.dropWhile_cons_of_neg (by simpa using this)];exact⟨rfl,rfl⟩
  |succ k=>
   have h0:y < x:=h 0 (by simp) (by omega);obtain⟨g1,g2⟩:=ih (k:=k) (by simpa using hk) (fun j hj XX=>h (j+1) (by simpa using hj) (by omega)) hx;rw[List.takeWhile_cons_of_pos (by simpa using h0),List.dropWhile_cons_of_pos (by simpa using h0),g1,g2];exact⟨rfl,rfl⟩
theorem az1{l:List T}{x:T}(h:∀ j,(hj:j < l.length)→l[j] < x):l.takeWhile (fun y=>decide (y < x))=l∧l.dropWhile (fun y=>decide (y < x))=[]:=by
 induction l with
 |nil=>exact⟨rfl,rfl⟩
 |cons y l ih=>
  have h0:y < x:=h 0 (by simp);obtain⟨g1,g2⟩:=ih (fun j hj=>h (j+1) (by simpa using hj));rw[List.takeWhile_cons_of_pos (by simpa using h0),List.dropWhile_cons_of_pos (by simpa using h0),g1,g2];exact⟨rfl,rfl⟩
theorem amA{l:List T}{x:T}{k:Nat}(hk:k≤l.length)(h:∀ j,(hj:j < l.length)→j < k→l[j] < x)(hx:∀ hk:k < l.length,¬ l[k] < x):
  JN l x=if(∃ hk:k < l.length,l[k]=x) then l else l.take k++[x]++l.drop k:=by
 unfold JN;by_cases hlt:k < l.length
 ·obtain⟨g1,g2⟩:=az2 hlt h (hx hlt);rw[g1,g2,List.head?_drop,CJ hlt];by_cases he:l[k]=x
  ·rw[Ad (by rw[he]),Ad ⟨hlt,he⟩,MK]
  ·rw[Ab (by simpa using he),Ab (fun⟨_,e⟩=>he e)];simp
 ·obtain rfl:k=l.length:=by omega
  obtain⟨g1,g2⟩:=az1 (fun j hj=>h j hj hj);rw[g1,g2,Ab (by simp),Ab (fun⟨e,_⟩=>hlt e)];simp
def Ut(q:Option Addr)(cap k:Nat):Option Addr:=if cap=k then q else q.map (·.add k)
theorem aAN(P:Program)(W:World)(t e:TypeId)(i:TypeInfo)(hu:P.underlying t=some (.slice e))(hi:P.info? e=some i)(q:Option Addr)(n cap k:Nat)(hk:k≤n)(hc:n≤cap):
  (Instr.slice t (.slice q n cap) none (some (.int .i64 (k:Int))) none).run P W=.ok (.slice q k cap) W:=by
 cases q<;>simp[Instr.slice,Hd hu,Instr.sliceBounds,sizeOf,typeInfo,hi,go_sem]<;>omega
theorem aAM(P:Program)(W:World)(t e:TypeId)(i:TypeInfo)(hu:P.underlying t=some (.slice e))(hi:P.info? e=some i)(hs:i.size=1)(q:Option Addr)(n cap k:Nat)(hk:k≤n):
  (Instr.slice t (.slice q n cap) (some (.int .i64 (k:Int))) none none).run P W=.ok (.slice (Ut q cap k) (n -k) (cap -k)) W:=by
 cases q
 ·simp[Instr.slice,Hd hu,Instr.sliceBounds,sizeOf,typeInfo,hi,go_sem,Ut];exact fun h=>absurd h (by omega)
 ·simp[Instr.slice,Hd hu,Instr.sliceBounds,sizeOf,typeInfo,hi,hs,go_sem,Ut];exact fun h=>absurd h (by omega)
theorem ao9{w:World}{q:Option Addr}{l:List T}(h:Du w q l)(k:Nat):Du w q (l.take k):=fun i hi=>by
 rw[AZ] at hi;obtain⟨p,hp,hc⟩:=h i (by omega);exact⟨p,hp,by rw[hc,List.getElem_take]⟩
theorem ao8{w:World}{q:Option Addr}{l:List T}(h:Du w q l){cap k:Nat}(hk:k≤l.length)(hc:l.length≤cap):Du w (Ut q cap k) (l.drop k):=fun i hi=>by
 rw[Ct] at hi;obtain⟨p,hp,BN⟩:=h (k+i) (by omega);refine⟨p.add k,?_,?_⟩
 ·unfold Ut;rw[Ab (by omega),hp];rfl
 ·rw[Addr.add_add,BN,List.getElem_drop]
theorem ana{w:World}{base Uu:Nat}{v:Value}{l:List T}(h:Bq w base v l)(hb:Uu≤base):Bq w Uu v l:=by
 refine⟨h.1,?_⟩;rcases h.2 with h2|⟨g,cap,cur,e0,I5,h3⟩
 ·exact .inl h2
 ·exact .inr ⟨g,cap,cur,e0,Aw hb I5,h3⟩
section
variable {w w':World}
theorem azc{base:Nat}{v:Value}{l:List T}(x:T)(h:Bq w base v l)(hb:base≤w.heap.size)(hl:l.length≤100000):
  Calls prog 249 #[v,.string (bs x)] w fun e w'=>∃ v',e=.returned v'∧Bq w' base v' (JN l x)∧Bw w w':=by
 obtain⟨q,cap,rfl⟩:=Bo h;have H8:=Hr h;have ZK:l.length≤cap:=by
  rcases h.parts with⟨e,e2⟩|⟨_,cap',e,_,hc,_⟩
  ·rw[e2];exact AV _
  ·injection e with _ _ e;rw[e];exact hc
 have Hl:q=none→cap=0:=fun e=>by
  rcases h.parts with⟨e1,_⟩|⟨_,cap',e1,_⟩
  ·injection e1
  ·injection e1 with e1;rw[e1] at e;cases e
 obtain⟨i0,Bl,AY,Ba,Be⟩:=DC adw;have Wt:∀ (W:World) (k:Nat),k≤l.length→(Instr.slice 61 (.slice q l.length cap) none (some (.int .i64 (k:Int))) none).run prog W=.ok (.slice q k cap) W:=fun W k hk=>aAN prog W _ 9 i0 underlying61 Bl q l.length cap k hk ZK
 have RV:∀ (W:World) (k:Nat),k≤l.length→(Instr.slice 61 (.slice q l.length cap) (some (.int .i64 (k:Int))) none none).run prog W=.ok (.slice (Ut q cap k) (l.length -k) (cap -k)) W:=fun W k hk=>aAM prog W _ 9 i0 underlying61 Bl Ba q l.length cap k hk
 have HSF:=Hi Wt;have Ry:=Hi RV;have o7:=Hi ZK;have oI:=Hi Hl;clear Wt RV ZK Hl;have H:=Hi h;clear h
 go_in
 go_wp2
 go_loop [5] (fun i=>∃ k:Nat,k≤l.length∧i=.int .i64 (k:Int)∧∀ j,(hj:j < l.length)→j < k→l[j] < x) (fun i=>l.length -(intOf i).toNat)
 case atStart=>exact⟨0,AV _,rfl,fun j _ e=>by omega⟩
 case round=>
  obtain⟨k,hk,rfl,hall⟩:=hrel;have Fb:=Hi hall;clear hall;by_cases hlt:k < l.length
  ·obtain⟨qk,Gp,DJ⟩:=H8.index cap k hlt;obtain⟨X,hX⟩:=ex (l[k]);rw[hX] at DJ;have HX:=Hi hX;clear hX;by_cases rA:X < x
   ·have CP:Op.bytesLess X x=true:=(by rw[Go.Proofs.bytesLess_eq];simpa using rA);go_wp2_with fail;refine⟨⟨k+1,by omega,by go_num,fun j hj XX=>?_⟩,by simp[intOf];omega⟩;by_cases e:j=k
    ·subst e;rw[HX.out];exact rA
    ·exact Fb j hj (by omega)
   ·have CP:Op.bytesLess X x=false:=(by rw[Go.Proofs.bytesLess_eq];simpa using rA);have eU:=amA (l:=l) (x:=x) hk Fb (fun _=>by rw[HX.out];exact rA);by_cases rz:X=x
    ·have HP:=Hi (show JN l x=l by rw[eU,Ad ⟨hlt,by rw[HX.out,rz]⟩]);subst rz;clear eU;go_wp2;go_ret;exact⟨_,rfl,by rw[HP.out];exact H.out,Ai _ _⟩
    ·have HP:=Hi (show JN l x=l.take k++[x]++l.drop k by rw[eU,Ab (fun⟨_,e⟩=>rz (by rw[←HX.out,e]))]);have aDO:(X == x)=false:=(by simpa using rz);clear eU;have Wt:=fun W=>HSF W k hk
     have RV:=fun W=>Ry W k hk
     go_wp2_with (first
      |(at_builtin;refine wK rfl _ _ rfl w.heap.size (.slice none 0 0) [] (l.take k) rfl (by unfold Bq;rw[M5];exact DZ _ _ _ _) q cap (by rw[AZ,Ih hk];rfl) (ao9 H8 k) oI (by rw[AZ,Ht];omega) (Ae _) ?_;intro v1 w1 DI Nb Wd;rw[Ei] at DI;unfold Bq at DI;rw[AZ,Ih hk] at DI;obtain⟨q1,VR,rfl⟩:=Bo DI;have D5:=Hi DI;have HB1:=Hi (((Ai _ w).grown Nb (Ae _) (fun j e=>by cases e)));clear DI Nb Wd)
      |(at_builtin;refine wpList_append_own_at _ rfl _ _ 61 rfl w.heap.size 9 i0 _ 1 16 underlying61 Bl AY Ba Be rfl (by decide) (.slice q1 k VR) k (strCells (l.take k)) rfl (D5.alloc _) ⟨w1.heap.size,0,none⟩ 1 1 [.string (bs x)] rfl rfl (cell_one_new _ _ _) (by simp[Value.oneCell']) (by unfold maxLen;omega) (by omega) (by rw[Ay];have:=HB1.size;omega) ?_;intro v2 w2 Dn Ef _ Wh;obtain⟨g2,cap2,rfl⟩:=ownsRow_succ Dn;have Pn:=Hi Dn;have Ak:=Hi ((HB1.alloc HB1.size (.cells #[.string (bs x)] 9)).grown Ef (by rw[Ay];have:=HB1.size;omega) (fun j hj=>E9 D5 hj));clear Dn Ef Wh)
      |(at_builtin;refine wK rfl _ _ rfl w.heap.size (.slice (some ⟨g2,0,none⟩) (k+1) cap2) (l.take k++[x]) (l.drop k) rfl (by unfold Bq;rw[AA,AZ,Ih hk,Sn];exact Pn.out) (Ut q cap k) (cap -k) (by rw[Ct];rfl) ((ao8 H8 hk o7).below Ak) (fun e=>by have:=oI.out;unfold Ut at e;split at e;omega;cases q with|none=>have:=this rfl;omega|some _=>cases e) (by rw[AA,AZ,Ct,Le];omega) Ak.size ?_;intro v3 w3 JH XV jW;have Oj:=Hi JH;have Au:=Hi (Ak.grown XV Ak.size (fun j hj=>E9 Pn hj));clear JH XV jW))
     go_ret;exact⟨_,rfl,by rw[HP.out];exact ana Oj hb,Au⟩
  ·have HP:=Hi (show JN l x=l.take k++[x]++l.drop k by rw[amA (l:=l) (x:=x) hk Fb (fun e=>absurd e hlt),Ab (fun⟨e,_⟩=>hlt e)]);have Wt:=fun W=>HSF W k hk
   have RV:=fun W=>Ry W k hk
   go_wp2_with (first
    |(at_builtin;refine wK rfl _ _ rfl w.heap.size (.slice none 0 0) [] (l.take k) rfl (by unfold Bq;rw[M5];exact DZ _ _ _ _) q cap (by rw[AZ,Ih hk];rfl) (ao9 H8 k) oI (by rw[AZ,Ht];omega) (Ae _) ?_;intro v1 w1 DI Nb Wd;rw[Ei] at DI;unfold Bq at DI;rw[AZ,Ih hk] at DI;obtain⟨q1,VR,rfl⟩:=Bo DI;have D5:=Hi DI;have HB1:=Hi (((Ai _ w).grown Nb (Ae _) (fun j e=>by cases e)));clear DI Nb Wd)
    |(at_builtin;refine wpList_append_own_at _ rfl _ _ 61 rfl w.heap.size 9 i0 _ 1 16 underlying61 Bl AY Ba Be rfl (by decide) (.slice q1 k VR) k (strCells (l.take k)) rfl (D5.alloc _) ⟨w1.heap.size,0,none⟩ 1 1 [.string (bs x)] rfl rfl (cell_one_new _ _ _) (by simp[Value.oneCell']) (by unfold maxLen;omega) (by omega) (by rw[Ay];have:=HB1.size;omega) ?_;intro v2 w2 Dn Ef _ Wh;obtain⟨g2,cap2,rfl⟩:=ownsRow_succ Dn;have Pn:=Hi Dn;have Ak:=Hi ((HB1.alloc HB1.size (.cells #[.string (bs x)] 9)).grown Ef (by rw[Ay];have:=HB1.size;omega) (fun j hj=>E9 D5 hj));clear Dn Ef Wh)
    |(at_builtin;refine wK rfl _ _ rfl w.heap.size (.slice (some ⟨g2,0,none⟩) (k+1) cap2) (l.take k++[x]) (l.drop k) rfl (by unfold Bq;rw[AA,AZ,Ih hk,Sn];exact Pn.out) (Ut q cap k) (cap -k) (by rw[Ct];rfl) ((ao8 H8 hk o7).below Ak) (fun e=>by have:=oI.out;unfold Ut at e;split at e;omega;cases q with|none=>have:=this rfl;omega|some _=>cases e) (by rw[AA,AZ,Ct,Le];omega) Ak.size ?_;intro v3 w3 JH XV jW;have Oj:=Hi JH;have Au:=Hi (Ak.grown XV Ak.size (fun j hj=>E9 Pn hj));clear JH XV jW))
   go_ret;exact⟨_,rfl,by rw[HP.out];exact ana Oj hb,Au⟩
theorem aze(l:List T)(x:T):(JN l x).length≤l.length+1:=by
 induction l with
 |nil=>simp[JN]
 |cons y l ih=>
  rw[acS];split
  ·simpa using ih
  ·split<;>simp
theorem ad5{q:Option Addr}{cap:Nat}{l:List T}(h:Du w q l)(hl:l.length≤50000):
  Calls prog 195 #[.slice q l.length cap] w fun e w'=>∃ v',e=.returned v'∧Bq w' w.heap.size v' (ad6 l)∧Bw w w':=by
 have H:=Hi h;clear h
 go_in
 go_wp2
 go_loopw [3,4] (fun ov i wr=>∃ (k:Nat) (o:List T),k≤l.length∧i=.int .i64 (k:Int)∧o=(l.take k).foldl JN []∧o.length≤k∧Bq wr w.heap.size ov o∧Bw w wr) (fun _ i _=>l.length -(intOf i).toNat)
 case atStart=>exact⟨0,[],AV _,rfl,rfl,Ae _,by unfold Bq;rw[M5];exact DZ _ _ _ _,Ai _ _⟩
 case round=>
  obtain⟨k,o,hk,rfl,ho,hok,Af,hb⟩:=hrel;have HO:=Hi ho;have HR:=Hi Af;have HB:=Hi hb;clear ho Af hb;by_cases hlt:k < l.length
  ·obtain⟨qk,Gp,DJ⟩:=(H.below HB).index cap k hlt;obtain⟨X,hX⟩:=ex (l[k]);rw[hX] at DJ;have HX:=Hi hX;clear hX;go_wp2_with fail;refine(azc X HR HB.size (by omega)).mono ?_;rintro e w1⟨v1,rfl,DI,Aj⟩;have D5:=Hi DI;have HB1:=bH HB Aj;clear DI Aj;go_wp2_with fail;refine⟨⟨k+1,JN o X,by omega,by go_num,?_,?_,D5,HB1⟩,by simp[intOf];omega⟩
   ·rw[Cx hlt,List.foldl_append,←HO.out,HX.out];rfl
   ·have:=aze o X;omega
  ·obtain rfl:k=l.length:=(by omega);go_wp2;go_ret;refine⟨_,rfl,?_,HB⟩;have e:=HO.out;rw[Da] at e;unfold ad6;rw[←e];exact HR.out
