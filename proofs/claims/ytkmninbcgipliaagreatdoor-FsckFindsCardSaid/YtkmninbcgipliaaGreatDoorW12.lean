/- DepE DepF DepD SweM SweT DepA SweW FckW BrF FckO SweS SweF -/
import Derived.Test.YtkmninbcgipliaaGreatDoorW11
import Derived.Laws.EntriesVeiled
set_option maxHeartbeats 8000000
set_option maxRecDepth 100000
set_option linter.all false
namespace Go.Proofs.YtkmninbcgipliaaGreatDoor
open Go.Proofs.Tryz hiding t1 t2
open Go.RowKit
open Go.Maps
namespace Ci
open Aw Ah Aq Bu Kp Bz Hex BH Al Mem
structure GA(w:World)(base m:Nat)(L:List (T×M))(g:T→Value):Prop where
 map:∃ kv:List (T×Value),kv.Perm (L.map fun x=>(x.1,Value.agg #[g x.1]))∧Gd prog 9 w m kv
 nodup:(L.map (·.1)).Nodup
 row:∀ x∈L,BK w base (g x.1) x.2
 low:base≤m
theorem aDQ:(prog.info? 193).map (fun i=>(i.zero,i.size))=some (some (.agg #[()]),1):=by kernel_rfl
theorem aeX(w:World):(zeroValue 193).run prog w=.ok (.agg #[()]) w:=(zero_of_info aDQ).1 w
theorem aBN(W:World)(v:Value):(Instr.field 193 (.agg #[v]) 0).run prog W=.ok v W:=by
 simp[Instr.field,He underlying193,go_sem,asAgg,Result.andThen]
section
variable {w w':World}{base m:Nat}{L:List (T×M)}{g:T→Value}
theorem GA.below(h:GA w base m L g)(hb:Bw w w'):GA w' base m L g:=by
 obtain⟨⟨kv,h1,h2⟩,h3,h4,h6⟩:=h;exact⟨⟨kv,h1,h2.kept (hb.block m h2.lt)⟩,h3,fun x hx=>Cc (h4 x hx) hb,h6⟩
theorem GA.Xf(h:GA w base m L g):((L.map fun x=>(x.1,Value.agg #[g x.1])).map (·.1)).Nodup:=by
 rw[Kv];exact h.nodup
theorem GA.keys{kv:List (T×Value)}(h:kv.Perm (L.map fun x=>(x.1,Value.agg #[g x.1]))):(kv.map (·.1)).Perm (L.map (·.1)):=by
 have:=h.map (·.1);rwa[Kv] at this
theorem GA.abe(h:GA w base m L g){x:T×M}(hx:x∈L)(hn:x.1.length≤maxLen):
  (Instr.lookup 190 (.map (some m)) ↑x.1 false).run prog w=.ok (.agg #[g x.1]) w:=by
 obtain⟨kv,h1,h2⟩:=h.map;rw[h2.lookup underlying9 underlying190 (aeX w) x.1 hn,bV (h1.map (·.1) |>.nodup_iff.2 h.Xf) h1,(Za h.Xf).2 (Bv.2 ⟨x,hx,rfl⟩)];rfl
end
theorem ahG{w:World}{base m p y:Nat}{L:List (T×M)}{g:T→Value}{Q:Int→World→Prop}(hm:Fj w p y)(h:GA w base m L g)(hs:∀ x∈L,D8 x.2∧x.2.length≤1000000∧rowLen (flat x.2)≤1000000000)(hn:∀ x∈L,x.1.length≤1000)(hl:L.length≤100000)
  (h5:¬ Qh L=true→∀ w',Bw w w'→Q 5 w')
  (hc:Qh L=true→∀ W q c,Bw w W→Eh W q (LC L)→Calls prog 17 #[.pointer (some ⟨y,0,none⟩),.slice q (LC L).length c] W fun e w'=>∃ c,e=.returned (.int .i64 c)∧Q c w'):
  Calls prog 111 #[p,.map (some m)] w fun e w'=>∃ c,e=.returned (.int .i64 c)∧Q c w':=by
 have H5:=Hi h5;have HC:=Hi hc;have HM:=Hi hm;clear h5 hc hm;obtain⟨i0,Bh,AY,AZ,Bb⟩:=Dy rJ;have HK:=Hi (show Calls prog 193 #[.map (some m)] w fun e w'=>e=.returned (.func (.func 248) #[] #[.pointer w.heap.size])∧w'=w.alloc (.cells #[.map (some m)] 190) from atD (some m) w);obtain⟨kv,KR,YD⟩:=h.map;have E9:kv.length=L.length:=by rw[KR.length_eq,Ca]
 have ZJ:=Hi (atF YD (by omega));have aJ:(kv.map (·.1)).mergeSort (fun x y=>decide (x≤y))=Di L:=mergeSort_of_perm (GA.keys KR);rw[E9,aJ] at ZJ;have HH:=Hi h;have HS:=Hi hs;have HN:=Hi hn;have Ei:(Di L).length=L.length:=vX L
 have z8:=Hi (fun t (ht:t∈Di L)=>show ∃ x∈L,x.1=t∧rowOf L t=x.2 from by
  obtain⟨x,hx,rfl⟩:=Bv.1 (nR.1 ht);exact⟨x,hx,rfl,o9 h.nodup hx⟩)
 clear h hs hn KR YD E9 aJ
 go_in
 go_wp2_with fail;refine HK.mono ?_;rintro e w1⟨rfl,Jr⟩;subst Jr;go_wp2_with fail;refine ZJ.mono ?_;rintro e w2⟨v,rfl,Af,Ac⟩;have NQ:Aq.Bt w2 (w.heap.size+1) v (Di L):=by
  unfold Aq.Bt;rw[ME,Ei];exact Af
 obtain⟨q,c,rfl⟩:=Bp NQ;have BV:=Hi NQ;have Aj:=Hi Ac;clear Af NQ Ac HK ZJ;have hnI:((Di L).length:Int)=(L.length:Int):=by rw[Ei]
 go_wp2
 go_loopw [5,15] (fun s i wr=>aa0 w (.slice q (Di L).length c) (Di L) (fun t=>MU t (rowOf L t)) (fun t=>NH (rowOf L t)) s i wr) (fun _ i _=>(Di L).length -(intOf i).toNat)
 case atStart=>exact⟨0,none,0,AV _,rfl,rfl,by rw[Gm,Kw,rG];exact DZ _ _ _ _,Aj,rfl,BV⟩
 case round=>
  obtain⟨k,cq,cc,hk,rfl,rfl,Af,hb,hall,Gu⟩:=hrel;have OW:=Hi Gu;have BF:=Hi Af;have HB:=Hi hb;have Ga:=Hi hall;clear Af hall Gu Aj BV;by_cases hlt:k < (Di L).length
  ·obtain⟨x,hx,bA,FV⟩:=z8 _ (CK hlt);obtain⟨a,Cn,c0⟩:=(Hd (c:=c) (OW.out)).index c k hlt;simp only[Ei] at Cn;have U8:k < L.length:=by omega
   have Nv:=Hi (show(NH x.2=true→((Di L).take (k+1)).all (fun t=>NH (rowOf L t))=true)∧((Di L).take (k+1)).map (fun t=>MU t (rowOf L t))=((Di L).take k).map (fun t=>MU t (rowOf L t))++[MU x.1 x.2] from by
    rw[Cr hlt,CQ,List.all_append,Ga.out];constructor
    ·intro e;simp[FV,e]
    ·simp[FV,bA])
   have Lf:=Hi (show NH x.2=false→¬ Qh L=true from fun e h=>by
    have:=Nl.1 h _ (CK hlt);rw[FV,e] at this;cases this)
   obtain⟨cl,BQ⟩:∃ cl,((Di L).take k).map (fun t=>MU t (rowOf L t))=cl:=⟨_,rfl⟩;have lS:cl.length=k:=(by rw[←BQ,Ca,Bc];omega);have ES:=Hi lS;rw[BQ] at BF Nv ⊢;have Oq:=((HH.below HB).abe hx (by have:=HN x hx;unfold maxLen;omega));have Pz:=(HH.below HB).row x hx;obtain⟨q2,c2,NM,Dw,GY⟩:=FQ Pz;have Af:=Pz;rw[NM] at Af Oq;have akr:=fun W=>aBN W (.slice q2 x.2.length c2)
   obtain⟨Rw,CS,WY⟩:=HS x hx;rw[←bA] at c0;clear BQ hb FV bA NM Pz;have awL:cl.length≤100000:=(by omega);clear lS;have Q0:=Hi (Bg.CR Af);obtain⟨t,l⟩:=x;simp only at*;by_cases hz:l=[]
   ·have YU:((l.length:Int) == 0)=true:=(by rw[hz];rfl);have ML:=Hi (show MU t l=⟨t,[],true⟩ from Ae hz);have UF:=Hi (Nv.1 (by rw[hz];rfl));clear hz;go_wp2_with (at_builtin;refine wpList_append_own_at _ rfl _ _ 32 rfl w.heap.size 57 i0 _ 3 40 underlying32 Bh AY AZ Bb rfl (by decide) _ cl.length _ rfl (BF.alloc _) ⟨wr.heap.size,0,none⟩ 1 1 [.string (bs t),.string { data:=#[] },.bool true] rfl rfl (by intro j u hj;rw[add_plain,E5];exact(Dx▸hj)) (by simp[Value.oneCell']) (by unfold maxLen;omega) (by omega) (by have:=HB.size;simp;omega) ?_;intro v' w1 Cf AJ _ hat;obtain⟨g',cap',rfl⟩:=ownsRow_succ Cf;have HO:=Hi Cf;have HG:=Hi AJ;clear Cf AJ hat);have CJ:=Hi (vO ⟨t,[],true⟩ hlt HB BF (AQ wr _) HG HO (by rw[←ML.out];exact Nv.2) UF OW);go_roundw
    case rel=>exact CJ.out
    case measure=>
     show(Di L).length -((k:Int)+1).toNat < (Di L).length -((k:Int)).toNat
     omega
   ·have YU:((l.length:Int) == 0)=false:=Ev.2 (fun e=>hz (Ku.1 (by omega)));have TA:=Hi (ahs (cap:=c2) Q0 Rw CS WY);have jA:=Hi (show NH l=(C9 l).isSome from by unfold NH;simp[hz]);have ML:=Hi (show MU t l=⟨t,(C9 l).getD [],false⟩ from A9 hz);by_cases Ck:(C9 l).isSome=true
    ·have UF:=Hi (Nv.1 (by rw[jA.out];exact Ck));rw[Ae Ck] at TA;generalize (C9 l).getD []=s at*;clear Ck;go_wp2_with fail;refine TA.mono ?_;rintro e w4⟨rfl,AB⟩;have AX:=Hi AB;have XO:=Hi (Cc BF AX);have acY:=AX.size;have vB:=HB.size;clear AB;go_wp2_with (at_builtin;refine wpList_append_own_at _ rfl _ _ 32 rfl w.heap.size 57 i0 _ 3 40 underlying32 Bh AY AZ Bb rfl (by decide) _ cl.length _ rfl (XO.alloc _) ⟨w4.heap.size,0,none⟩ 1 1 [.string (bs t),.string (bs s),.bool false] rfl rfl (by intro j u hj;rw[add_plain,E5];exact(Dx▸hj)) (by simp[Value.oneCell']) (by unfold maxLen;omega) (by omega) (by simp;omega) ?_;intro v' w1 Cf AJ _ hat;obtain⟨g',cap',rfl⟩:=ownsRow_succ Cf;have HO:=Hi Cf;have HG:=Hi AJ;clear Cf AJ hat);have CJ:=Hi (vO ⟨t,s,false⟩ hlt HB BF (AX.trans ((AQ w4 _).mono AX.size)) HG HO (by rw[←ML.out];exact Nv.2) UF OW);go_roundw
     case rel=>exact CJ.out
     case measure=>
      show(Di L).length -((k:Int)+1).toNat < (Di L).length -((k:Int)).toNat
      omega
    ·have DU:=Hi (Lf (by rw[jA.out];simpa using Ck));rw[A9 Ck] at TA;generalize (C9 l).getD []=s at*;clear Ck;go_wp2_with fail;refine TA.mono ?_;rintro e w3⟨rfl,Av⟩;have HQ:=Hi (H5 DU w3 (bT HB Av));clear Av;go_wp2;go_ret;exact⟨5,rfl,HQ⟩
  ·obtain rfl:k=(Di L).length:=(by omega);have JH:Qh L=true:=by
    have:=Ga.out;rw[Gx (Ag _)] at this;exact this
   have hE:=BF.out;rw[Gx (Ag _)] at hE;have HE:=Hi (show wr.ownsRow w.heap.size 57 3 (.slice cq (LC L).length cc) (LC L).length (M9 (LC L)) from hE);have BQ:(((Di L).take (Di L).length).map fun t=>MU t (rowOf L t)).length=(LC L).length:=(by rw[Gx (Ag _)];rfl);rw[BQ];have Vn:=(HM.below HB).cell;have Bo:=Hi (HC JH wr cq cc HB (Eh.CR HE));clear hE hb BQ;generalize (LC L).length=dn at*;go_wp2_with fail;refine Bo.mono ?_;rintro e w9⟨c9,rfl,aT⟩;go_wp2;go_ret;exact⟨c9,rfl,aT⟩
section
variable {w w':World}{base m:Nat}{L:List (T×M)}{g:T→Value}
theorem GA.made(w:World)(base:Nat)(g:T→Value)(hb:base≤w.heap.size):GA (w.alloc (.map #[] 0)) base w.heap.size [] g:=
 ⟨⟨[],List.Perm.nil,Gd.made w⟩,by simp,fun x hx=>by simp at hx,hb⟩
theorem GA.DI(h:GA w base m L g){t:TypeId}:¬ Bf w m t:=by
 obtain⟨kv,_,_,D,⟨es,clock,hm,_⟩,_⟩:=h.map;rintro⟨cs,fr,hb⟩;rw[hm] at hb;injection hb with hb
 cases hb
theorem GA.len(h:GA w base m L g)(ty:TypeId):(Builtin.len_ #[190] ty #[.map (some m)]).run prog w=.ok ↑(L.length:Int) w:=by
 obtain⟨kv,h2,_,D,hown,_,BS,_⟩:=h.map;rw[hown.len underlying190 ty,BS,h2.length_eq,Ca]
theorem GA.wF(h:GA w base m L g){x:T×M}(hx:x∈L)(hn:x.1.length≤maxLen):
  (Instr.lookup 190 (.map (some m)) ↑x.1 true).run prog w=.ok (.tuple #[.agg #[g x.1],true]) w:=by
 obtain⟨kv,h1,h2⟩:=h.map;rw[h2.bF underlying9 underlying190 (aeX w) x.1 hn,bV (h1.map (·.1) |>.nodup_iff.2 h.Xf) h1,(Za h.Xf).2 (Bv.2 ⟨x,hx,rfl⟩)];rfl
theorem GA.wG(h:GA w base m L g){t:T}(hx:t∉L.map (·.1))(hn:t.length≤maxLen):
  (Instr.lookup 190 (.map (some m)) ↑t true).run prog w=.ok (.tuple #[.agg #[()],false]) w:=by
 obtain⟨kv,h1,h2⟩:=h.map;have:Eb kv t=none:=by
  cases hs:Eb kv t with
  |none=>rfl
  |some v=>exact absurd ((GA.keys h1).mem_iff.1 (Bv.2 ⟨_,xy hs,rfl⟩)) hx
 rw[h2.bF underlying9 underlying190 (aeX w) t hn,this];rfl
def putRow(L:List (T×M))(name:T)(l:M):List (T×M):=(name,l) :: L.filter fun x=>!(x.1 == name)
theorem GA.put(h:GA w base m L g){name:T}{l:M}{v:Value}(hl:name.length≤maxLen)(hv:BK w base v l)(Jo:L.length < maxLen):
  ∃ w',(Instr.mapUpdate 190 (.map (some m)) ↑name (.agg #[v])).run prog w=.ok () w'∧GA w' base m (Ci.putRow L name l) (fun t=>if t=name then v else g t)∧w.grownBy w' (some m):=by
 obtain⟨kv,h1,h2⟩:=h.map;have CX:kv.length < maxLen:=by
  have e:kv.length=L.length:=by rw[h1.length_eq,Ca]
  rw[e];exact Jo
 obtain⟨w',hrun,h3,h4⟩:=h2.update underlying9 underlying190 name hl (.agg #[v]) CX;have hu:A7 (fun k=>k=m) w w':=A7.of_grownBy (F:=fun k=>k=m) h4 (fun k e=>(GR e).symm);have Ou:∀ {u:Value} {r:M},BK w base u r→BK w' base u r:=fun {u r} hr=>BD hr hu (fun k hk e=>h.DI (by rw[←e];exact Cx hr hk))
 refine⟨w',hrun,⟨⟨_,?_,h3⟩,?_,fun x hx=>?_,h.low⟩,h4⟩
 ·unfold RQ Ci.putRow;rw[Ce];simp only[Ae];refine List.Perm.cons _ ((aev h1 name).trans (List.Perm.of_eq ?_));unfold Jv;rw[List.filter_map];refine OI fun x hx=>?_
  have:x.1≠name:=by
   have:=(G9.1 hx).2;simpa using this
  rw[A9 this]
 ·unfold Ci.putRow;rw[Ce];refine JV.2 ⟨fun hm=>?_,List.Sublist.nodup (List.Sublist.map (fun x:T×M=>x.1) (List.filter_sublist (p:=fun x:T×M=>!(x.1 == name)) (l:=L))) h.nodup⟩;obtain⟨x,hx,e⟩:=Bv.1 hm;have:=(G9.1 hx).2;simp[e] at this
 ·unfold Ci.putRow at hx;rcases Ch.1 hx with rfl|hx
  ·simp only[Ae];exact Ou hv
  ·obtain⟨Eo,Ee⟩:=G9.1 hx;have:x.1≠name:=(by simpa using Ee);rw[A9 this];exact Ou (h.row x Eo)
end
theorem ahU{K:Kind}{A:M}{kt:List T}{L:List (T×M)}(h:OM K A kt L){k:T}{l:M}(hl:l=Jt K A (kt++[k]) (K.nm k)):OM K A (kt++[k]) (Ci.putRow L (K.nm k) l):=by
 unfold Ci.putRow;refine⟨JV.2 ⟨fun hm=>?_,List.Sublist.nodup (List.Sublist.map (fun x:T×M=>x.1) (List.filter_sublist (p:=fun x:T×M=>!(x.1 == K.nm k)) (l:=L))) h.nodup⟩,fun t=>?_,fun x hx=>?_⟩
 ·obtain⟨x,hx,e⟩:=Bv.1 hm;have:=(G9.1 hx).2;simp[e] at this
 ·rw[Ce,Ch,CQ,Es,List.map_singleton,Fu];constructor
  ·rintro(e|e)
   ·exact .inr e
   ·obtain⟨x,hx,e2⟩:=Bv.1 e;exact .inl ((h.names t).1 (by rw[←e2];exact I6 (G9.1 hx).1))
  ·rintro(e|e)
   ·by_cases ht:t=K.nm k
    ·exact .inl ht
    ·obtain⟨x,hx,e2⟩:=Bv.1 ((h.names t).2 e);refine .inr (Bv.2 ⟨x,G9.2 ⟨hx,?_⟩,e2⟩);have e2:x.1=t:=e2;simp[e2,ht]
   ·exact .inl e
 ·rcases Ch.1 hx with rfl|hx
  ·exact hl
  ·obtain⟨h1,h2⟩:=G9.1 hx;have h2:x.1≠K.nm k:=(by simpa using h2);rw[amE _ (fun e=>h2 e.symm)];exact h.rows x h1
theorem atP{K:Kind}{A:M}{kt:List T}{L:List (T×M)}(h:OM K A kt L){k:T}(hk:K.nm k∉L.map (·.1)):((fileOf K A (K.nm k)).getD []).filter (fun p=>!(p.1 == k))=Jt K A (kt++[k]) (K.nm k):=
 (h.new hk).rows (K.nm k,_) (by simp)
def y7(w:World)(m:Nat)(A:M)(ks:List T)(i:Value)(wr:World):Prop:=
 ∃ (k:Nat) (L:List (T×M)) (g:T→Value),k≤ks.length∧i= ↑(k:Int)∧GA wr w.heap.size m L g∧OM Aa A (ks.take k) L∧Bw w wr
theorem atB{w:World}{p y:Nat}{A:M}{q:Option Addr}{cap:Nat}{ks:List T}{Q:Int→World→Prop}(hm:Fj w p y)(hg:Aq.PO w y A)(Jm:Ah.Good A)(hk:Dz w q ks)(hl:ks.length≤100000)(ht:There Aa A ks)
  (hf:∀ W,Bw w W→Calls prog 175 #[y] W fun e w'=>e=.returned (.int .i64 0)∧W=w')
  (h0:ks=[]→∀ w',Bw w w'→Q 0 w')
  (hc:∀ W q c,Bw w W→Eh W q (FE Aa A ks)→Calls prog 17 #[y,.slice q (FE Aa A ks).length c] W fun e w'=>∃ c,e=.returned (.int .i64 c)∧Q c w'):
  Calls prog 73 #[.pointer (some ⟨p,0,none⟩),.slice q ks.length cap] w fun e w'=>∃ c,e=.returned (.int .i64 c)∧Q c w':=by
 have HF:=Hi hf;have H0:=Hi h0;have HC:=Hi hc;have HM:=Hi hm;have HG:=Hi hg;have HK:=Hi hk;have HT:=Hi ht;have yN:=Hi Jm;have mP:=hm.lt;clear hf h0 hc hm hg hk ht Jm;have NN:=@run_makeMap prog
 go_in
 go_wp2_with fail;refine(ahF (P:=fun W w'=>W=w') HM (HF _ (Ai _ _))).mono ?_;rintro e w1⟨rfl,Jr⟩;subst Jr;go_wp2_with fail;have lK:=AQ w (.map #[] 0);have Q3:=Hi (show y7 w w.heap.size A ks (.int .i64 0) (w.alloc (.map #[] 0)) from⟨0,[],fun _=>↑(),AV _,rfl,GA.made w w.heap.size _ (Ag _),by rw[Gm];exact OM.nil,lK⟩);generalize w.alloc (.map #[] 0)=V at*;clear lK
 go_loopw [23] (fun i wr=>y7 w w.heap.size A ks i wr) (fun i _=>ks.length -(intOf i).toNat)
 case atStart=>exact Q3.out
 case round=>
  obtain⟨k,L,g,hk,rfl,he,SI,hb⟩:=hrel;have HE:=Hi he;have XB:=Hi SI;have HB:=Hi hb;clear he SI hb Q3;by_cases hlt:k < ks.length
  ·obtain⟨a,Cn,c0⟩:=(HK.below HB).index cap k hlt;have M4:=Hi (CK hlt);have CL:=Hi (Cr hlt);generalize ks[k]=key at*;have Gt:=aDa HT M4.out;have Iw:=Hi (fun(W:World)=>rX key W (by omega));have Ei:(Aa.nm key).length=17:=kH key;go_wp2_with fail;refine(Iw _).mono ?_;rintro e w1⟨rfl,Ak⟩;have Jz:=Hi (HE.below Ak);have HB1:=bH HB Ak;clear Ak;obtain⟨t1,t2,t3⟩:=aD9 HT M4.out;have Yc:L.length≤100000:=by
    have:=aaO XB.out;rw[Bc] at this;omega
   have akV:key∈Ef ((fileOf Aa A (Aa.nm key)).getD []):=by
    have h1:=HT key M4.out;rw[oP] at h1;obtain⟨v,hv⟩:=KD.1 h1;unfold Ef;rw[El];exact Bv.2 ⟨_,get_some hv,rfl⟩
   have PV:=Hi akV;have JD:=Hi t1;have Hl:=Hi t2;clear t1 t2 t3 akV Cn c0 Iw HB HE;by_cases Dj:Aa.nm key∈L.map (·.1)
   case' pos=>
    obtain⟨⟨t,l1⟩,hx,Hu⟩:=Bv.1 Dj;have Hu:t=Aa.nm key:=Hu;subst Hu;have Oq:=Jz.wF hx (by rw[Ei];decide);have Af:=Jz.row _ hx;obtain⟨q1,c1,NM,EC,-⟩:=FQ Af;rw[NM] at Oq Af;have gm:l1=Jt Aa A (ks.take k) (Aa.nm key):=XB.rows _ hx
    have VO:=Hi (show OM Aa A (ks.take (k+1)) (Ci.putRow L (Aa.nm key) (l1.filter fun p=>!(p.1 == key))) from by
     rw[CL.out];exact ahU XB (by rw[gm,adB]))
    have GZ:l1.length≤1000000:=(by rw[gm];exact(amF yN _ _).2.1);have BO:=AQ w1 (.cells #[.slice q1 l1.length c1] 193);have ET:=Hi (AU w1 (.cells #[.slice q1 l1.length c1] 193));have Sg:=Hi (Jz.below BO);have Ar:=bH HB1 BO;have Xx:=Hi (aap (Bg.CR (Cc Af BO)) EC GZ key);have WN:w.heap.size≤w1.heap.size:=HB1.size;clear hx Dj NM Af BO XB gm;generalize Aa.nm key=name at*;go_wp2_with fail;obtain⟨wA,Ui⟩:=ex (w1.alloc (.cells #[.slice q1 l1.length c1] 193));rw[Ui] at ET Sg Ar Xx ⊢;obtain⟨b,Pk⟩:=ex (w1.heap.size);rw[Pk] at ET WN ⊢;clear Ui
   case' neg=>
    have Oq:=Jz.wG Dj (by rw[Ei];decide);have BO:=AQ w1 (.cells #[()] 193);have zK:=Hi (AU w1 (.cells #[()] 193));have Zl:=bH HB1 BO;have yH:=Hi (Jz.below BO);have Fx:=Hi (rY (HM.below Zl) (Y8 HG Zl) (Aa.nm key) (by rw[Ei];decide));have aO:=(eQ (K:=Aa) (A:=A) (name:=Aa.nm key)).1;unfold QY at Fx;rw[JD.out,Hl.out] at Fx
    have VO:=Hi (show OM Aa A (ks.take (k+1)) (Ci.putRow L (Aa.nm key) (((fileOf Aa A (Aa.nm key)).getD []).filter fun p=>!(p.1 == key))) from by
     rw[CL.out];exact ahU XB (atP XB Dj))
    have WN:w.heap.size≤w1.heap.size:=HB1.size;clear Dj XB BO;generalize (fileOf Aa A (Aa.nm key)).getD []=l1 at*;have GZ:l1.length≤1000000:=Ay aO (by decide);generalize Aa.nm key=name at*;go_wp2_with fail;refine Fx.mono ?_;rintro e w2⟨q1,c1,rfl,Af,EC,Ac⟩;have Aj:=Hi Ac;have MN:=Hi (ahX (Bg.CR Af) EC GZ);have Wh:=Hi Af;clear Ac Af;go_wp2_with fail;refine MN.mono ?_;rintro e w3⟨kv,rfl,CX,Av⟩;obtain⟨kq,kc,rfl⟩:=Bp CX;have aG1:=adv l1;have QM:=Hi (aD3 kc (Hd CX) key (by omega));rw[LY PV.out] at QM;have Au:=bH Aj Av;have dL:=Hi (Cc Wh Av);clear CX Av;go_wp2_with fail;refine QM.mono ?_;rintro e w4⟨rfl,AB⟩;have abS:=Au.trans (AB.mono Au.size);have vC:=(abS.block _ (Ao zK)).trans zK.out;have acU:=Cc dL AB;have cu4:w4.cell? w1.heap.size=some ↑():=cr vC;have hf4:=CG w4 w1.heap.size 0 _ _ vC;have Mm:=(A7.refl (fun j=>j=w1.heap.size) w4).setCell (p:=⟨w1.heap.size,0,none⟩) (.inl rfl) (.slice q1 l1.length c1);have ET:=Hi (Cs w4 w1.heap.size 0 _ _ (.slice q1 l1.length c1) vC);have X0:=Az w1 (.cells #[()] 193);have E8:Bw w1 (w4.setCell w1.heap.size (.slice q1 l1.length c1)):=by
     have h1:Bw w1 w4:=(AQ w1 _).trans (abS.mono (AQ w1 _).size);exact h1.setCell (p:=⟨w1.heap.size,0,none⟩) (Ag _) _
    have Sg:=Hi (Jz.below E8);have Ar:=bH HB1 E8
    have alH:=BD acU Mm (fun j hj e=>by
     have:=DT acU hj;rw[X0] at this;omega)
    have Xx:=Hi (aap (Bg.CR alH) EC GZ key);clear AB abS acU Mm E8 alH X0 Fx zK Zl yH Aj Au Wh dL MN QM vC;go_wp2_with fail;obtain⟨wA,Ui⟩:=ex (w4.setCell w1.heap.size (.slice q1 l1.length c1));rw[Ui] at ET Sg Ar Xx ⊢;obtain⟨b,Pk⟩:=ex (w1.heap.size);rw[Pk] at ET WN ⊢;clear Ui cu4 hf4
   all_goals
    refine Xx.mono ?_;rintro e w2⟨v2,rfl,DC,Ac⟩;obtain⟨q2,c2,rfl,-,-⟩:=FQ DC;have X6:=(Ac.block _ (Ao ET)).trans ET.out;have cu2:w2.cell? b=some (.slice q1 l1.length c1):=cr X6;have hf2:=CG w2 b 0 _ _ X6;have am0:=Cs w2 b 0 _ _ (.slice q2 (l1.filter fun p=>!(p.1 == key)).length c2) X6;have cu3:(w2.setCell b (.slice q2 (l1.filter fun p=>!(p.1 == key)).length c2)).cell? b=some (.slice q2 (l1.filter fun p=>!(p.1 == key)).length c2):=cr am0;have Du:=(A7.refl (fun j=>j=b) w2).setCell (p:=⟨b,0,none⟩) (.inl rfl) (.slice q2 (l1.filter fun p=>!(p.1 == key)).length c2);have Ke:∀ k,k=b→¬ Bf w2 k 51:=fun k e hb=>by
     obtain⟨cs,fr,hb⟩:=hb;rw[e,X6] at hb;injection hb with hb
     injection hb with _ hb
     exact absurd hb (by decide)
    have abT:=Ar.trans (Ac.mono Ar.size);have abM:=Sg.below Ac;have ajx:GA (w2.setCell b (.slice q2 (l1.filter fun p=>!(p.1 == key)).length c2)) w.heap.size w.heap.size L g:=by
     have hNB:¬ Bf w2 w.heap.size 193:=abM.DI;obtain⟨⟨kv,h1,h2⟩,h3,h4,h6⟩:=abM;exact⟨⟨kv,h1,h2.upd Du (fun e=>hNB (by rw[e];exact⟨_,_,X6⟩))⟩,h3,fun x hx=>BD (h4 x hx) Du (fun j hj e=>Ke j e (Cx (h4 x hx) hj)),h6⟩
    have hr3:=BD (EM DC Ar.size) Du (fun j hj e=>Ke j e (Cx DC hj));have Av:=Cz abT Du (fun i e=>by rw[e];exact WN) abT.size;obtain⟨w9,aGg,hU9,hg9⟩:=ajx.put (name:=name) (by rw[Ei];decide) hr3 (by unfold maxLen;omega);have FI:=Av.grown hg9 Av.size (fun k e=>Nat.le_of_eq (GR e));have CJ:=Hi (show y7 w w.heap.size A ks (.int .i64 ((k:Int)+1)) w9 from⟨k+1,_,_,by omega,by go_num,hU9,VO,FI⟩);generalize (l1.filter fun p=>!(p.1 == key)).length=n2 at*;clear DC Ac X6 am0 Du Ke abT abM ajx hr3 Av hU9 hg9 FI;go_wp2;go_roundw
    case rel=>exact CJ.out
    case measure=>
     show ks.length -((k:Int)+1).toNat < ks.length -((k:Int)).toNat
     omega
  ·obtain rfl:k=ks.length:=(by omega);have SI:=XB.out;rw[D5] at SI;by_cases hz:ks=[]
   ·subst hz;have hL:L=[]:=by
     have:=aaO SI;exact Ku.1 (by simpa using this)
    subst hL;have SN:=HE.len 3;have HQ:=Hi (H0 rfl wr HB);clear SI;go_wp2;go_ret;exact⟨0,rfl,HQ⟩
   ·have hL:L.length≠0:=fun e=>by
     have hL:=Ku.1 e;cases Gt:ks with
     |nil=>exact hz Gt
     |cons x ks'=>
      have:=(SI.names (Aa.nm x)).2 (I6 (by rw[Gt];simp));rw[hL] at this;simp at this
    have Yc:L.length≤100000:=Ay (aaO SI) hl;obtain⟨e1,e2⟩:=SI.rM yN HT.out
    have Ns:=Hi (ahG (Q:=Q) (HM.below HB) HE (fun x hx=>by rw[SI.rows x hx];exact amF yN _ _) (fun x hx=>by
     obtain⟨z,_,hz⟩:=Bv.1 ((SI.names x.1).1 (I6 hx));rw[←hz,kH];decide) Yc (fun h=>absurd e2 h) (fun _ W q c hW ax=>by
     rw[e1] at ax ⊢;exact HC W q c (bT HB hW) ax))
    have SN:=HE.len 3;have Qv:((L.length:Int) == 0)=false:=Ev.2 (by omega);clear SI e1 e2;go_wp2_with fail;refine Ns.mono ?_;rintro e w9⟨cc,rfl,aT⟩;go_wp2;go_ret;exact⟨cc,rfl,aT⟩
end Ci
namespace Gr
open Aw Ah Aq Bu Kp Bz Hex BH Al Mem Ci
def O8(w:World)(m:Nat)(c:T→Nat)(n:Nat):Prop:=
 ∃ kv:List (T×Value),Gd prog 9 w m kv∧kv.length≤n∧∀ t,(Eb kv t).getD (.agg #[.int .i64 0])=.agg #[(c t:Int)]
theorem azm:(prog.info? 330).map (fun i=>(i.zero,i.size))=some (some (.agg #[.int .i64 0]),1):=by kernel_rfl
theorem azp(w:World):(zeroValue 330).run prog w=.ok (.agg #[.int .i64 0]) w:=(zero_of_info azm).1 w
theorem aoM(W:World)(v:Value):(Instr.field 330 (.agg #[v]) 0).run prog W=.ok v W:=by
 simp[Instr.field,He underlying330,go_sem,asAgg,Result.andThen]
section
variable {w w':World}{m n:Nat}{c:T→Nat}
theorem O8.made(w:World):O8 (w.alloc (.map #[] 0)) w.heap.size (fun _=>0) 0:=⟨[],Gd.made w,Ag _,fun t=>rfl⟩
theorem O8.below(h:O8 w m c n)(hb:Bw w w'):O8 w' m c n:=by
 obtain⟨kv,h1,h2,h3⟩:=h;exact⟨kv,h1.kept (hb.block m h1.lt),h2,h3⟩
theorem O8.get(h:O8 w m c n)(t:T)(ht:t.length≤maxLen):(Instr.lookup 293 (.map (some m)) ↑t false).run prog w=.ok (.agg #[(c t:Int)]) w:=by
 obtain⟨kv,h1,h2,h3⟩:=h;rw[h1.lookup underlying9 underlying293 (azp w) t ht,h3]
theorem O8.put(h:O8 w m c n)(t:T)(ht:t.length≤maxLen)(hn:n < maxLen):∃ w',(Instr.mapUpdate 293 (.map (some m)) ↑t (.agg #[.int .i64 ((c t:Int)+1)])).run prog w=.ok () w'∧O8 w' m (fun s=>if s=t then c s+1 else c s) (n+1)∧w.grownBy w' (some m):=by
 obtain⟨kv,h1,h2,h3⟩:=h;obtain⟨w',hrun,h4,h5⟩:=h1.update underlying9 underlying293 t ht (.agg #[.int .i64 ((c t:Int)+1)]) (by omega);refine⟨w',hrun,⟨_,h4,?_,fun s=>?_⟩,h5⟩
 ·unfold RQ;rw[BM];have:(Jv t kv).length≤kv.length:=LW _ _;omega
 ·by_cases e:s=t
  ·subst e;rw[ap5]
   show Value.agg #[.int .i64 ((c s:Int)+1)]=Value.agg #[((if s=s then c s+1 else c s:Nat):Int)]
   rw[Ae rfl];rfl
  ·rw[ap4 e,h3 s]
   show _=Value.agg #[((if s=t then c s+1 else c s:Nat):Int)]
   rw[A9 e]
end
theorem av1{w:World}{m n:Nat}{c:T→Nat}(h:O8 w m c n)(t:T)(ht:t.length≤1000000):
  Calls prog 216 #[.map (some m),t] w fun e w'=>e=.returned (decide (c t=0))∧w=w':=by
 have Oq:=h.get t (by unfold maxLen;omega);have akr:=fun W=>aoM W ↑(c t:Int)
 clear h;generalize c t=k at*
 go_in
 go_wp2;go_ret;refine⟨?_,rfl⟩;by_cases hk:k=0
 ·subst hk;rfl
 ·have:((k:Int) == 0)=false:=Ev.2 (by omega);simp[this,hk]
theorem aC0(p d:Nat)(w:World):Calls prog 212 #[p,d] w fun e w'=>e=.returned (.int .i64 0)∧w=w':=by
 go_in
 go_wp2;go_ret;exact⟨rfl,rfl⟩
def agG(w:World)(m n:Nat)(c:T→Nat)(ks:List T)(i:Value)(wr:World):Prop:=
 ∃ k:Nat,k≤ks.length∧i= ↑(k:Int)∧O8 wr m (fun t=>c t+(ks.take k).count t) (n+k)∧A7 (fun j=>j=m) w wr
theorem azo{w:World}{m n:Nat}{c:T→Nat}{q:Option Addr}{cap:Nat}{ks:List T}(h:O8 w m c n)(hk:Dz w q ks)(YD:∀ p,q=some p→ks≠[]→p.block≠m)(Gt:∀ t∈ks,t.length≤1000000)(hl:n+ks.length≤100000000)(hc:∀ t,c t≤100000000):
  Calls prog 213 #[.map (some m),.slice q ks.length cap] w fun e w'=>(∃ v,e=.returned v)∧O8 w' m (fun t=>c t+ks.count t) (n+ks.length)∧A7 (fun j=>j=m) w w':=by
 have HH:=Hi h;have HK:=Hi hk;have HKM:=Hi YD;have KH:=Hi Gt;have HC:=Hi hc;clear h hk YD Gt hc
 go_in
 go_wp2
 go_loopw [8] (fun i wr=>agG w m n c ks i wr) (fun i _=>ks.length -(intOf i).toNat)
 case atStart=>exact⟨0,AV _,rfl,by simpa using HH.out,A7.refl _ _⟩
 case round=>
  obtain⟨k,E9,rfl,hm,hu⟩:=hrel;have HU:=Hi hu;have HM:=Hi hm;by_cases hlt:k < ks.length
  ·obtain⟨a,Cn,c0⟩:=(HK.upd hu (fun p hp hne=>HKM p hp hne)).index cap k hlt;have YC:=KH _ (CK hlt);have CL:=Hi (Cr hlt);generalize ks[k]=key at*;have Oq:=hm.get key (by unfold maxLen;omega);obtain⟨w3,axV,Vl,Yv⟩:=hm.put key (by unfold maxLen;omega) (by unfold maxLen;omega);have um:(ks.take k).count key≤ks.length:=Ay List.count_le_length (by rw[Bc];omega);have Qn:=HC key;obtain⟨x,hx⟩:=ex (c key+(ks.take k).count key);have akr:=fun W=>aoM W ↑(x:Int)
   have bz:IntKind.i64.wrap ((x:Int)+1)=(x:Int)+1:=EN _ (by omega);simp only[hx] at Oq axV
   have CJ:=Hi (show agG w m n c ks (.int .i64 ((k:Int)+1)) w3 from⟨k+1,by omega,by go_num,by
    have e:(fun t=>c t+(ks.take (k+1)).count t)=(fun s=>if s=key then(c s+(ks.take k).count s)+1 else c s+(ks.take k).count s):=by
     funext t
     rw[CL.out,List.count_append];by_cases e:t=key
     ·subst e;rw[Ae rfl];simp;omega
     ·rw[A9 e];have:[key].count t=0:=by
       rw[List.count_eq_zero];simpa using e
      omega
    rw[e];exact Vl,HU.trans (A7.of_grownBy (F:=fun j=>j=m) Yv (fun j e=>(GR e).symm)) (fun _ f=>.inl f)⟩)
   clear hm hu Vl Yv um Qn;go_wp2;go_roundw
   case rel=>exact CJ.out
   case measure=>
    show ks.length -((k:Int)+1).toNat < ks.length -((k:Int)).toNat
    omega
  ·obtain rfl:k=ks.length:=(by omega);have uO:=HM.out;rw[D5] at uO;have HMF:=Hi uO;clear hm hu uO;go_wp2_with fail
   go_end0
   exact⟨⟨_,rfl⟩,HMF,HU⟩
def afl(K:World→Prop)(v:Value)(f:T→Bool):Prop:=
 ∃ F recv Ka,v=.func (.func F) recv Ka∧(∀ args w,(callFunc F args).run prog w=.ok (.enter F args) w)∧
  ∀ W p,p.length≤1000000→K W→Calls prog F (recv++ #[.string (bs p)]++Ka) W fun e W'=>e=.returned (.bool (f p))∧W=W'
def aac(w:World)(f:T→Bool)(ks:List T)(s i:Value)(wr:World):Prop:=
 ∃ (k:Nat) (o:List T) (q:Option Addr) (c:Nat),k≤ks.length∧i= ↑(k:Int)∧s=.slice q o.length c∧Aq.Bt wr w.heap.size (.slice q o.length c) o∧o=(ks.take k).filter f∧Bw w wr
theorem aDb{w:World}{K:World→Prop}{v:Value}{f:T→Bool}{q:Option Addr}{cap:Nat}{ks:List T}(hk:Dz w q ks)(hf:afl K v f)(hK:∀ W,Bw w W→K W)(Gt:∀ t∈ks,t.length≤1000000)(hl:ks.length≤1000000):
  Calls prog 215 #[.slice q ks.length cap,v] w fun e w'=>∃ u,e=.returned u∧Aq.Bt w' w.heap.size u (ks.filter f)∧Bw w w':=by
 obtain⟨F,recv,Ka,rfl,Ol,KO⟩:=hf;obtain⟨i0,Bh,AY,AZ,Bb⟩:=Dy Tk;have HC:=Hi KO;have HK:=Hi hK;have HT:=Hi hk;have KH:=Hi Gt;clear KO hK hk Gt
 go_in
 go_wp2
 go_loopw [4,9] (fun s i wr=>aac w f ks s i wr) (fun _ i _=>ks.length -(intOf i).toNat)
 case atStart=>exact⟨0,[],none,0,AV _,rfl,rfl,wX _ _,by simp,Ai _ _⟩
 case round=>
  obtain⟨k,o,qo,co,E9,rfl,rfl,Af,ho,hb⟩:=hrel;have HB:=Hi hb;have HR:=Hi Af;have HO:=Hi ho;have Rq:o.length≤1000000:=by
   rw[ho];have:=LW f (ks.take k);rw[Bc] at this;omega
  clear Af ho;by_cases hlt:k < ks.length
  ·obtain⟨a,Cn,c0⟩:=(HT.below hb).index cap k hlt;have hkx:=KH _ (CK hlt);have CL:=Hi (Cr hlt);generalize ks[k]=x at*;have ES:=Hi (HC wr x hkx (HK wr hb));have hbs:=hb.size;clear hb;cases fJ:f x with
   |false=>
    rw[fJ] at ES;have CJ:=Hi (show aac w f ks (.slice qo o.length co) (.int .i64 ((k:Int)+1)) wr from⟨k+1,o,qo,co,by omega,by go_num,rfl,HR,by rw[CL.out,IQ,←HO.out];simp[fJ],HB⟩);clear fJ;go_wp2_with fail;refine ES.mono ?_;rintro e w1⟨rfl,Jr⟩;subst Jr;go_wp2;go_roundw
    case rel=>exact CJ.out
    case measure=>
     show ks.length -((k:Int)+1).toNat < ks.length -((k:Int)).toNat
     omega
   |true=>
    rw[fJ] at ES;have HOX:=Hi (show o++[x]=(ks.take (k+1)).filter f from by rw[CL.out,IQ,←HO.out];simp[fJ]);clear fJ;go_wp2_with fail;refine ES.mono ?_;rintro e w1⟨rfl,Jr⟩;subst Jr;go_wp2_with (at_builtin;refine wpList_append_own_at _ rfl _ _ 61 rfl w.heap.size 9 i0 _ 1 16 underlying61 Bh AY AZ Bb rfl (by decide) _ o.length _ rfl (HR.alloc _) ⟨wr.heap.size,0,none⟩ 1 1 [.string (bs x)] rfl rfl (by intro j u hj;rw[add_plain,E5];exact(Dx▸hj)) (by simp[Value.oneCell']) (by unfold maxLen;omega) (by omega) (by simp;omega) ?_;intro v' w4 Cf AJ _ hat;obtain⟨g',cap',rfl⟩:=ownsRow_succ Cf;have TG:=Hi Cf;have HG:=Hi AJ;clear Cf AJ hat)
    have CJ:=Hi (show aac w f ks (.slice g' (o.length+1) cap') (.int .i64 ((k:Int)+1)) w4 from⟨k+1,o++[x],some ⟨g',0,none⟩,cap',by omega,by go_num,by rw[AA];rfl,by
     unfold Aq.Bt;rw[AA,show strCells (o++[x])=strCells o++[.string (bs x)] by unfold strCells;rw[CQ];rfl];exact TG.out,HOX,(HB.alloc HB.size _).grown HG (by rw[Az];have:=HB.size;omega) (fun j hj=>DT HR hj)⟩)
    go_roundw
    case rel=>exact CJ.out
    case measure=>
     show ks.length -((k:Int)+1).toNat < ks.length -((k:Int)).toNat
     omega
  ·obtain rfl:k=ks.length:=(by omega);have hof:=HO.out;rw[D5] at hof;subst hof;clear hb;go_wp2;go_ret;exact⟨_,rfl,HR,HB⟩
end Gr
namespace Ci
open Go.Shelf
open Aw Ah Aq Bu Kp Bz Hex BH Al Mem
attribute [local go_sem] OJ
attribute [local go_sem ↓] ed
def F9(l:M):List T:=l.flatMap fun p=>(Dv p.2).getD []
theorem ayL(l:M)(p:T×T):F9 (l++[p])=F9 l++(Dv p.2).getD []:=by unfold F9;rw[LV];simp
def Ob(A:M)(ks:List T):List T:=ks.flatMap fun t=>F9 ((fileOf Aa A t).getD [])
theorem aag(A:M)(ks:List T)(t:T):Ob A (ks++[t])=Ob A ks++F9 ((fileOf Aa A t).getD []):=by unfold Ob;rw[LV];simp
theorem agP(A:M)(ks:List T):Ob A ks=F9 (Kq Aa A ks):=by
 induction ks using VD with
 |h0=>rfl
 |h1 ks t ih=>
  rw[aag,om,ih];unfold F9;rw[LV]
theorem aB6{s:T}:((Dv s).getD []).length≤s.length:=by
 cases h:Dv s with
 |none=>exact AV _
 |some l=>
  have h2:=o7 h;unfold GM at h2;split at h2
  ·cases ht:BL l with
   |none=>rw[ht] at h2;cases h2
   |some a=>
    rw[ht] at h2;simp only[EZ,Cu] at h2;have h3:l.length≤a.length:=by
     clear h h2
     revert ht
     revert a
     rename_i hx
     clear hx;intro a ht
     induction l generalizing a with
     |nil=>exact AV _
     |cons x l ih=>
      simp only[BL] at ht;cases h1:Er x with
      |none=>rw[h1] at ht;cases ht
      |some y=>
       cases h4:BL l with
       |none=>rw[h1,h4] at ht;cases ht
       |some z=>
        rw[h1,h4] at ht;simp only[CU,EZ,Cu] at ht;subst ht;have:=ih z h4;unfold Er at h1;split at h1
        ·simp only[Cu] at h1;subst h1;have Ho:(Ab.le 2 x.length).length=2:=Ab.Cb _ _;simp only[AA,BM,Ho];omega
        ·cases h1
    rw[←h2]
    show l.length≤_
    rw[AA];omega
  ·cases h2
theorem ayK(l:M):(F9 l).length≤(l.map fun p=>p.2.length).sum:=by
 induction l with
 |nil=>exact Ag _
 |cons p l ih=>
  show((Dv p.2).getD []++F9 l).length≤_
  rw[AA,Ce,DY];have:=@aB6 p.2;omega
def JU(A:M)(w:World)(oc B:Nat)(ks:List T)(W:World):Prop:=
 ∃ v,EF 9 61 1 w oc B W (Ob A ks).length (strCells (Ob A ks)) v∧(ks=[]→v= ↑())
theorem adq(A:M)(w:World)(oc:Nat):XU w oc (JU A w oc) where
 below:=fun B ks W W' ⟨v,h1,h2⟩ hb=>⟨v,h1.below hb,h2⟩
 raise:=fun B B' W ⟨v,h1,h2⟩ hb hs=>by
  have e:=h2 rfl;subst e;have e2:Ob A []=[]:=rfl;rw[e2,RS] at h1;exact⟨_,by rw[e2,RS];exact EF.raise h1 hb hs,fun _=>rfl⟩
 put:=fun B ks W k o o' ⟨v,h1,h2⟩ ho hc hk=>⟨v,h1.put ho hc hk,h2⟩
def afe(w W:World)(oc B:Nat)(q2:Option Addr)(l:M)(acc:List T)(i:Value)(wr:World):Prop:=
 ∃ (k:Nat) (v:Value),k≤l.length∧i= ↑(k:Int)∧EF 9 61 1 w oc B wr (acc++F9 (l.take k)).length (strCells (acc++F9 (l.take k))) v∧A7 (fun j=>j=oc∨B≤j) W wr∧KeepsOthers W wr∧Bg wr q2 l∧∀ p,q2=some p→l≠[]→Bf wr p.block 51
theorem ayM{w wr V:World}{oc B:Nat}{acc kr:List T}{qv:Option Addr}{cv:Nat}(hO:EF 9 61 1 w oc B wr acc.length (strCells acc) (.slice qv acc.length cv))(hV:Bw wr V){kq:Option Addr}{kc:Nat}(CX:Aq.Bt V wr.heap.size (.slice kq kr.length kc) kr)(hlen:acc.length+kr.length≤1000000000):
  ∃ q7 c7 w7,(UX #[61,61] 61 #[.slice qv acc.length cv,.slice kq kr.length kc]).run prog V=.ok (.slice q7 (acc.length+kr.length) c7) w7∧
   V.cell? oc=some (.slice qv acc.length cv)∧w7.cell? oc=some (.slice qv acc.length cv)∧w7.frozen? oc=false∧
   EF 9 61 1 w oc B (w7.setCell oc (.slice q7 (acc.length+kr.length) c7)) (acc++kr).length (strCells (acc++kr)) (.slice q7 (acc.length+kr.length) c7)∧
   A7 (fun k=>k=oc∨Bf wr k 9) wr (w7.setCell oc (.slice q7 (acc.length+kr.length) c7))∧A7 (fun k=>k=oc∨B≤k) wr (w7.setCell oc (.slice q7 (acc.length+kr.length) c7))∧
   KeepsOthers wr (w7.setCell oc (.slice q7 (acc.length+kr.length) c7)):=by
 have Rc:=hO.below hV;have fV:kq=none→kc=0:=fun e=>by
  rcases CX.2 with⟨e1,_⟩|⟨g,cap,cur,e1,_⟩
  ·injection e1
  ·rw[e] at e1;injection e1 with e1;cases e1
 obtain⟨v7,w7,Ru,Mi,IG⟩:=aeE (W:=V) Rc.row (Hd CX) fV (by omega) Rc.size;obtain⟨q7,c7,rfl⟩:=Bp Mi;have Oj:=(IG.block oc (Ao Rc.box) (fun e=>(Rc.ne e.symm).1 rfl)).trans Rc.box;refine⟨q7,c7,w7,Ru,cr Rc.box,cr Oj,CG w7 oc 0 _ _ Oj,?_,?_,hO.turned hV IG _,hO.keeps hV IG _⟩
 ·have fD:=hO.add hV IG Mi;rw[AA,show strCells (acc++kr)=strCells acc++strCells kr by unfold strCells;rw[CQ]];exact fD
 ·have h1:A7 (fun k=>k=oc∨Bf wr k 9) wr V:=A7.of_below (F:=fun k=>k=oc∨Bf wr k 9) hV;have h2:A7 (fun k=>k=oc∨Bf wr k 9) V w7:=A7.of_grownBy (F:=fun k=>k=oc∨Bf wr k 9) IG (fun k e=>.inr (Cx hO.row e));exact(h1.trans h2 (fun _ f=>.inl f)).setCell (p:=⟨oc,0,none⟩) (show(oc=oc∨_)∨_ from .inl (.inl rfl)) _
theorem atz{w:World}{p y:Nat}{A:M}(hm:Fj w p y)(hf:Hf w y A)(hl:(EW Aa A).length≤1000000)(hlu:(F9 (EW Aa A)).length≤1000000):
  Calls prog 214 #[.pointer (some ⟨p,0,none⟩)] w fun e w'=>∃ v,e=.returned v∧Aq.Bt w' w.heap.size v (Bi (F9 (EW Aa A)))∧Bw w w':=by
 refine(DK (n:=3)).1 ?_;have Rn:prog.follows .mixedOrders=true:=by kernel_rfl
 have HM:=Hi hm;have HF:=Hi hf;have HE:=Hi (wZ (K:=Aa) hf.up);have HL:=Hi hl;have HLU:=Hi hlu;clear hm hf hl hlu;refine callsIn_of_wp_marks func214 rfl trivial ?_ rfl;simp only[ntmps214,Kz,BM,IV,Nat.reduceAdd,Nat.reduceSub,Nj,Nk,Nq,Nn,EE,I5]
 gi_wp2
 have Be:=AQ w (.cells #[()] 61);have JL:EF 9 61 1 w w.heap.size (w.heap.size+1) (w.alloc (.cells #[()] 61)) 0 [] ↑():=⟨Be,Ag _,Nat.lt_succ_self _,by rw[Az];exact Ag _,AU w _,DZ _ _ _ _⟩;have PY:=Hi JL;refine⟨trivial,(DK.2 (aaJ p _)).mono ?_⟩;rintro e w2⟨rfl,Mq⟩;subst Mq
 gi_wp2
 have ER:=Hi (AU (w.alloc (.cells #[()] 61)) (.cells #[.pointer (some ⟨p,0,none⟩)] 44));have Ac:=AQ (w.alloc (.cells #[()] 61)) (.cells #[.pointer (some ⟨p,0,none⟩)] 44);have Dc:=Hi (PY.below Ac);have DR:=Hi (Az w (.cells #[()] 61));obtain⟨Bx,IE⟩:=ex ((w.alloc (.cells #[()] 61)).heap.size);rw[IE] at ER DR;rw[show w.heap.size+1=Bx from DR.symm];obtain⟨U,hU⟩:=ex ((w.alloc (.cells #[()] 61)).alloc (.cells #[.pointer (some ⟨p,0,none⟩)] 44));rw[hU] at ER Dc ⊢;clear Be Ac JL PY IE hU;refine af8 (s:=4) (by omega) (gf:=201) (lb:=#[.pointer Bx]) rfl (enters_of func201 (by kernel_rfl) rfl) (e1:=fun x:Gz=>↑x.name) (e2:=fun x:Gz=>x.row)
  (Ia:=OL w w.heap.size Bx (.pointer (some ⟨p,0,none⟩)) 44 Aa A (JU A w w.heap.size)) (Iy:=UB w w.heap.size Bx (.pointer (some ⟨p,0,none⟩)) 44 Aa A (JU A w w.heap.size))
  (fun xs=>kg (adq _ _ _) Dc.AR.size xs) (fun xs x=>ku (adq _ _ _) Dc.AR.size xs x)
  (aaI 2 (by omega) HM HF w.heap.size Bx (adq _ _ _) U) (.inl ⟨rfl,Dc.AR,Ag _,by have:=DR.out;omega,ER,w.heap.size+1,Dc.size,↑(),by rw[show Ob A []=[] from rfl,RS];exact Dc.out,fun _=>rfl⟩)
  ?assign ?body ?done
 case assign=>
  intro l x W K hK;simp only[np] at hK ⊢
  gi_wp2
  exact hK
 case body=>
  intro l2 pre x W hy;obtain⟨hS,hG,hT,⟨v,hO,-⟩,⟨q2,c2,FV,hP,Dw,hPB⟩⟩:=hy;have J5:=(eQ (K:=Aa) (A:=A) (name:=x.name));have HO:=Hi hO;have HS:=Hi hS;have HG:=Hi hG;have HT:=Hi hT;have HP:=Hi hP;have UM:=Hi hPB;have Sr:=Hi J5.2;have hlen:=J5.1;simp only[np];rw[FV];clear hP Dw FV hO hS hG hT hPB J5;generalize ma:(fileOf Aa A x.name).getD []=fr at*
  gi_wp2
  obtain⟨acc,lG⟩:=ex (Ob A (pre.map (·.name)));have aqC:=Hi lG
  have qm:=Hi (show acc.length+(F9 fr).length≤1000000 from by
   obtain⟨ts,Jp⟩:=HT.out;have h1:=agP A (Il Aa A);rw[HE.out] at h1;have h2:(Ob A (Il Aa A)).length≤1000000:=(by rw[h1];exact HLU.out);rw[←Jp,show pre.map (·.name)++x.name :: ts=(pre.map (·.name)++[x.name])++ts by simp] at h2;unfold Ob at h2;rw[LV,AA] at h2;have h3:=aag A (pre.map (·.name)) x.name;unfold Ob at h3;rw[h3,AA] at h2;unfold Ob at lG;rw[lG,ma] at h2;omega)
  rw[lG] at HO;have HFR:=Hi ma;have Ta:W.heap.size=W.heap.size:=rfl;obtain⟨W0,fB⟩:∃ W0,W0=W:=⟨_,rfl⟩;clear ma lG Ta
  gi_loopw [13] (fun i wr=>afe w W w.heap.size x.B q2 fr acc i wr) (fun i _=>fr.length -(intOf i).toNat)
  case atStart=>exact⟨0,v,AV _,rfl,by rw[Gm,show F9 []=[] from rfl,Eg];exact HO.out,A7.refl _ _,KeepsOthers.refl _,HP,UM⟩
  case round=>
   obtain⟨k,v1,E9,rfl,h1,h2,h3,h4,h5⟩:=hrel;have H1:=Hi h1;have H2:=Hi h2;have H3:=Hi h3;have H4:=Hi h4;have H5:=Hi h5;clear h2 h3 h5;by_cases hlt:k < fr.length
   ·obtain⟨a,Cn,ha,-⟩:=h4.index c2 k hlt;have c0:=ha.key;have c1:=ha.val;have vw:=(Sr _ (CK hlt)).2;have CL:=Hi (show F9 (fr.take (k+1))=F9 (fr.take k)++(Dv fr[k].2).getD [] from by rw[Cr hlt,ayL])
    have qd:=Hi (show acc.length+(F9 (fr.take k)).length+((Dv fr[k].2).getD []).length≤1000000 from by
     have h6:F9 fr=F9 (fr.take (k+1))++F9 (fr.drop (k+1)):=by
      unfold F9;rw[←LV,Lb]
     have h7:=qm.out;rw[h6,CL.out,AA,AA] at h7;omega)
    generalize fr[k]=pr at*;have dC:=Hi (fun(V:World)=>ahQ pr V vw);generalize CX:(Dv pr.2).getD []=kr at*;generalize fC:acc++F9 (fr.take k)=ac at*;have dh:=Hi fC;have aFx:ac.length+kr.length≤1000000:=(by rw[←fC,AA];exact qd.out);obtain⟨qv,cv,rfl⟩:=Bp h1.row;have BO:=AQ wr (.cells #[pr.1,pr.2] 51);have cb:wr.cell? w.heap.size=some (.slice qv ac.length cv):=cr h1.box;have Ke:=AU wr (.cells #[pr.1,pr.2] 51);have acZ:=Az wr (.cells #[pr.1,pr.2] 51);clear h1 h4 ha fC CX
    gi_wp2
    have Ar:=Hi BO;have cb0:(wr.alloc (.cells #[pr.1,pr.2] 51)).cell? wr.heap.size=some ↑pr.1:=cr Ke;have cb1:(wr.alloc (.cells #[pr.1,pr.2] 51)).cell? ⟨wr.heap.size,1,none⟩=some ↑pr.2:=cr Ke;have cbo:(wr.alloc (.cells #[pr.1,pr.2] 51)).cell? w.heap.size=some (.slice qv ac.length cv):=(BO.cell (p:=⟨w.heap.size,0,none⟩) (Cv cb)).trans cb;obtain⟨V,hV⟩:=ex (wr.alloc (.cells #[pr.1,pr.2] 51));rw[hV] at Ar cb0 cb1 cbo acZ ⊢;obtain⟨b,hb⟩:=ex (wr.heap.size);have Sq:=Hi hb;have HSA:=Hi acZ;rw[hb] at cb0 cb1 ⊢;clear Ke acZ BO hV hb c0 c1 cb Cn;have yj:=Hi (fun(V2:World) (Md:Bw wr V2) (kq:Option Addr) (kc:Nat) (CX:Aq.Bt V2 wr.heap.size (.slice kq kr.length kc) kr)=>ayM H1 Md CX (by omega));have aF8:V.drew.cell? w.heap.size=some (.slice qv ac.length cv):=cbo;have aF5:V.drew.cell? b=some ↑pr.1:=cb0;have aF6:V.drew.cell? ⟨b,1,none⟩=some ↑pr.2:=cb1
    gi_region_with_o (refine⟨trivial,(CallsIn.inRound l2 ((DK (n:=0)).2 (dC _))).mono ?_⟩;rintro e w4 ⟨kv,rfl,CX,AB⟩;obtain⟨kq,kc,rfl⟩:=Bp CX;have Bl:Bw wr w4:=(by first|exact Ar.trans (AB.mono Ar.size)|exact Ar.trans ((Ai _ V).drew.trans (AB.mono (Ag _)) |>.mono Ar.size));obtain⟨q7,c7,w7,Ru,N7,Ym,aB,Mi,gQ,vD,mD⟩:=yj w4 Bl kq kc (EM CX (by first|exact Ar.size|(rw[World.size_drew];exact Ar.size)));have HO7:=Hi Mi;have dM:=Hi gQ;have HV7:=Hi vD;have Sj:=Hi mD;clear Mi gQ vD mD CX AB Bl;gi_wp2)
    all_goals
     have CJ:=Hi (show afe w W w.heap.size x.B q2 fr acc (.int .i64 ((k:Int)+1)) (w7.setCell w.heap.size (.slice q7 (ac.length+kr.length) c7)) from
      ⟨k+1,_,by omega,by go_num,by rw[CL.out,←DJ,dh.out];exact HO7.out,H2.trans HV7 (fun _ f=>.inl f),H3.trans Sj.out,H4.upd dM (fun p e hne=>fun f=>by
       rcases f with f|⟨cs,fr,f⟩
       ·obtain⟨cs,fr,hb⟩:=H5 p e hne;rw[f,H1.box] at hb;injection hb with hb
        injection hb with _ hb
        exact absurd hb (by decide)
       ·obtain⟨cs2,fr2,hb⟩:=H5 p e hne;rw[hb] at f;injection f with f
        injection f with _ f
        exact absurd f (by decide)),fun p e hne=>by
       obtain⟨cs,fr,hb⟩:=H5 p e hne;refine⟨cs,fr,(dM.block _ (Ao hb) (fun f=>?_)).trans hb⟩;rcases f with f|⟨cs2,fr2,f⟩
       ·rw[f,H1.box] at hb;injection hb with hb
        injection hb with _ hb
        exact absurd hb (by decide)
       ·rw[hb] at f;injection f with f
        injection f with _ f
        exact absurd f (by decide)⟩)
     gi_wp2
     go_roundw
     case rel=>exact CJ.out
     case measure=>
      show fr.length -((k:Int)+1).toNat < fr.length -((k:Int)).toNat
      omega
   ·obtain rfl:k=fr.length:=(by omega);have CW:=Hi (show OL w w.heap.size Bx (.pointer (some ⟨p,0,none⟩)) 44 Aa A (JU A w w.heap.size) (pre++[x]) wr from ky HS HG HT H2 ⟨v1,by rw[aag,aqC.out,HFR.out];have:=H1.out;rw[Gx (Ag _)] at this;exact this,fun e=>by simp at e⟩);clear h1 h4
    gi_wp2
    exact⟨H3,CW⟩
 case done=>
  intro D xs W hD hS hI Dm;obtain⟨B,v,hO,-⟩:=ko hI;rw[hS] at hO;obtain⟨q,c,rfl⟩:=Bp hO.row;have Lp:=Hi (show Ob A (Il Aa A)=F9 (EW Aa A) from by rw[agP,HE.out]);have hRl:(Ob A (Il Aa A)).length≤1000000:=by rw[Lp.out];exact HLU.out
  have Fh:=Hi (aaN (w:=W) (base:=B) hO.row hRl);have HO:=Hi hO;have TF:=Hi Dm;have HD:=Hi (show w.heap.size≤D from Ay (Ay (Nat.le_succ _) Dc.size) hD);generalize Ob A (Il Aa A)=R at*;have cb:W.cell? w.heap.size=some (.slice q R.length c):=cr hO.box;clear hS hI Dm hD hO
  gi_wp2
  refine⟨trivial,(DK.2 Fh).mono ?_⟩;rintro e w5⟨rv,rfl,G7,Bl⟩;obtain⟨rq,rc,rfl⟩:=Bp G7;have TW:=(Bl.block _ (Ao HO.box)).trans HO.box;have c5:w5.cell? w.heap.size=some (.slice q R.length c):=cr TW;have hf5:=CG w5 w.heap.size 0 _ _ TW;have U6:=(Bl.block D (Dn.1 TF).1).trans TF.out;have KY:=(A7.refl (fun k=>k=w.heap.size) w5).setCell (p:=⟨w.heap.size,0,none⟩) (.inl rfl) (.slice rq (Bi R).length rc);have TY:=Cs w5 w.heap.size 0 _ _ (.slice rq (Bi R).length rc) TW
  have Jh:=Hi ((KY.block D (Dn.1 U6).1 (fun e=>by
   rw[e,TW] at U6;cases U6)).trans U6)
  have mK:=HO.lt
  have KW:=BD (EM G7 HO.AR.size) KY (fun k hk e=>by
   have h1:=DT G7 hk;have h2:=Ao HO.box;omega)
  have EP:=Hi ((HO.AR.trans (Bl.mono HO.AR.size)).setCell (p:=⟨w.heap.size,0,none⟩) (Ag _) (.slice rq (Bi R).length rc));have I7:=Hi KW
  have VL:=Hi (show((w5.setCell w.heap.size (.slice rq (Bi R).length rc)).putObj D (.deferred none)).cell? w.heap.size=some (.slice rq (Bi R).length rc) from by
   rw[BJ _ _ _ _ _ _ (Tf TY Jh rfl)];rfl)
  clear G7 Bl TW U6 KY TY KW
  gi_wp2
  refine⟨by simp,.inl ⟨_,_,rfl,run_takeDeferred Jh,?_⟩⟩;have hu:A7 (fun i=>i=D) (w5.setCell w.heap.size (.slice rq (Bi R).length rc)) ((w5.setCell w.heap.size (.slice rq (Bi R).length rc)).putObj D (.deferred none)):=A7.of_grownBy (F:=fun i=>i=D) (grownBy_putObj' _ D (.deferred none)) (fun i e=>by cases e;rfl);refine⟨_,(by simp[results,results214,go_sem,VL.out]),.slice rq (Bi R).length rc,rfl,?_,Cz EP hu (fun i e=>by rw[e];exact HD.out) EP.size⟩;rw[←Lp.out]
  exact BD I7 hu (fun k hk e=>by
   obtain⟨cs,fz,h2⟩:=Cx I7 hk;rw[e,Jh.out] at h2;cases h2)
end Ci
namespace Gr
open Aw Ah Aq Bu Kp Bz Hex BH Al Mem Ci
structure OO(A:M):Prop where
 ig:(EW Ad A).length≤1000000
 eF:(EW Aa A).length≤1000000
 keys:(F9 (EW Aa A)).length≤1000000
 vU:∀ t∈Bn Ad A,t.length≤100000
 ahW:∀ t∈Bn Aa A,t.length≤100000
 apJ:∀ t∈F9 (EW Aa A),t.length≤100000
def mk(A:M)(roots rs:List T):List T:=(rs.filter fun r=>decide (r∈roots)).flatMap fun r=>(Mc A r).1
theorem an9(A:M)(roots rs:List T)(r:T):mk A roots (rs++[r])=mk A roots rs++if r∈roots then(Mc A r).1 else[]:=by
 unfold mk;rw[IQ,LV]
 congr 1
 by_cases h:r∈roots
 ·rw[Ae h];simp[h]
 ·rw[A9 h];simp[h]
theorem aDT{K:Kind}{A:M}{k v:T}(h:BU K A k=some v):(fileOf K A (K.nm k)).isSome=true:=by
 unfold BU at h;cases hf:fileOf K A (K.nm k) with
 |none=>rw[hf] at h;cases h
 |some l=>rfl
theorem Y6{A:M}(hu:Up A){r:T}(h:r∈Bn Aa A):(Mc A r).1=JR both A r:=by
 have h1:=(RL Gf hu r).1 h;obtain⟨v,hv⟩:=KD.1 h1;unfold Mc;rw[A9 (fun e=>by rw[aDT hv] at e;exact absurd e.2 (by decide))];unfold JR dV;have Kj:BU both.d A r=some v:=hv;rw[hv,Kj];rfl
theorem azG{A:M}(hu:Up A)(roots:List T):∀ t∈mk A roots (Bn Aa A),t∈F9 (EW Aa A):=fun t ht=>by
 unfold mk at ht;obtain⟨r,hr,ht⟩:=NZ.1 ht;have h1:=(G9.1 hr).1;obtain⟨v,hv⟩:=KD.1 ((RL Gf hu r).1 h1);have h2:=(ic Gf hu r v).2 hv;unfold F9;refine NZ.2 ⟨(r,v),h2,?_⟩;rw[Y6 hu h1] at ht;unfold JR dV at ht;have Kj:BU both.d A r=some v:=hv;rw[Kj] at ht;exact ht
theorem aFj{A:M}{r:T}:(Mc A r).1.length≤65535:=by
 unfold Mc;split
 ·exact AV _
 ·cases hv:BU Aa A r with
  |none=>exact AV _
  |some v=>
   show((Dv v).getD []).length≤65535
   cases hr:Dv v with
   |none=>exact AV _
   |some l=>exact aB8 hr
theorem bW{α:Type}{a b:List α}(h:a.Sublist b)(f:α→Nat):(a.map f).sum≤(b.map f).sum:=by
 induction h with
 |slnil=>exact Ag _
 |cons x _ ih=>rw[Ce,DY];omega
 |cons_cons x _ ih=>rw[Ce,DY,Ce,DY];omega
theorem azF{A:M}(hu:Up A)(roots:List T)(k:Nat):(mk A roots ((Bn Aa A).take k)).length≤(F9 (EW Aa A)).length:=by
 have h0:(mk A roots ((Bn Aa A).take k)).length≤(((Bn Aa A)).map fun r=>(Mc A r).1.length).sum:=by
  unfold mk;rw[List.length_flatMap];refine Ay (bW (List.filter_sublist) _) (bW (List.take_sublist _ _) _)
 refine Ay h0 (Nat.le_of_eq ?_);have hp:(Bn Aa A).Perm ((EW Aa A).map (·.1)):=by
  refine(List.perm_ext_iff_of_nodup (Xm _) (aaV hu)).2 fun t=>?_
  exact El _ _
 rw[(hp.map fun r=>(Mc A r).1.length).sum_nat,Kv];unfold F9;rw[List.length_flatMap]
 congr 1
 refine OI fun p hp=>?_
 have hv:=(ic Gf hu p.1 p.2).1 hp
 show(Mc A p.1).1.length=_
 have hm:p.1∈Bn Aa A:=(RL Gf hu p.1).2 (by rw[hv];rfl);rw[Y6 hu hm];unfold JR dV;have Kj:BU both.d A p.1=some p.2:=hv;rw[Kj];rfl
theorem av0(m n:Nat)(c:T→Nat):afl (fun W=>O8 W m c n) (.func (.func 216) #[.map (some m)] #[]) (fun t=>decide (c t=0)):=
 ⟨_,_,_,rfl,enters_of func216 (by kernel_rfl) rfl,fun W t ht h=>av1 h t ht⟩
theorem aBv{w:World}{base n c:Nat}{p:Addr}{l:List T}(h:Aq.Bt w base (.slice (some p) n c) l):base≤p.block:=by
 rcases h.2 with⟨e1,_⟩|⟨g,cap',cur,e1,h1,_⟩
 ·injection e1 with e1;cases e1
 ·have e2:p=⟨g,0,none⟩:=by injection e1 with e1;injection e1
  subst e2;exact DT h rfl
theorem aDH{A:M}(hu:Up A)(t:T):t∈Bi (F9 (EW Aa A))↔Used both A t:=by
 rw[El];unfold Used F9;rw[NZ];constructor
 ·rintro⟨p,hp,ht⟩;have hv:=(ic Gf hu p.1 p.2).1 hp;refine⟨p.1,(RL Gf hu p.1).2 (by rw[hv];rfl),?_⟩;unfold JR dV;have Kj:BU both.d A p.1=some p.2:=hv;rw[Kj];exact ht
 ·rintro⟨r,hr,ht⟩;obtain⟨v,hv⟩:=KD.1 ((RL Gf hu r).1 hr);refine⟨(r,v),(ic Gf hu r v).2 hv,?_⟩;unfold JR dV at ht;have Kj:BU both.d A r=some v:=hv;rw[Kj] at ht;exact ht
theorem azh{w:World}{pm pd y:Nat}{A:M}(hm:Gq w pm y)(hd:Fj w pd y)(hf:Hf w y A)(Ez:OO A):
  Calls prog 153 #[pm,pd] w fun e w'=>∃ v,e=.returned (.tuple #[v,.int .i64 0])∧Aq.Bt w' w.heap.size v (RI both A)∧Bw w w':=by
 have HM:=Hi hm;have HD:=Hi hd;have HF:=Hi hf;have O6:=Hi Ez;have NN:=@run_makeMap prog;clear hm hd hf Ez
 go_in
 go_wp2_with fail;refine(aC0 _ _ _).mono ?_;rintro e w1⟨rfl,Jr⟩;subst Jr;go_wp2_with fail;have BO:=AQ w (.map #[] 0);have AP:=Hi BO;have QU:=Hi (O8.made w);have Ga:=Hi (atz (HD.below BO) (HF.below BO) O6.eF O6.keys);have BS:=Az w (.map #[] 0);have DR:=Hi BS;clear BO BS;refine Ga.mono ?_;rintro e w2⟨v2,rfl,NQ,Ac⟩;obtain⟨rq,rc,rfl⟩:=Bp NQ;have Aj:=bH AP Ac;have ark:=Hi (QU.below Ac);have Q7:=Hi (aDH (A:=A) HF.up);have agx:=Hi (show(Bi (F9 (EW Aa A))).length≤1000000 from Ay (VC _) O6.keys);have agv:=Hi (show ∀ t∈Bi (F9 (EW Aa A)),t.length≤1000000 from fun t ht=>Ay (O6.apJ t ((El _ _).1 ht)) (by decide))
 have afu:=Hi (show ∀ p,rq=some p→Bi (F9 (EW Aa A))≠[]→p.block≠w.heap.size from fun p e hne f=>by
  subst e;have h1:=aBv NQ;have h2:=DR.out;omega)
 obtain⟨us,FL⟩:=ex (Bi (F9 (EW Aa A)));rw[FL] at NQ Q7 agx agv afu ⊢;have arf:=Hi (azo (cap:=rc) ark (Hd NQ) afu agv (by have:=agx.out;omega) (fun t=>AV _));clear NQ Ac Ga QU FL;go_wp2_with fail;refine arf.mono ?_;rintro e w3⟨⟨v3,rfl⟩,uP,Du⟩;have Au:=Hi (Cz Aj Du (fun i e=>Nat.le_of_eq e.symm) Aj.size);have HK:=Hi (ana (HM.below Au) (HF.below Au) O6.ig);have GU:=Hi (show(Bn Ad A).length≤1000000 from by rw[YV (K:=Ad) HF.up];exact O6.ig);have e1:(fun t=>0+us.count t)=fun t=>us.count t:=by funext t;rw[GQ]
 rw[e1] at uP;obtain⟨n9,hn9⟩:=ex (0+us.length);rw[hn9] at uP;have arl:=Hi uP
 have Sd:=Hi (show(Bn Ad A).filter (fun t=>decide (us.count t=0))=RI both A from by
  unfold RI;refine List.filter_congr fun t _=>?_
  rw[decide_eq_decide,List.count_eq_zero];exact not_congr (Q7 t))
 have P5:=Hi (av0 w.heap.size n9 (fun t=>us.count t));clear uP Du hn9 e1;go_wp2_with fail;refine HK.mono ?_;rintro e w4⟨kv,rfl,CX,AB⟩;obtain⟨kq,kc,rfl⟩:=Bp CX;have AX:=bH Au AB;have ala:=arl.below AB;have HTH:=Hi (aDb (cap:=kc) (Hd CX) P5 (fun W hW=>ala.below hW) (fun t ht=>Ay (O6.vU t ht) (by decide)) GU.out);rw[Sd.out] at HTH;clear AB CX ala;go_wp2_with fail;refine HTH.mono ?_;rintro e w5⟨u,rfl,KV,Bl⟩;obtain⟨uq,uc,rfl⟩:=Bp KV;have Lm:=Hi (EM KV AX.size);have Cj:=bH AX Bl;clear KV Bl;go_wp2;go_ret2;exact⟨_,rfl,Lm,Cj⟩
end Gr
namespace Ew
open Aw Ah Aq Bu Kp Bz Hex BH Al Mem Ci Gr
variable {w:World}{pm pd y:Nat}{A:M}
theorem kz{ops:Array Oper}{rest:List Oper}{o:Oper}{a:Act}{Q:Exit→Act→World→Prop}(Jm:o.guard=none)(s x:Operand)
  (ho:o.op=.call { callee:=.builtin .append,args:=#[s,x],argTypes:=#[58,58] }){wr:World}{base n:Nat}{v:Value}{cs:List Value}(hs:a.eval s=v)(Af:wr.ownsRow base 23 3 v n cs)(hb:base≤wr.heap.size)(hn:n≤1000000)
  {k:Int}{x1 x2:ByteArray}(hx:a.eval x=.slice wr.heap.size 1 1)
  (h:∀ g' cap' w1,w1.ownsRow base 23 3 (.slice (some ⟨g',0,none⟩) (n+1) cap') (n+1) (cs++[.int .u8 k,.string x1,.string x2])→(wr.alloc (.cells #[.int .u8 k,.string x1,.string x2] 23)).grownBy w1 v.ownBlock→wpList prog ops Q rest (a.put o.dst (.slice (some ⟨g',0,none⟩) (n+1) cap')) w1):
  wpList prog ops Q (o :: rest) a (wr.alloc (.cells #[.int .u8 k,.string x1,.string x2] 23)):=by
 obtain⟨i0,Bh,AY,AZ,Bb⟩:=Dy ahc;refine wpList_append_own_at _ Jm s x 58 ho base 23 i0 _ 3 40 underlying58 Bh AY AZ Bb rfl (by decide) v n cs hs (Af.alloc _) ⟨wr.heap.size,0,none⟩ 1 1 [.int .u8 k,.string x1,.string x2] hx rfl (by intro j u hj;rw[add_plain,E5];exact(Dx▸hj)) (by simp[Value.oneCell']) (by unfold maxLen;omega) (by omega) (by rw[Az];omega) ?_;intro v' w1 hown AJ _ _;obtain⟨g',cap',rfl⟩:=ownsRow_succ hown;exact h g' cap' w1 hown AJ
def Fz(pm pd:Nat):Obj:=.cells #[pm,pd] 131
theorem rP(w:World)(pm pd:Nat):(w.alloc (Fz pm pd)).cell? w.heap.size=some (.pointer pm)∧(w.alloc (Fz pm pd)).cell? ⟨w.heap.size,1,none⟩=some (.pointer pd):=by
 have h:=AU w (Fz pm pd);have e:Fz pm pd=.cells #[pm,pd] 131:=rfl;rw[e] at h ⊢;exact⟨cr h,cr h⟩
theorem ek(K:Kind)(A:M):(CO K A).length≤A.length:=by
 unfold CO;rw[Ca];exact LW _ _
theorem aal{w0 wr:World}{N:List T}{f:T→Nat×T×T}{q:Option Addr}{c:Nat}(Be:Bw w w0)(h:wr.ownsRow w0.heap.size 23 3 (.slice q N.length c) N.length (F3 ((N.take N.length).map f)))(hb:Bw w0 wr):
  ∃ v,Ending.returned (.slice q N.length c)=.returned v∧Ir wr w.heap.size v (N.map f)∧Bw w wr:=by
 rw[D5] at h;refine⟨_,rfl,?_,Be.trans (hb.mono Be.size)⟩
 show wr.ownsRow _ _ _ _ (N.map f).length _
 rw[Ca];exact EM h Be.size
theorem azx(hm:Gq w pm y)(hf:Hf w y A):
  Calls prog 66 #[.agg #[pm,pd]] w fun e w'=>∃ v,e=.returned v∧Ir w' w.heap.size v ((CO Ad A).map fun x=>(1,x,[]))∧Bw w w':=by
 have Be:=AQ w (Fz pm pd);have AP:=Hi Be;have Lf:=Hi (azs (hm.below Be) (hf.below Be));have Ei:(CO Ad A).length≤1000000:=Ay (ek _ _) hf.len;obtain⟨w0,EJ⟩:=ex (w.alloc (Fz pm pd));have c0:w0.cell? w.heap.size=some (.pointer pm):=by rw[←EJ];exact(rP w pm pd).1
 rw[EJ] at AP Lf;clear hm hf Be;generalize CO Ad A=N at*
 go_in
 unfold Fz at EJ;go_wp2_with fail;refine Lf.mono ?_;rintro e w2⟨v,rfl,Af,Ac⟩;obtain⟨q,c,rfl⟩:=Bp Af;have BV:=Hi Af;have Aj:=Hi Ac;clear Af Ac Lf c0 EJ;go_wp2
 go_loopw [2,9] (fun s i wr=>pG w0 (.slice q N.length c) N (fun x=>(1,x,[])) s i wr) (fun _ i _=>N.length -(intOf i).toNat)
 case atStart=>exact⟨0,none,0,AV _,rfl,rfl,by rw[Gm,Kw,kE];exact DZ _ _ _ _,Aj,BV⟩
 case round=>
  obtain⟨k,cq,cc,hk,rfl,rfl,Af,hb,Gu⟩:=hrel;have BF:=Hi Af;have HB:=Hi hb;by_cases hlt:k < N.length
  ·obtain⟨a,Cn,c0⟩:=(Hd (c:=c) Gu).index c k hlt;have Nv:=Hi (fun(g' cap':Nat) (w1:World) hg ho=>aam (w:=w0) (nv:=.slice q N.length c) (ov:=.slice cq k cc) (f:=fun x=>(1,x,[])) (q':=some ⟨g',0,none⟩) (cap':=cap') (w1:=w1) hlt hb Af (AQ wr (.cells #[.int .u8 1,(N[k]'hlt),.string (bs [])] 23)) hg ho Gu);generalize N[k]=t at*;clear Af hb Gu;go_wp2_with (at_builtin;refine kz rfl _ _ rfl rfl BF.out HB.out.size (by omega) rfl ?_;intro g' cap' w1 hown AJ;have CJ:=Hi (Nv g' cap' w1 AJ hown);clear hown AJ);go_roundw
   case rel=>exact CJ.out
   case measure=>
    show N.length -((k:Int)+1).toNat < N.length -((k:Int)).toNat
    omega
  ·obtain rfl:k=N.length:=(by omega);clear Af hb Gu;go_wp2;go_ret;exact aal AP BF HB.out
theorem aDS(hm:Fj w pd y)(hf:Hf w y A):
  Calls prog 67 #[.agg #[pm,pd]] w fun e w'=>∃ v,e=.returned v∧Ir w' w.heap.size v ((CO Aa A).map fun x=>(2,x,[]))∧Bw w w':=by
 have Be:=AQ w (Fz pm pd);have AP:=Hi Be;have Lf:=Hi (atA (hm.below Be) (hf.below Be));have Ei:(CO Aa A).length≤1000000:=Ay (ek _ _) hf.len;obtain⟨w0,EJ⟩:=ex (w.alloc (Fz pm pd));have c0:w0.cell? ⟨w.heap.size,1,none⟩=some (.pointer pd):=by rw[←EJ];exact(rP w pm pd).2
 rw[EJ] at AP Lf;clear hm hf Be;generalize CO Aa A=N at*
 go_in
 unfold Fz at EJ;go_wp2_with fail;refine Lf.mono ?_;rintro e w2⟨v,rfl,Af,Ac⟩;obtain⟨q,c,rfl⟩:=Bp Af;have BV:=Hi Af;have Aj:=Hi Ac;clear Af Ac Lf c0 EJ;go_wp2
 go_loopw [2,9] (fun s i wr=>pG w0 (.slice q N.length c) N (fun x=>(2,x,[])) s i wr) (fun _ i _=>N.length -(intOf i).toNat)
 case atStart=>exact⟨0,none,0,AV _,rfl,rfl,by rw[Gm,Kw,kE];exact DZ _ _ _ _,Aj,BV⟩
 case round=>
  obtain⟨k,cq,cc,hk,rfl,rfl,Af,hb,Gu⟩:=hrel;have BF:=Hi Af;have HB:=Hi hb;by_cases hlt:k < N.length
  ·obtain⟨a,Cn,c0⟩:=(Hd (c:=c) Gu).index c k hlt;have Nv:=Hi (fun(g' cap':Nat) (w1:World) hg ho=>aam (w:=w0) (nv:=.slice q N.length c) (ov:=.slice cq k cc) (f:=fun x=>(2,x,[])) (q':=some ⟨g',0,none⟩) (cap':=cap') (w1:=w1) hlt hb Af (AQ wr (.cells #[.int .u8 2,(N[k]'hlt),.string (bs [])] 23)) hg ho Gu);generalize N[k]=t at*;clear Af hb Gu;go_wp2_with (at_builtin;refine kz rfl _ _ rfl rfl BF.out HB.out.size (by omega) rfl ?_;intro g' cap' w1 hown AJ;have CJ:=Hi (Nv g' cap' w1 AJ hown);clear hown AJ);go_roundw
   case rel=>exact CJ.out
   case measure=>
    show N.length -((k:Int)+1).toNat < N.length -((k:Int)).toNat
    omega
  ·obtain rfl:k=N.length:=(by omega);clear Af hb Gu;go_wp2;go_ret;exact aal AP BF HB.out
theorem amM{A:M}(hu:Up A)(h:OO A):(RI both A).length≤1000000:=by
 unfold RI;refine Ay (LW _ _) ?_
 show(Bn Ad A).length≤_
 rw[YV (K:=Ad) hu];exact h.ig
theorem auJ(hm:Gq w pm y)(hd:Fj w pd y)(hf:Hf w y A)(Ez:OO A):
  Calls prog 69 #[.agg #[pm,pd]] w fun e w'=>∃ v,e=.returned v∧Ir w' w.heap.size v ((RI both A).map fun x=>(4,[],x))∧Bw w w':=by
 have Be:=AQ w (Fz pm pd);have AP:=Hi Be;have Lf:=Hi (azh (hm.below Be) (hd.below Be) (hf.below Be) Ez);have Ei:(RI both A).length≤1000000:=amM hf.up Ez;obtain⟨w0,EJ⟩:=ex (w.alloc (Fz pm pd));have c0:w0.cell? w.heap.size=some (.pointer pm):=by rw[←EJ];exact(rP w pm pd).1
 have c1:w0.cell? ⟨w.heap.size,1,none⟩=some (.pointer pd):=by rw[←EJ];exact(rP w pm pd).2
 rw[EJ] at AP Lf;clear hm hd hf Be Ez;generalize RI both A=N at*
 go_in
 unfold Fz at EJ;go_wp2_with fail;refine Lf.mono ?_;rintro e w2⟨v,rfl,Af,Ac⟩;obtain⟨q,c,rfl⟩:=Bp Af;have BV:=Hi Af;have Aj:=Hi Ac;clear Af Ac Lf c0 c1 EJ;go_wp2
 go_loopw [2,17] (fun s i wr=>pG w0 (.slice q N.length c) N (fun x=>(4,[],x)) s i wr) (fun _ i _=>N.length -(intOf i).toNat)
 case atStart=>exact⟨0,none,0,AV _,rfl,rfl,by rw[Gm,Kw,kE];exact DZ _ _ _ _,Aj,BV⟩
 case round=>
  obtain⟨k,cq,cc,hk,rfl,rfl,Af,hb,Gu⟩:=hrel;have BF:=Hi Af;have HB:=Hi hb;by_cases hlt:k < N.length
  ·obtain⟨a,Cn,c0⟩:=(Hd (c:=c) Gu).index c k hlt;have Nv:=Hi (fun(g' cap':Nat) (w1:World) hg ho=>aam (w:=w0) (nv:=.slice q N.length c) (ov:=.slice cq k cc) (f:=fun x=>(4,[],x)) (q':=some ⟨g',0,none⟩) (cap':=cap') (w1:=w1) hlt hb Af (AQ wr (.cells #[.int .u8 4,.string (bs []),(N[k]'hlt)] 23)) hg ho Gu);generalize N[k]=t at*;clear Af hb Gu;go_wp2_with (at_builtin;refine kz rfl _ _ rfl rfl BF.out HB.out.size (by omega) rfl ?_;intro g' cap' w1 hown AJ;have CJ:=Hi (Nv g' cap' w1 AJ hown);clear hown AJ);go_roundw
   case rel=>exact CJ.out
   case measure=>
    show N.length -((k:Int)+1).toNat < N.length -((k:Int)).toNat
    omega
  ·obtain rfl:k=N.length:=(by omega);clear Af hb Gu;go_wp2;go_ret;exact aal AP BF HB.out
def Xr(A:M)(r:T):List (Nat×T×T):=((JR both A r).filter fun k=>(mV both A k).isNone).map fun k=>(3,r,k)
def RY(A:M)(rs:List T):List (Nat×T×T):=rs.flatMap (Xr A)
theorem af9(A:M)(rs:List T)(r:T):RY A (rs++[r])=RY A rs++Xr A r:=by unfold RY;rw[LV];simp
theorem aqm(A:M):RY A (Bn Aa A)=(MH both A).map fun p=>(3,p.1,p.2):=by
 unfold RY MH;rw[List.map_flatMap]
 congr 1
 funext r
 unfold Xr;rw[Kv];rfl
theorem aqn{A:M}(hu:Up A){k:Nat}(hk:k < (Bn Aa A).length):(RY A ((Bn Aa A).take k)).length+(JR both A (Bn Aa A)[k]).length≤(F9 (EW Aa A)).length:=by
 have h1:=azF hu (Bn Aa A) (k+1);have h2:∀ rs:List T,(∀ r∈rs,r∈Bn Aa A)→(RY A rs).length≤(mk A (Bn Aa A) rs).length:=by
  intro rs
  induction rs using xA with
  |h0=>intro _;exact AV _
  |h1 rs r ih=>
   intro h;have ih:=ih fun x hx=>h x (UA _ hx)
   have hr:=h r (List.mem_append_right _ (by simp));rw[af9,an9,Ae hr,AA,AA,Y6 hu hr];have:(Xr A r).length≤(JR both A r).length:=by
    unfold Xr;rw[Ca];exact LW _ _
   omega
 have h3:=h2 ((Bn Aa A).take k) (fun r hr=>List.mem_of_mem_take hr);rw[Cr hk,an9,Ae (CK hk),AA,Y6 hu (CK hk)] at h1;omega
theorem awq(A:M)(k:T):(MW Ad A k).2.1=(mV both A k).isSome:=by
 unfold MW;split
 ·rename_i h
  have:fileOf Ad A (Ad.nm k)=none:=by
   cases hf:fileOf Ad A (Ad.nm k) with
   |none=>rfl
   |some l=>rw[hf] at h;exact absurd h.2 (by simp)
  show false=(BU Ad A k).isSome
  unfold BU;rw[this];rfl
 ·show _=(BU Ad A k).isSome
  cases BU Ad A k<;>rfl
theorem apV{A:M}(hu:Up A)(Ez:OO A){r:T}(hr:r∈Bn Aa A):∀ t∈JR both A r,t.length≤100000:=fun t ht=>by
 refine Ez.apJ t (azG hu (Bn Aa A) t ?_);unfold mk;exact NZ.2 ⟨r,G9.2 ⟨hr,by simpa using hr⟩,by rw[Y6 hu hr];exact ht⟩
def agO(w0:World)(A:M)(rv:Value)(s i:Value)(wr:World):Prop:=
 ∃ (k n:Nat) (q:Option Addr) (c:Nat),k≤(Bn Aa A).length∧n=(RY A ((Bn Aa A).take k)).length∧i= ↑(k:Int)∧s=.slice q n c∧wr.ownsRow w0.heap.size 23 3 (.slice q n c) n (F3 (RY A ((Bn Aa A).take k)))∧Bw w0 wr∧Aq.Bt wr w0.heap.size rv (Bn Aa A)
def aad(w0:World)(A:M)(r:T)(L0:List (Nat×T×T))(rv kv:Value)(R K:List T)(s i:Value)(wr:World):Prop:=
 ∃ (k n:Nat) (q:Option Addr) (c:Nat),k≤K.length∧n=(L0++((K.take k).filter fun t=>(mV both A t).isNone).map fun t=>(3,r,t)).length∧i= ↑(k:Int)∧s=.slice q n c∧wr.ownsRow w0.heap.size 23 3 (.slice q n c) n (F3 (L0++((K.take k).filter fun t=>(mV both A t).isNone).map fun t=>(3,r,t)))∧Bw w0 wr∧Aq.Bt wr w0.heap.size rv R∧Aq.Bt wr w0.heap.size kv K
theorem auy{K:List T}{f:T→Bool}{k:Nat}(hk:k < K.length):(K.take (k+1)).filter f=(K.take k).filter f++if f K[k]=true then[K[k]] else[]:=vZ hk
theorem aEb(hm:Gq w pm y)(hd:Fj w pd y)(hf:Hf w y A)(Ez:OO A):
  Calls prog 68 #[.agg #[pm,pd]] w fun e w'=>∃ v,e=.returned v∧Ir w' w.heap.size v ((MH both A).map fun p=>(3,p.1,p.2))∧Bw w w':=by
 have Be:=AQ w (Fz pm pd);have AP:=Hi Be;have zz:=Hi (ahY (hd.below Be) (hf.below Be) Ez.eF);have O6:=Hi Ez;have FY:=Hi hf.up;have zM:=Hi (aqm A);have JC:=Hi (fun(W:World) (hW:Below (w.alloc (Fz pm pd)).heap.size (w.alloc (Fz pm pd)) W) (r:T) (hr:r.length≤1000000)=>ahK ((hd.below Be).below hW) (((hf.below Be).below hW).gets) r hr);have afK:=Hi (fun(W:World) (hW:Below (w.alloc (Fz pm pd)).heap.size (w.alloc (Fz pm pd)) W) (k:T) (hk:k.length≤1000000)=>azE ((hm.below Be).below hW) (((hf.below Be).below hW).gets) k hk)
 have HC:=Hi (fun(W:World) (hW:Below (w.alloc (Fz pm pd)).heap.size (w.alloc (Fz pm pd)) W)=>show W.cell? w.heap.size=some (.pointer pm)∧W.cell? ⟨w.heap.size,1,none⟩=some (.pointer pd) from by
  have h:=(hW.block w.heap.size (by rw[Az];omega)).trans (AU w (Fz pm pd));unfold Fz at h;exact⟨cr h,cr h⟩)
 have WU:(Bn Aa A).length≤1000000:=by rw[YV (K:=Aa) hf.up];exact Ez.eF
 obtain⟨w0,EJ⟩:=ex (w.alloc (Fz pm pd));rw[EJ] at AP zz JC afK HC;obtain⟨c0,c1⟩:=HC _ (Ai _ _);clear hm hd hf Be Ez
 go_in
 unfold Fz at EJ;go_wp2_with fail;refine zz.mono ?_;rintro e w2⟨v,rfl,Af,Ac⟩;obtain⟨q,c,rfl⟩:=Bp Af;have BV:=Hi Af;have Aj:=Hi Ac;clear Af Ac zz c0 c1 EJ;go_wp2
 go_loopw [2,14] (fun s i wr=>agO w0 A (.slice q (Bn Aa A).length c) s i wr) (fun _ i _=>(Bn Aa A).length -(intOf i).toNat)
 case atStart=>exact⟨0,0,none,0,AV _,rfl,rfl,rfl,by rw[Gm,show RY A []=[] from rfl,kE];exact DZ _ _ _ _,Aj,BV⟩
 case round=>
  obtain⟨k,n,cq,cc,hk,hn,rfl,rfl,Af,hb,Gu⟩:=hrel;have BF:=Hi Af;have HB:=Hi hb;have OW:=Hi Gu;have HN:=Hi hn;by_cases hlt:k < (Bn Aa A).length
  ·obtain⟨a,Cn,e0⟩:=(Hd (c:=c) Gu).index c k hlt;have KU:=CK hlt;have M5:=Hi (aqn FY hlt);have Iz:=Hi (O6.ahW _ KU);have HUK:=Hi (apV FY O6 KU);have CW:=Hi (show RY A ((Bn Aa A).take (k+1))=RY A ((Bn Aa A).take k)++Xr A (Bn Aa A)[k] from by rw[Cr hlt,af9]);have XE:=Hi (Y6 FY KU);obtain⟨d0,d1⟩:=HC _ hb;have HG:=Hi (JC _ hb (Bn Aa A)[k] (by have:=Iz.out;omega));rw[XE.out] at HG;generalize (Bn Aa A)[k]=run at*;clear Af hb Gu hn KU XE;go_wp2_with fail;refine HG.mono ?_;rintro e w3⟨kv,rfl,CX,Av⟩;obtain⟨K,hK⟩:=ex (JR both A run);have HW:=Hi (show Xr A run=(K.filter fun t=>(mV both A t).isNone).map fun t=>(3,run,t) from by rw[←hK];rfl);rw[hK] at CX M5 HUK;obtain⟨kq,kc,rfl⟩:=Bp CX;obtain⟨L0,l9⟩:=ex (RY A ((Bn Aa A).take k));rw[l9] at BF HN M5 CW;have JW:=Hi (EM CX HB.size);have Au:=bH HB Av;have Q4:=Hi (Cc BF Av);have zh:=Hi (Cc OW Av);obtain⟨R,hR⟩:=ex (Bn Aa A);rw[hR] at zh;have Lp:=Hi hR
   have jQ:=Hi (show n≤1000000∧L0.length+K.length≤1000000 from by
    have h1:=HN.out;have h2:=M5.out;have h3:=O6.keys;omega)
   clear hK l9 Av CX HG hR BF OW d0 d1 e0 Cn;generalize (Mc A run).2.1=g1;generalize (Mc A run).2.2=g2;go_wp2_with fail;have fT:K.length≤1000000:=by have:=jQ.2;omega
   go_loopw [2,28] (fun s i wr=>aad w0 A run L0 (.slice q R.length c) (.slice kq K.length kc) R K s i wr) (fun _ i _=>K.length -(intOf i).toNat)
   case atStart=>exact⟨0,n,cq,cc,AV _,by simpa using HN.out,rfl,rfl,by simpa using Q4.out,Au,zh,JW⟩
   case round=>
    obtain⟨j,m,sq,sc,hj,hm,rfl,rfl,Af,hb,Gu,CX⟩:=hrel;clear Q4 zh JW Au;have BF:=Hi Af;have HB:=Hi hb;have OW:=Hi Gu;have JW:=Hi CX;have FK:m≤1000000:=by
     have h1:=jQ.2;have h2:=LW (fun t=>(mV both A t).isNone) (K.take j);have h3:=List.length_take_le j K;rw[hm,AA,Ca];omega
    have HM:=Hi hm;by_cases acr:j < K.length
    ·obtain⟨a,Cn,e0⟩:=(Hd (c:=kc) CX).index kc j acr;have CL:=Hi (auy (f:=fun t=>(mV both A t).isNone) acr);have E9:=HUK _ (CK acr);have HH:=Hi (afK _ hb K[j] (by omega));rw[awq] at HH;obtain⟨d0,d1⟩:=HC _ hb;generalize K[j]=key at*;cases hv:(mV both A key).isSome with
     |true=>
      rw[hv] at HH
      have HS:=Hi (show(K.take (j+1)).filter (fun t=>(mV both A t).isNone)=(K.take j).filter (fun t=>(mV both A t).isNone) from by
       rw[CL.out,A9 (by rw[Option.isNone_iff_eq_none];intro e;rw[e] at hv;cases hv),Eg])
      clear Af hb Gu CX hm CL E9 hv;go_wp2_with fail;refine HH.mono ?_;rintro e w4⟨rfl,AB⟩;have AX:=bH HB AB;have CJ:=Hi (show aad w0 A run L0 (.slice q R.length c) (.slice kq K.length kc) R K (.slice sq m sc) (.int .i64 ((j:Int)+1)) w4 from⟨j+1,m,sq,sc,by omega,by rw[HS.out];exact HM.out,by go_num,rfl,by rw[HS.out];exact Cc BF AB,AX,Cc OW AB,Cc JW AB⟩);clear AB;go_wp2;go_roundw
      case rel=>exact CJ.out
      case measure=>
       show K.length -((j:Int)+1).toNat < K.length -((j:Int)).toNat
       omega
     |false=>
      rw[hv] at HH
      have HS:=Hi (show L0++((K.take (j+1)).filter (fun t=>(mV both A t).isNone)).map (fun t=>(3,run,t))=(L0++((K.take j).filter (fun t=>(mV both A t).isNone)).map (fun t=>(3,run,t)))++[(3,run,key)] from by
       rw[CL.out,Ae (by rw[Option.isNone_iff_eq_none];cases hm:mV both A key with|none=>rfl|some v=>rw[hm] at hv;cases hv),CQ,DJ];rfl)
      clear Af hb Gu CX hm CL E9 hv;go_wp2_with fail;refine HH.mono ?_;rintro e w4⟨rfl,AB⟩;have AX:=bH HB AB;have XO:=Hi (Cc BF AB);have arw:=Hi (Cc OW AB);have yU:=Hi (Cc JW AB);clear AB;go_wp2_with (at_builtin;refine kz rfl _ _ rfl rfl XO.out AX.out.size FK rfl ?_;intro g' cap' w5 hown AJ;have TG:=Hi hown;have PU:=Hi AJ;clear hown AJ);have BO:=AQ w4 (.cells #[.int .u8 3,run,key] 23)
      have CJ:=Hi (show aad w0 A run L0 (.slice q R.length c) (.slice kq K.length kc) R K (.slice g' (m+1) cap') (.int .i64 ((j:Int)+1)) w5 from⟨j+1,m+1,some ⟨g',0,none⟩,cap',by omega,by rw[HS.out,AA,←HM.out];rfl,by go_num,rfl,by rw[HS.out,aha];exact TG.out,
       (bT AX BO).grown PU (Ay AX.size BO.size) (fun j hj=>DT XO hj),aeJ (Cc arw BO) (Cc XO BO) PU,aeJ (Cc yU BO) (Cc XO BO) PU⟩)
      clear BO;go_roundw
      case rel=>exact CJ.out
      case measure=>
       show K.length -((j:Int)+1).toNat < K.length -((j:Int)).toNat
       omega
    ·obtain rfl:j=K.length:=(by omega);rw[D5] at Af hm;rw[←HW.out,←CW.out] at Af hm
     have CJ:=Hi (show agO w0 A (.slice q (Bn Aa A).length c) (.slice sq m sc) (.int .i64 ((k:Int)+1)) wr from by
      refine⟨k+1,m,sq,sc,by omega,hm,by go_num,rfl,Af,hb,?_⟩;rw[Lp.out];exact Gu)
     clear Af hb Gu CX hm;go_wp2;go_roundw
     case rel=>exact CJ.out
     case measure=>
      show(Bn Aa A).length -((k:Int)+1).toNat < (Bn Aa A).length -((k:Int)).toNat
      omega
  ·obtain rfl:k=(Bn Aa A).length:=(by omega);rw[D5,zM.out] at Af hn
   have Ey:=Hi (show Ir wr w.heap.size (.slice cq n cc) ((MH both A).map fun p=>(3,p.1,p.2)) from by
    show wr.ownsRow _ _ _ _ _ _
    rw[←hn];exact EM Af AP.size)
   clear Af hb Gu hn;go_wp2;go_ret;exact⟨_,rfl,Ey,AP.trans (HB.mono AP.size)⟩
end Ew
namespace Ew
open Aw Ah Aq Bu Kp Bz Hex BH Al Mem Ci
def y9(K:World→Prop)(v:Value)(f:Nat×T×T→Bool):Prop:=
 ∃ F recv Ka,v=.func (.func F) recv Ka∧(∀ args w,(callFunc F args).run prog w=.ok (.enter F args) w)∧
  ∀ W p,K W→Calls prog F (recv++ #[.agg #[.int .u8 (p.1:Int),p.2.1,p.2.2]]++Ka) W (Rt W (.bool (f p)))
def Vw(f:Nat×T×T→Bool)(l:List (Nat×T×T)):Int:=match l.findIdx? f with
 |some i=>(i:Int)
 |none=> -1
theorem ayp{f:Nat×T×T→Bool}{l:List (Nat×T×T)}{k:Nat}(hk:k < l.length)(h:f l[k]=true)(hn:∀ j (hj:j < k),f (l[j]'(by omega))=false):Vw f l=(k:Int):=by
 have:l.findIdx? f=some k:=List.findIdx?_eq_some_iff_getElem.2 ⟨hk,h,fun j hj=>by rw[hn j hj];decide⟩;unfold Vw;rw[this]
theorem ayo{f:Nat×T×T→Bool}{l:List (Nat×T×T)}(hn:∀ j (hj:j < l.length),f l[j]=false):Vw f l= -1:=by
 have:l.findIdx? f=none:=List.findIdx?_eq_none_iff.2 fun x hx=>by
  obtain⟨i,hi,rfl⟩:=Tp hx;exact hn i hi
 unfold Vw;rw[this]
theorem ayn(f:Nat×T×T→Bool)(l:List (Nat×T×T)):decide (0≤Vw f l)=l.any f:=by
 unfold Vw;cases h:l.findIdx? f with
 |none=>
  have:=List.findIdx?_eq_none_iff.1 h;have e:l.any f=false:=by simpa using this
  rw[e];rfl
 |some i=>
  obtain⟨hi,h1,_⟩:=List.findIdx?_eq_some_iff_getElem.1 h;have e:l.any f=true:=List.any_eq_true.2 ⟨_,CK hi,h1⟩;rw[e];simp
theorem asB{w:World}{K:World→Prop}{v:Value}{f:Nat×T×T→Bool}{a:Option Addr}{l:List (Nat×T×T)}(cap:Nat)(hl:IW w a l)(hf:y9 K v f)(hK:∀ W,Bw w W→K W)(hlen:l.length≤1000000000):
  Calls prog 126 #[.slice a l.length cap,v] w (Rt w (.int .i64 (Vw f l))):=by
 obtain⟨F,recv,Ka,rfl,Ol,KO⟩:=hf;have HL:=Hi hl;have HC:=Hi KO;have HK:=Hi hK;clear hl KO hK
 go_in
 go_wp2
 go_loopw [5,8] (fun _ i wr=>∃ k:Nat,k≤l.length∧i=.int .i64 k∧Bw w wr∧∀ j (hj:j < k),(h:j < l.length)→f l[j]=false) (fun _ i _=>l.length -(intOf i).toNat)
 case atStart=>exact⟨0,AV _,rfl,Ai _ _,fun j hj=>by omega⟩
 case round=>
  obtain⟨k,hk,rfl,hb,CP⟩:=hrel;have DU:=Hi CP;have HB:=Hi hb;clear CP;by_cases hlt:k < l.length
  ·obtain⟨q,Cn,hq,-⟩:=(HL.below hb).index cap k hlt;obtain⟨c0,c1,c2⟩:=hq.cells;have BQ:=HC wr l[k] (HK wr hb);have TE:=Hi (show f l[k]=true→Vw f l=(k:Int) from fun h=>ayp hlt h (fun j hj=>DU j hj (by omega)))
   have CW:=Hi (show f l[k]=false→∀ j (hj:j < k+1),(h:j < l.length)→f l[j]=false from fun h j hj h'=>by
    by_cases e:j=k
    ·subst e;exact h
    ·exact DU j (by omega) h')
   generalize l[k]=x at*;have ES:=Hi BQ;clear BQ hq hb;go_wp2_with fail;refine ES.mono ?_;rintro e w1⟨rfl,Ak⟩;have HB1:=bH HB Ak;generalize f x=s at*;clear Ak;cases s with
   |true=>
    have jG:=Hi (TE rfl);clear TE CW;go_wp2;go_ret;exact⟨by rw[jG.out];rfl,HB1⟩
   |false=>
    have HN:=Hi (CW rfl);clear TE CW;go_wp2;go_roundw
    case rel=>exact⟨k+1,by omega,by go_num,HB1,HN⟩
    case measure=>simp[intOf];omega
  ·obtain rfl:k=l.length:=(by omega);have HN:=Hi (show Vw f l= -1 from ayo (fun j hj=>DU j hj hj));clear hb;go_wp2;go_ret;exact⟨by rw[HN.out];rfl,HB⟩
theorem asA{w:World}{K:World→Prop}{v:Value}{f:Nat×T×T→Bool}{a:Option Addr}{l:List (Nat×T×T)}(cap:Nat)(hl:IW w a l)(hf:y9 K v f)(hK:∀ W,Bw w W→K W)(hlen:l.length≤1000000000):
  Calls prog 48 #[.slice a l.length cap,v] w (Rt w (.bool (l.any f))):=by
 have HI:=Hi (asB cap hl hf hK hlen);have HE:=Hi (ayn f l);clear hl hf hK;generalize Vw f l=i at*
 go_in
 go_wp2_with fail;refine HI.mono ?_;rintro e w1⟨rfl,hb⟩;have HB:=Hi hb;clear hb;go_wp2;go_ret;exact⟨by rw[←HE.out];rfl,HB⟩
theorem aCt(p:Nat×T×T)(w:World):Calls prog 49 #[.agg #[.int .u8 (p.1:Int),p.2.1,p.2.2]] w (Rt w (.bool (p.1 != 4))):=by
 have hk:((p.1:Int) != 4)=(p.1 != 4):=by
  by_cases h:p.1=4
  ·rw[h];rfl
  ·have h2:¬ (p.1:Int)=4:=(by omega);rw[bne_iff_ne.2 h,bne_iff_ne.2 h2]
 obtain⟨k,x,y⟩:=p;have HB:=Hi (AQ w (.cells #[.int .u8 (k:Int),x,y] 23))
 go_in
 go_wp2;go_ret;exact⟨by rw[←hk];rfl,HB⟩
theorem aCs:y9 (fun _=>True) (.func (.func 49) #[] #[]) (fun p=>p.1 != 4):=
 ⟨_,_,_,rfl,enters_of func49 (by kernel_rfl) rfl,fun W p _=>aCt p W⟩
end Ew
namespace Ew
open Aw Ah Aq Bu Kp Bz Hex BH Al Mem Ci Gr
attribute [local go_sem ↓] ed
variable {w:World}{pm pd y:Nat}{A:M}
def Wv(pm pd:Nat):Value:=.agg #[pm,pd]
def findF:Nat→Nat
 |0=>66
 |1=>67
 |2=>68
 |_=>69
def VB(A:M):Nat→List (Nat×T×T)
 |0=>(CO Ad A).map fun x=>(1,x,[])
 |1=>(CO Aa A).map fun x=>(2,x,[])
 |2=>(MH both A).map fun p=>(3,p.1,p.2)
 |_=>(RI both A).map fun x=>(4,[],x)
def upTo(A:M):Nat→List (Nat×T×T)
 |0=>[]
 |j+1=>upTo A j++VB A j
theorem apR(A:M):upTo A 4=LA both A:=by
 show((([]++_)++_)++_)++_=_
 rw[EE];rfl
theorem auz(j:Nat):∀ args w,(callFunc (findF j) args).run prog w=.ok (.enter (findF j) args) w:=by
 match j with
 |0=>exact enters_of func66 (by kernel_rfl) rfl
 |1=>exact enters_of func67 (by kernel_rfl) rfl
 |2=>exact enters_of func68 (by kernel_rfl) rfl
 |j+3=>exact enters_of func69 (by kernel_rfl) rfl
theorem auB(j:Nat)(hm:Gq w pm y)(hd:Fj w pd y)(hf:Hf w y A)(Ez:OO A):
  Calls prog (findF j) #[Wv pm pd] w fun e w'=>∃ v,e=.returned v∧Ir w' w.heap.size v (VB A j)∧Bw w w':=by
 match j with
 |0=>exact azx hm hf
 |1=>exact aDS hd hf
 |2=>exact aEb hm hd hf Ez
 |j+3=>exact auJ hm hd hf Ez
theorem af3{A:M}(hu:Up A)(Ez:OO A):(MH both A).length≤1000000:=by
 have h:=congrArg List.length (aqm A);rw[Ca] at h;rw[←h];cases hl:(Bn Aa A).length with
 |zero=>rw[Ku.1 hl];exact AV _
 |succ n=>
  have hk:n < (Bn Aa A).length:=by omega
  have h1:=aqn hu hk;have h2:Bn Aa A=(Bn Aa A).take n++[(Bn Aa A)[n]]:=by
   rw[←Cr hk,Gx (by omega)]
  rw[h2,af9,AA];have h3:(Xr A (Bn Aa A)[n]).length≤(JR both A (Bn Aa A)[n]).length:=by
   unfold Xr;rw[Ca];exact LW _ _
  have:=Ez.keys;omega
theorem anL{A:M}(hf:Hf w y A)(Ez:OO A)(j:Nat):(VB A j).length≤1000000:=by
 match j with
 |0=>exact(by rw[show(VB A 0).length=(CO Ad A).length from Ca ..];exact Ay (ek _ _) hf.len)
 |1=>exact(by rw[show(VB A 1).length=(CO Aa A).length from Ca ..];exact Ay (ek _ _) hf.len)
 |2=>exact(by rw[show(VB A 2).length=(MH both A).length from Ca ..];exact af3 hf.up Ez)
 |j+3=>exact(by rw[show(VB A (j+3)).length=(RI both A).length from Ca ..];exact amM hf.up Ez)
theorem xO{A:M}(hf:Hf w y A)(Ez:OO A)(j:Nat):(upTo A j).length≤j*1000000:=by
 induction j with
 |zero=>exact AV _
 |succ j ih=>
  have:=anL hf Ez j
  show(upTo A j++VB A j).length≤_
  rw[AA];omega
def agI(w0:World)(A:M)(s i:Value)(wr:World):Prop:=
 ∃ (j n:Nat) (q:Option Addr) (c:Nat),j≤4∧n=(upTo A j).length∧i= ↑(j:Int)∧s=.slice q n c∧wr.ownsRow w0.heap.size 23 3 (.slice q n c) n (F3 (upTo A j))∧Bw w0 wr
def lookO(pm pd:Nat):Obj:=.cells #[.func (.func 66) #[Wv pm pd] #[],.func (.func 67) #[Wv pm pd] #[],.func (.func 68) #[Wv pm pd] #[],.func (.func 69) #[Wv pm pd] #[]] 134
theorem adR(hm:Gq w pm y)(hd:Fj w pd y)(hf:Hf w y A)(Ez:OO A):
  Calls prog 18 #[pm,pd] w fun e w'=>∃ v,e=.returned (.tuple #[v,.int .i64 0])∧Ir w' w.heap.size v (LA both A)∧Bw w w':=by
 have uO:∀ (fn:Fn) (first cap:Array Value) (w:World),(Instr.makeFunc fn first cap).run prog w=.ok (.func fn first cap) w:=fun _ _ _ _=>rfl
 have Be:=(AQ w (Fz pm pd)).trans ((AQ (w.alloc (Fz pm pd)) (lookO pm pd)).mono (AQ w (Fz pm pd)).size);have AP:=Hi Be;have UF:=Hi (fun(j:Nat) (W:World) (hW:Below ((w.alloc (Fz pm pd)).alloc (lookO pm pd)).heap.size ((w.alloc (Fz pm pd)).alloc (lookO pm pd)) W)=>auB j (hm.below (bT Be hW)) (hd.below (bT Be hW)) (hf.below (bT Be hW)) Ez);have NB:=Hi (fun j=>xO hf Ez j);have Ji:=Hi (fun j=>anL hf Ez j)
 have HC:=Hi (fun(W:World) (hW:Below ((w.alloc (Fz pm pd)).alloc (lookO pm pd)).heap.size ((w.alloc (Fz pm pd)).alloc (lookO pm pd)) W) (j:Nat) (hj:j < 4)=>show W.cell? ⟨w.heap.size+1,j,none⟩=some (.func (.func (findF j)) #[Wv pm pd] #[]) from by
  have h:=(hW.block (w.alloc (Fz pm pd)).heap.size (by rw[Az (w.alloc (Fz pm pd))];omega)).trans (AU (w.alloc (Fz pm pd)) (lookO pm pd));rw[Az] at h;unfold lookO at h;rw[BJ _ _ _ _ _ _ h]
  match j,hj with
  |0,_=>rfl
  |1,_=>rfl
  |2,_=>rfl
  |3,_=>rfl)
 obtain⟨w0,EJ⟩:=ex ((w.alloc (Fz pm pd)).alloc (lookO pm pd));rw[EJ] at AP UF HC;clear hm hd hf Be Ez
 go_in
 unfold Fz lookO Wv at EJ;go_wp2_with fail;clear EJ
 go_loopw [4,32] (fun s i wr=>agI w0 A s i wr) (fun _ i _=>4 -(intOf i).toNat)
 case atStart=>exact⟨0,0,none,0,by omega,rfl,rfl,rfl,by rw[show upTo A 0=[] from rfl,kE];exact DZ _ _ _ _,Ai _ _⟩
 case round=>
  obtain⟨j,n,q,c,hj,hn,rfl,rfl,Af,hb⟩:=hrel;have BF:=Hi Af;have HB:=Hi hb;have HN:=Hi hn;by_cases hlt:j < 4
  ·have Cn:∀ W,(Instr.indexAt 135 (.slice (some ⟨w.heap.size+1,0,none⟩) 4 4) ↑(j:Int)).run prog W=.ok (.pointer (some ⟨w.heap.size+1,j,none⟩)) W:=fun W=>by
    have h:=Hy prog 135 134 underlying135 1 (by kernel_rfl) ⟨w.heap.size+1,0,none⟩ 4 4 j hlt W;rw[add_plain,Nat.mul_one] at h;exact h
   have e0:=HC _ hb j hlt;unfold Wv at e0;have hfe:=auz j;have HF:=Hi (fun(W:World) (hW:Bw w0 W)=>UF j W hW);unfold Wv at HF;have HU:=Hi (NB j);have HP:=Hi (Ji j);have Ba:=Hi (show upTo A (j+1)=upTo A j++VB A j from rfl);generalize findF j=F at*;generalize VB A j=K at*;clear Af hb hn;go_wp2_with fail;refine(HF _ (HB.alloc HB.size _)).mono ?_;rintro e w4⟨v,rfl,Ii,AB⟩;obtain⟨q4,c4,rfl⟩:=Bp Ii;have Ig:=(AQ wr (.cells #[.func (.func F) #[.agg #[pm,pd]] #[]] 134)).trans (AB.mono (AQ wr (.cells #[.func (.func F) #[.agg #[pm,pd]] #[]] 134)).size);have AX:=bH HB Ig;have gM:=Cc BF Ig;have Ei:=HN.out;obtain⟨v7,w7,Ru,Mi,IG⟩:=ahe (W:=w4) (B:=w0.heap.size) (v:=.slice q n c) (l:=upTo A j) (by show w4.ownsRow _ _ _ _ _ _;rw[←Ei];exact gM) (IW.CR Ii) (asG Ii) (by have:=HU.out;have:=HP.out;omega) AX.size;obtain⟨q7,c7,rfl⟩:=Bp Mi;have CJ:=Hi (show agI w0 A (.slice q7 (upTo A j++K).length c7) (.int .i64 ((j:Int)+1)) w7 from⟨j+1,(upTo A j++K).length,q7,c7,by omega,by rw[Ba.out],by go_num,rfl,by rw[Ba.out];exact Mi,AX.grown IG AX.size (fun k hk=>DT gM hk)⟩);clear Ii AB Ig gM Ei Mi IG;go_wp2;go_roundw
   case rel=>rw[←AA];exact CJ.out
   case measure=>
    show 4 -((j:Int)+1).toNat < 4 -((j:Int)).toNat
    omega
  ·obtain rfl:j=4:=by omega
   have Ey:=Hi (show Ir wr w.heap.size (.slice q n c) (LA both A) from by
    show wr.ownsRow _ _ _ _ _ _
    rw[←apR,←hn];exact EM Af AP.size)
   clear Af hb hn;go_wp2;go_ret2;exact⟨_,rfl,Ey,AP.trans (HB.mono AP.size)⟩
theorem aA8(w:World):Calls prog 18 #[.pointer none,.pointer none] w fun e w'=>e=.returned (.tuple #[(),.int .i64 1])∧w=w':=by
 go_in
 go_wp2;go_ret2;exact⟨rfl,rfl⟩
theorem aan(hf:Hf w y A)(Ez:OO A):(LA both A).length≤4000000:=by
 rw[←apR];exact xO hf Ez 4
instance (A:M):Decidable (TM both A):=inferInstanceAs (Decidable (_∧_∧_))
theorem aCu(A:M):(!(LA both A).any fun b=>b.1 != 4)=decide (TM both A):=by
 rw[Bool.eq_iff_iff,decide_eq_true_iff,aCv];simp
theorem aCw(hm:Gq w pm y)(hd:Fj w pd y)(hf:Hf w y A)(Ez:OO A):
  Calls prog 14 #[pm,pd] w (Rt w (decide (TM both A))):=by
 have Fx:=Hi (adR hm hd hf Ez);have HL:=Hi (aan hf Ez);rw[←aCu];generalize LA both A=L at*;clear hm hd hf Ez
 go_in
 go_wp2_with fail;refine Fx.mono ?_;rintro e w1⟨v,rfl,hr,hb⟩;obtain⟨q,c,rfl⟩:=Bp hr;have HC:=Hi (asA c (IW.CR hr) aCs (fun _ _=>trivial) (by have:=HL.out;omega));have HB:=Hi hb;clear hr hb;go_wp2_with fail;refine HC.mono ?_;rintro e w2⟨rfl,Ac⟩;have Aj:=bH HB Ac;clear Ac;go_wp2;go_ret;exact⟨rfl,Aj⟩
end Ew
namespace Gr
open Aw Ah Aq Bu Kp Bz Hex BH Al Mem Ci
section
variable {w:World}{D mb db rr rb kb pm pd:Nat}{q1 q2:Option Addr}{c1 c2:Nat}{L1 L2:List T}{a b c a2 b2 c3:Int}{W W':World}
end
def Da(l:M):Nat:=(l.map fun q=>4+q.1.length+q.2.length).sum
theorem sH(l:M):rowLen (flat l)=2+Da l:=by
 unfold rowLen Da
 induction l with
 |nil=>rfl
 |cons p l ih=>
  rw[Y3,Ce,Ce,DY,DY,Ce,DY];omega
theorem aBe{K:Kind}{name d:T}{l:M}(h:K.Cm name d=some l):Da l≤d.length:=by
 obtain⟨_,_,_,s,h4,h5⟩:=Ng h;unfold FW at h4;split at h4
 ·cases ht:BL (flat l) with
  |none=>rw[ht] at h4;cases h4
  |some a=>
   rw[ht] at h4;simp only[EZ,Cu] at h4;have h6:=Xo ht;rw[sH] at h6;have h7:d.length=s.length+4:=(by rw[h5];unfold Ab.FN;rw[AA,Ab.Cb]);rw[h7,←h4,AA];omega
 ·cases h4
theorem aaU(K:Kind)(A:M):Da (EW K A)≤(A.map cost).sum:=by
 induction A with
 |nil=>exact Ag _
 |cons p A ih=>
  have e:EW K (p :: A)=(if K.ours p.1=true then(K.Cm p.1 p.2).getD [] else[])++EW K A:=rfl;rw[e];unfold Da at ih ⊢;rw[CQ,LX,Ce,DY];have h1:((if K.ours p.1=true then(K.Cm p.1 p.2).getD [] else[]).map fun q:T×T=>4+q.1.length+q.2.length).sum≤cost p:=by
   unfold cost;split
   ·cases hr:K.Cm p.1 p.2 with
    |none=>exact AV _
    |some l=>
     have:=aBe hr;unfold Da at this
     show((l.map fun q:T×T=>4+q.1.length+q.2.length).sum)≤_
     omega
   ·exact AV _
  omega
theorem aaQ{l:M}{q:T×T}(h:q∈l):4+q.1.length+q.2.length≤Da l:=by
 induction l with
 |nil=>simp at h
 |cons x l ih=>
  show _≤(4+x.1.length+x.2.length)+Da l
  rcases Ch.1 h with rfl|h
  ·omega
  ·have:=ih h;omega
theorem rZ(l:M):4*l.length+(l.map fun p=>p.2.length).sum≤Da l:=by
 induction l with
 |nil=>exact Ag _
 |cons x l ih=>
  show _≤(4+x.1.length+x.2.length)+Da l
  rw[BM,Ce,DY];omega
theorem iR:∀ {l:List T} {a:T},BL l=some a→∀ t∈l,t.length≤65535
 |[],_,_,t,h=>by simp at h
 |x :: l,a,h,t,ht=>by
  simp only[BL] at h;cases h1:Er x with
  |none=>rw[h1] at h;cases h
  |some y=>
   cases h4:BL l with
   |none=>rw[h1,h4] at h;cases h
   |some z=>
    rcases Ch.1 ht with rfl|ht
    ·unfold Er at h1;split at h1
     ·assumption
     ·cases h1
    ·exact iR h4 t ht
theorem aB9{s:T}{l:List T}(h:Dv s=some l):∀ t∈l,t.length≤65535:=by
 have h2:=o7 h;unfold GM at h2;split at h2
 ·cases ht:BL l with
  |none=>rw[ht] at h2;cases h2
  |some a=>exact iR ht
 ·cases h2
theorem auj{w:World}{b y n N N':Nat}{bl:Nat→Prop}{A A':M}(h:jb w b y bl n N A A')(hN:N≤N'):jb w b y bl n N' A A':=by
 obtain⟨D,fp,m,x,gv,F,h1,h2,h3,h4,h5,h6,h7,h8,h9,eZ⟩:=h
 exact⟨D,fp,m,x,gv,F,h1,h2,h3,h4,h5,h6,h7,h8,fun keep=>by
  obtain⟨F',D',q1,q2,q3,q4⟩:=h9 keep;exact⟨F',D',q1,q2,Ay q3 hN,q4⟩,eZ⟩
theorem sD{A:M}(h:used A≤100000):OO A:=by
 have hm:=aaU Ad A;have hd:=aaU Aa A;have hu:(A.map cost).sum≤100000:=by unfold used at h;omega
 have KT:=rZ (EW Ad A);have Pn:=rZ (EW Aa A);have hk:=ayK (EW Aa A);refine⟨by omega,by omega,by omega,fun t ht=>?_,fun t ht=>?_,fun t ht=>?_⟩
 ·unfold Bn Ef at ht;rw[El] at ht;obtain⟨p,hp,rfl⟩:=Bv.1 ht;have:=aaQ hp;omega
 ·unfold Bn Ef at ht;rw[El] at ht;obtain⟨p,hp,rfl⟩:=Bv.1 ht;have:=aaQ hp;omega
 ·unfold F9 at ht;obtain⟨p,hp,ht⟩:=NZ.1 ht;cases hr:Dv p.2 with
  |none=>rw[hr] at ht;simp at ht
  |some l=>
   rw[hr] at ht;exact Ay (aB9 hr t ht) (by decide)
theorem aDI{F:M}(hu:Up F){k d:T}(hg:get F k=some d):used (del k F)+(8+k.length+d.length)=used F:=by
 have hm:=get_some hg;have e:(put k d F)=F:=bZ (hu.put _ _) hu fun p=>by
  rw[Uo hu];constructor
  ·rintro(rfl|⟨h,_⟩)
   ·exact hm
   ·exact h
  ·intro hp;by_cases e:p.1=k
   ·refine .inl ?_;have h1:=get_mem hu (show(p.1,p.2)∈F from hp);rw[e,hg] at h1;injection h1 with h1
    rw[←e,h1]
   ·exact .inr ⟨hp,e⟩
 have:=((bP (v:=d) hu k).map cost).sum_nat;rw[e,Ce,DY] at this;unfold used;unfold cost at this ⊢;simp only at this;omega
theorem af5:∀ {l:List Am} {F:M},Up F→(l.map (·.name)).Nodup→(∀ c∈l,∃ d,get F c.name=some d∧c.data.length≤d.length)→Ff l≤used F
 |[],F,_,_,_=>AV _
 |c :: l,F,hu,hn,h=>by
  obtain⟨n1,n2⟩:=JV.1 hn;obtain⟨d,h1,h2⟩:=h c (by simp)
  have h3:=af5 (F:=del c.name F) (hu.del _) n2 (fun x hx=>by
   obtain⟨e,h3,h4⟩:=h x (Fs _ hx);have hne:x.name≠c.name:=fun e=>n1 (show c.name∈l.map (·.name) from by rw[←e];exact I6 hx)
   exact⟨e,by rw[kR hu,A9 hne,h3],h4⟩)
  have h4:=aDI hu h1
  show(8+c.name.length+c.data.length)+Ff l≤_
  omega
theorem aEf{K:Kind}{A:M}{ks:List T}(hu:Up A)(hg:Ah.Good A)(ht:There K A ks):Ff (FE K A ks)≤used A:=by
 refine af5 hu (by rw[Wy];exact Xm _) fun c hc=>?_
 unfold FE at hc;obtain⟨name,hn,rfl⟩:=Bv.1 hc;obtain⟨d,l,h1,_,_,h4,_⟩:=eO hg ht hn;exact⟨d,by rw[kI];exact h1,h4⟩
theorem atO{K:Kind}{A:M}{ks:List T}:(FE K A ks).length≤ks.length:=by
 unfold FE;rw[Ca];have:=VC (ks.map K.nm);rwa[Ca] at this
theorem ank{w V V':World}{bl CY:Nat→Prop}(h1:A7 (I8 w bl) w V)(h2:A7 (I8 V CY) V V')(hb:∀ k,CY k→bl k∨w.heap.size≤k):A7 (I8 w bl) w V':=
 h1.trans h2 (fun k hk=>by
  by_cases hl:w.heap.size≤k
  ·exact .inr hl
  ·refine .inl ?_;have Pk:bl k:=(hb k hk.1).elim id (fun e=>absurd e hl);by_cases hn:I8 w bl k
   ·exact hn
   ·refine⟨Pk,fun t ht=>?_⟩;obtain⟨cs,fr,hh⟩:=ht;exact hk.2 t ⟨cs,fr,(h1.block k (by omega) hn).trans hh⟩)
theorem ani{w W V:World}{bl:Nat→Prop}(hb:Bw w W)(h:A7 (I8 W bl) W V):A7 (I8 w bl) w V:=
 ank (A7.of_below (F:=I8 w bl) hb) h (fun k hk=>.inl hk)
theorem azk{K:Kind}{A:M}:made A (FE K A [])=A:=by
 unfold FE;rw[Kw,o8 List.Pairwise.nil];rfl
section
variable {fz:Bool}{w:World}{b y n N:Nat}{bl:Nat→Prop}{A:M}
theorem auR{pd:Nat}{q:Option Addr}{cap:Nat}{ks:List T}(h:Gn fz w b y bl n N A)(hN:N < 1000000000)(hu:used A≤100000)(hd:Fj w pd y)(hk:Dz w q ks)(hl:ks.length≤100000)(ht:There Aa A ks):
  Calls prog 73 #[pd,.slice q ks.length cap] w fun e w'=>∃ c,e=.returned (.int .i64 c)∧∃ CY,cZ fz w' b y CY n (N+1) A (0,made A (FE Aa A ks)) c∧A7 (I8 w bl) w w'∧∀ k,CY k→bl k∨w.heap.size≤k:=by
 obtain⟨u1,u2,u3,-,-⟩:=h.up;obtain⟨d1,d2,-,-⟩:=ahV Gf u1 u2 u3 ht;refine atB (Q:=fun c w'=>∃ CY,cZ fz w' b y CY n (N+1) A (0,made A (FE Aa A ks)) c∧A7 (I8 w bl) w w'∧∀ k,CY k→bl k∨w.heap.size≤k) hd (sZ h) u2 hk hl ht (fun W hW=>ab7 (h.below hW)) (fun e w' hw=>?_) (fun W q c hW ax=>?_)
 ·subst e;rw[azk];exact⟨bl,.inl ⟨rfl,(h.below hw).more (Nat.le_succ _)⟩,A7.of_below hw,fun k hk=>.inl hk⟩
 ·refine(ab4 (h.below hW) hN ax (Ay atO hl) (by have:=aEf u1 u2 ht;omega)).mono ?_;rintro e w'⟨c,rfl,CY,h1,h2,h3⟩;rw[d1,d2] at h1;exact⟨c,rfl,CY,h1,ani hW h2,fun k hk=>(h3 k hk).imp id (fun e=>Ay hW.size e)⟩
