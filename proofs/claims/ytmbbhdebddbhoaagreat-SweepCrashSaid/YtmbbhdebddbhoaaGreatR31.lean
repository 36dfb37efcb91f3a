/- DepC DepE DepF DepD SweM SweT -/
import Derived.Test.YtmbbhdebddbhoaaGreatR30
set_option maxHeartbeats 8000000
set_option maxRecDepth 100000
set_option linter.all false
namespace Go.Proofs.YtmbbhdebddbhoaaGreat
open Tryz hiding t1 t2
namespace Dep
open Go.RowKit Go.Maps
open Wal Fil Man Prs Kp Cm Hex Sha Al Mem
theorem aqf(kb:Nat)(k:T)(p:T×T)(W:World)(hk:W.cell? ⟨kb,0,none⟩=some (.string (bs k))):
  Calls prog 163 #[.agg #[.string (bs p.1),.string (bs p.2)],.pointer (some ⟨kb,0,none⟩)] W fun e W'=>e=.returned (.bool (p.1 == k))∧Bw W W':=by
 have Kg:=BS hk;go_enter func163,ntmps163;go_wp2_with fail;go_ret;exact⟨by simp,Aw W _⟩
theorem aqe(kb:Nat)(k:T):VW (fun W=>W.cell? ⟨kb,0,none⟩=some (.string (bs k))) (.func (.func 163) #[] #[.pointer (some ⟨kb,0,none⟩)]) (fun p=>p.1 == k):=
 ⟨_,_,_,rfl,enters_of func163 (by kernel_rfl) rfl,fun W p h=>aqf kb k p W h⟩
theorem yw{w:World}{q:Option Addr}{cap:Nat}{l:M}(h:AO w q l)(hq:q=none→cap=0)(hl:l.length≤1000000)(k:T):
  Calls prog 82 #[.slice q l.length cap,.string (bs k)] w fun e w'=>∃ v,e=.returned v∧Bo w' w.heap.size v (l.filter fun p=>!(p.1 == k))∧Bw w w':=by
 have BP:=Aw w (.cells #[.string (bs k)] 9);have hn:=AJ w (.cells #[.string (bs k)] 9);have Ao:=Hi BP;have HN:=Hi hn;have HC:=Hi (ZC (h.below BP) hq (by omega));have hsz:=Aq w (.cells #[.string (bs k)] 9);clear h BP hn;go_enter func82,ntmps82;go_wp2_with fail;refine HC.mono ?_;rintro e w1⟨v,rfl,hr,hb⟩;obtain⟨q1,c1,rfl,-,-⟩:=Es hr;have hk1:=(hb.block _ (Ai HN)).trans HN.out
 have HD:=Hi (acm hr (aqe w.heap.size k) (fun W hW=>by
  have h1:=(hW.block _ (Ai hk1) (fun e=>by
   have:=DC hr e;rw[hsz] at this;omega)).trans hk1
  rw[BA _ _ _ _ _ _ h1];rfl) hl)
 have HR:=Hi hr;have HB:=Hi hb;clear hr hb hk1;go_wp2_with fail;refine HD.mono ?_;rintro e w2⟨v2,rfl,Cy,Ep,-⟩;obtain⟨q2,c2,rfl,-,-⟩:=Es Cy;have Ag:=Hi (Ca (Ao.trans (HB.mono Ao.size)) Ep (fun i e=>Ap Ao.size (DC HR e)) (Ao.trans (HB.mono Ao.size)).size);have BI:=Hi (E9 Cy Ao.size);clear Cy Ep;go_wp2_with fail;go_ret;exact⟨_,rfl,BI,Ag⟩
theorem afy{w:World}{a:Option Addr}{cap:Nat}{l:M}(h:AO w a l)(hs:Cr l)(hl:l.length≤1000000)(CB:rowLen (flat l)≤1000000000):
  Calls prog 83 #[.slice a l.length cap] w fun e w'=>e=.returned (.tuple #[.string (bs ((BG l).getD [])),.int .i64 (if(BG l).isSome=true then 0 else 5)])∧Bw w w':=by
 have FK:=Hi (aly (cap:=cap) h hs hl CB);by_cases BO:(BG l).isSome=true
 ·rw[Ab BO];obtain⟨he,hlen⟩:=WI.1 BO;have Tn:=Hi (nX BO);rw[Tn.out];rw[he] at FK;generalize (Dz l).1=s at*;have Sr:decide (65535 < (s.length:Int)+4)=false:=Pp (by omega);have JA:IntKind.i64.wrap ((s.length:Int)+4)=(s.length:Int)+4:=Ei _ (by omega);have Yi:=Hi (fun W=>dX s W (by omega));clear he BO hlen h hs CB Tn;go_enter func83,ntmps83;go_wp2_with fail;refine FK.mono ?_;rintro e w3⟨rfl,Ak⟩;have Am:=Hi Ak;clear Ak;go_wp2_with fail;refine(Yi _).mono ?_;rintro e w4⟨rfl,Ar⟩;have AZ:=Hi (Am.trans (Ar.mono Am.size));clear Ar;go_wp2_with fail;go_ret2;exact⟨rfl,AZ⟩
 ·rw[Aa BO];have hn:(BG l).getD []=[]:=by
   cases hc:BG l with
   |none=>rfl
   |some d=>rw[hc] at BO;simp at BO
  rw[hn];by_cases he:(Dz l).2=0
  ·have hlen:¬ (Dz l).1.length+4≤65535:=fun h=>BO (WI.2 ⟨he,h⟩)
   rw[he] at FK;have Od:=tH l he CB;generalize (Dz l).1=s at*;have Sr:65535 < (s.length:Int)+4:=(by omega);have JA:IntKind.i64.wrap ((s.length:Int)+4)=(s.length:Int)+4:=Ei _ (by omega);clear he BO h hs CB hn;go_enter func83,ntmps83;go_wp2_with fail;refine FK.mono ?_;rintro e w3⟨rfl,Ak⟩;have Am:=Hi Ak;clear Ak;go_wp2_with fail;go_ret2;exact⟨rfl,Am⟩
  ·have Bq:((Dz l).2 == 0)=false:=H9.2 he;generalize Dz l=V at*;clear BO h hs CB hn;go_enter func83,ntmps83;go_wp2_with fail;refine FK.mono ?_;rintro e w3⟨rfl,Ak⟩;have Am:=Hi Ak;clear Ak;go_wp2_with fail;go_ret2;exact⟨rfl,Am⟩
structure FR(w:World)(base m:Nat)(L:List (T×M))(g:T→Value):Prop where
 map:∃ kv:List (T×Value),kv.Perm (L.map fun x=>(x.1,Value.agg #[g x.1]))∧StrMap prog 9 w m kv
 nodup:(L.map (·.1)).Nodup
 row:∀ x∈L,Bo w base (g x.1) x.2
 low:base≤m
theorem aA9:(prog.info? 167).map (fun i=>(i.zero,i.size))=some (some (.agg #[.slice none 0 0]),1):=by kernel_rfl
theorem adp(w:World):(zeroValue 167).run prog w=.ok (.agg #[.slice none 0 0]) w:=(zero_of_info aA9).1 w
theorem ayt(W:World)(v:Value):(Instr.field 167 (.agg #[v]) 0).run prog W=.ok v W:=by
 simp[Instr.field,Gp underlying167,go_sem,asAgg,Result.andThen]
section
variable {w w':World}{base m:Nat}{L:List (T×M)}{g:T→Value}
theorem FR.below(h:FR w base m L g)(hb:Bw w w'):FR w' base m L g:=by
 obtain⟨⟨kv,h1,h2⟩,h3,h4,h6⟩:=h;exact⟨⟨kv,h1,h2.kept (hb.block m h2.lt)⟩,h3,fun x hx=>C9 (h4 x hx) hb,h6⟩
theorem FR.VH(h:FR w base m L g):((L.map fun x=>(x.1,Value.agg #[g x.1])).map (·.1)).Nodup:=by
 rw[List.map_map];exact h.nodup
theorem FR.keys{kv:List (T×Value)}(h:kv.Perm (L.map fun x=>(x.1,Value.agg #[g x.1]))):(kv.map (·.1)).Perm (L.map (·.1)):=by
 have:=h.map (·.1);rwa[List.map_map] at this
theorem FR.iE(h:FR w base m L g){x:T×M}(hx:x∈L)(hn:x.1.length≤maxLen):
  (Instr.lookup 164 (.map (some m)) (.string (bs x.1)) false).run prog w=.ok (.agg #[g x.1]) w:=by
 obtain⟨kv,h1,h2⟩:=h.map;rw[h2.lookup underlying9 underlying164 (adp w) x.1 hn,ZL (h1.map (·.1) |>.nodup_iff.2 h.VH) h1,(XK h.VH).2 (Bz.2 ⟨x,hx,rfl⟩)];rfl
end
theorem afN{w:World}{base m p y:Nat}{L:List (T×M)}{g:T→Value}{Q:Int→World→Prop}(hm:GM w p y)(h:FR w base m L g)(hs:∀ x∈L,Cr x.2∧x.2.length≤1000000∧rowLen (flat x.2)≤1000000000)(hn:∀ x∈L,x.1.length≤1000)(hl:L.length≤100000)
  (h5:¬ OH L=true→∀ w',Bw w w'→Q 5 w')
  (hc:OH L=true→∀ W q c,Bw w W→DW W q (K7 L)→Calls prog 32 #[.pointer (some ⟨y,0,none⟩),.slice q (K7 L).length c] W fun e w'=>∃ c,e=.returned (.int .i64 c)∧Q c w'):
  Calls prog 84 #[.pointer (some ⟨p,0,none⟩),.map (some m)] w fun e w'=>∃ c,e=.returned (.int .i64 c)∧Q c w':=by
 have H5:=Hi h5;have HC:=Hi hc;have HM:=Hi hm;clear h5 hc hm;obtain⟨i0,Ba,AQ,AU,AV⟩:=Du yK;have HK:=Hi (show Calls prog 164 #[.map (some m)] w fun e w'=>e=.returned (.func (.func 209) #[] #[.pointer (some ⟨w.heap.size,0,none⟩)])∧w'=w.alloc (.cells #[.map (some m)] 164) from ar0 (some m) w);obtain⟨kv,Jv,Xd⟩:=h.map;have Db:kv.length=L.length:=by rw[Jv.length_eq,Cf]
 have Yj:=Hi (ar2 Xd (by omega));have R3:(kv.map (·.1)).mergeSort (fun x y=>decide (x≤y))=CQ L:=mergeSort_of_perm (FR.keys Jv);rw[Db,R3] at Yj;have HH:=Hi h;have HS:=Hi hs;have HN:=Hi hn;have Ee:(CQ L).length=L.length:=sJ L
 have wL:=Hi (fun t (ht:t∈CQ L)=>show ∃ x∈L,x.1=t∧rowOf L t=x.2 from by
  obtain⟨x,hx,rfl⟩:=Bz.1 (kL.1 ht);exact⟨x,hx,rfl,kW h.nodup hx⟩)
 clear h hs hn Jv Xd Db R3;go_enter func84,ntmps84;go_wp2_with fail;refine HK.mono ?_;rintro e w1⟨rfl,FY⟩;subst FY;go_wp2_with fail;refine Yj.mono ?_;rintro e w2⟨v,rfl,Ah,A8⟩;have IP:Man.Bp w2 (w.heap.size+1) v (CQ L):=by
  unfold Man.Bp;rw[JE,Ee];exact Ah
 obtain⟨q,c,rfl⟩:=Bg IP;have BI:=Hi IP;have Ag:=Hi A8;clear Ah IP A8 HK Yj;have hnI:((CQ L).length:Int)=(L.length:Int):=by rw[Ee]
 go_wp2_with fail
 go_loopw [5,15] (fun s i wr=>xV w (.slice q (CQ L).length c) (CQ L) (fun t=>Lu t (rowOf L t)) (fun t=>Mh (rowOf L t)) s i wr) (fun _ i _=>(CQ L).length -(intOf i).toNat)
 case atStart=>exact⟨0,none,0,AB _,rfl,rfl,by rw[GZ,List.map_nil,yI];exact EI _ _ _ _,Ag,rfl,BI⟩
 case round=>
  obtain⟨k,cq,cc,hk,rfl,rfl,Ah,hb,AY,Xj⟩:=hrel;have UI:=Hi Xj;have CZ:=Hi Ah;have HB:=Hi hb;have Fy:=Hi AY;clear Ah AY Xj Ag BI;by_cases hlt:k < (CQ L).length
  ·obtain⟨x,hx,Zo,Hm⟩:=wL _ (Ci hlt);obtain⟨a,Cu,c0⟩:=(Ea (c:=c) (UI.out)).index c k hlt;simp only[Ee] at Cu;have Sz:k < L.length:=by omega
   have RG:=Hi (show(Mh x.2=true→((CQ L).take (k+1)).all (fun t=>Mh (rowOf L t))=true)∧((CQ L).take (k+1)).map (fun t=>Lu t (rowOf L t))=((CQ L).take k).map (fun t=>Lu t (rowOf L t))++[Lu x.1 x.2] from by
    rw[Cw hlt,CF,List.all_append,Fy.out];constructor
    ·intro e;simp[Hm,e]
    ·simp[Hm,Zo])
   have vg:=Hi (show Mh x.2=false→¬ OH L=true from fun e h=>by
    have:=Nz.1 h _ (Ci hlt);rw[Hm,e] at this;cases this)
   obtain⟨cl,BH⟩:∃ cl,((CQ L).take k).map (fun t=>Lu t (rowOf L t))=cl:=⟨_,rfl⟩;have jg:cl.length=k:=(by rw[←BH,Cf,AL];omega);have Ev:=Hi jg;rw[BH] at CZ RG ⊢;have KQ:=((HH.below HB).iE hx (by have:=HN x hx;unfold maxLen;omega));have Zh:=(HH.below HB).row x hx;obtain⟨q2,c2,Mm,CV,Gf⟩:=Es Zh;have Ah:=Zh;rw[Mm] at Ah KQ;have aiw:=fun W=>ayt W (.slice q2 x.2.length c2)
   obtain⟨Qi,Cz,Vx⟩:=HS x hx;rw[←Zo] at c0;clear BH hb Hm Zo Mm Zh;have atM:cl.length≤100000:=(by omega);clear jg;have RI:=Hi (AO.CG Ah);obtain⟨t,l⟩:=x;simp only at*;by_cases hz:l=[]
   ·have Xw:((l.length:Int) == 0)=true:=(by rw[hz];rfl);have J2:=Hi (show Lu t l=⟨t,[],true⟩ from Ab hz);have Y2:=Hi (RG.1 (by rw[hz];rfl));clear hz;go_wp2_with (at_builtin;refine wpList_append_own_at _ rfl _ _ 24 rfl w.heap.size 65 i0 _ 3 40 underlying24 Ba AQ AU AV rfl (by decide) _ cl.length _ rfl (CZ.alloc _) ⟨wr.heap.size,0,none⟩ 1 1 [.string (bs t),.string { data:=#[] },.bool true] rfl rfl (by intro j u hj;rw[add_plain,DF];exact(Dn▸hj)) (by simp[Value.oneCell']) (by unfold maxLen;omega) (by omega) (by have:=HB.size;simp;omega) ?_;intro v' w1 BB Az _ hat;obtain⟨g',cap',rfl⟩:=ownsRow_succ BB;have HO:=Hi BB;have HG:=Hi Az;clear BB Az hat);have CU:=Hi (sj ⟨t,[],true⟩ hlt HB CZ (Aw wr _) HG HO (by rw[←J2.out];exact RG.2) Y2 UI);go_roundw
    case rel=>exact CU.out
    case measure=>
     show(CQ L).length -((k:Int)+1).toNat < (CQ L).length -((k:Int)).toNat
     omega
   ·have Xw:((l.length:Int) == 0)=false:=H9.2 (fun e=>hz (Ld.1 (by omega)));have Rz:=Hi (afy (cap:=c2) RI Qi Cz Vx);have fJ:=Hi (show Mh l=(BG l).isSome from by unfold Mh;simp[hz]);have J2:=Hi (show Lu t l=⟨t,(BG l).getD [],false⟩ from Aa hz);by_cases BO:(BG l).isSome=true
    ·have Y2:=Hi (RG.1 (by rw[fJ.out];exact BO));rw[Ab BO] at Rz;generalize (BG l).getD []=s at*;clear BO;go_wp2_with fail;refine Rz.mono ?_;rintro e w4⟨rfl,Ar⟩;have AZ:=Hi Ar;have Wq:=Hi (C9 CZ AZ);have abj:=AZ.size;have rH:=HB.size;clear Ar;go_wp2_with (at_builtin;refine wpList_append_own_at _ rfl _ _ 24 rfl w.heap.size 65 i0 _ 3 40 underlying24 Ba AQ AU AV rfl (by decide) _ cl.length _ rfl (Wq.alloc _) ⟨w4.heap.size,0,none⟩ 1 1 [.string (bs t),.string (bs s),.bool false] rfl rfl (by intro j u hj;rw[add_plain,DF];exact(Dn▸hj)) (by simp[Value.oneCell']) (by unfold maxLen;omega) (by omega) (by simp;omega) ?_;intro v' w1 BB Az _ hat;obtain⟨g',cap',rfl⟩:=ownsRow_succ BB;have HO:=Hi BB;have HG:=Hi Az;clear BB Az hat);have CU:=Hi (sj ⟨t,s,false⟩ hlt HB CZ (AZ.trans ((Aw w4 _).mono AZ.size)) HG HO (by rw[←J2.out];exact RG.2) Y2 UI);go_roundw
     case rel=>exact CU.out
     case measure=>
      show(CQ L).length -((k:Int)+1).toNat < (CQ L).length -((k:Int)).toNat
      omega
    ·have Eb:=Hi (vg (by rw[fJ.out];simpa using BO));rw[Aa BO] at Rz;generalize (BG l).getD []=s at*;clear BO;go_wp2_with fail;refine Rz.mono ?_;rintro e w3⟨rfl,Ak⟩;have HQ:=Hi (H5 Eb w3 (HB.trans (Ak.mono HB.size)));clear Ak;go_wp2_with fail;go_ret;exact⟨5,rfl,HQ⟩
  ·obtain rfl:k=(CQ L).length:=(by omega);have IJ:OH L=true:=by
    have:=Fy.out;rw[Gn (Ac _)] at this;exact this
   have hE:=CZ.out;rw[Gn (Ac _)] at hE;have HE:=Hi (show wr.ownsRow w.heap.size 65 3 (.slice cq (K7 L).length cc) (K7 L).length (Mg (K7 L)) from hE);have BH:(((CQ L).take (CQ L).length).map fun t=>Lu t (rowOf L t)).length=(K7 L).length:=(by rw[Gn (Ac _)];rfl);rw[BH];have SB:=(HM.below HB).cell;have Fa:=Hi (HC IJ wr cq cc HB (DW.CG HE));clear hE hb BH;generalize (K7 L).length=dn at*;go_wp2_with fail;refine Fa.mono ?_;rintro e w9⟨c9,rfl,Vt⟩;go_wp2_with fail;go_ret;exact⟨c9,rfl,Vt⟩
section
variable {w w':World}{base m:Nat}{L:List (T×M)}{g:T→Value}
theorem FR.made(w:World)(base:Nat)(g:T→Value)(hb:base≤w.heap.size):FR (w.alloc (.map #[] 0)) base w.heap.size [] g:=
 ⟨⟨[],List.Perm.nil,StrMap.made w⟩,by simp,fun x hx=>by simp at hx,hb⟩
theorem FR.Cv(h:FR w base m L g){t:TypeId}:¬ AA w m t:=by
 obtain⟨kv,_,_,D,⟨es,clock,hm,_⟩,_⟩:=h.map;rintro⟨cs,fr,hb⟩;rw[hm] at hb;injection hb with hb
 cases hb
theorem FR.len(h:FR w base m L g)(ty:TypeId):(Builtin.len_ #[164] ty #[.map (some m)]).run prog w=.ok (.int .i64 (L.length:Int)) w:=by
 obtain⟨kv,h2,_,D,hown,_,hsz,_⟩:=h.map;rw[hown.len underlying164 ty,hsz,h2.length_eq,Cf]
theorem FR.sO(h:FR w base m L g){x:T×M}(hx:x∈L)(hn:x.1.length≤maxLen):
  (Instr.lookup 164 (.map (some m)) (.string (bs x.1)) true).run prog w=.ok (.tuple #[.agg #[g x.1],.bool true]) w:=by
 obtain⟨kv,h1,h2⟩:=h.map;rw[h2.Zu underlying9 underlying164 (adp w) x.1 hn,ZL (h1.map (·.1) |>.nodup_iff.2 h.VH) h1,(XK h.VH).2 (Bz.2 ⟨x,hx,rfl⟩)];rfl
theorem FR.sP(h:FR w base m L g){t:T}(hx:t∉L.map (·.1))(hn:t.length≤maxLen):
  (Instr.lookup 164 (.map (some m)) (.string (bs t)) true).run prog w=.ok (.tuple #[.agg #[.slice none 0 0],.bool false]) w:=by
 obtain⟨kv,h1,h2⟩:=h.map;have:Dh kv t=none:=by
  cases hs:Dh kv t with
  |none=>rfl
  |some v=>exact absurd ((FR.keys h1).mem_iff.1 (Bz.2 ⟨_,lh hs,rfl⟩)) hx
 rw[h2.Zu underlying9 underlying164 (adp w) t hn,this];rfl
def putRow(L:List (T×M))(name:T)(l:M):List (T×M):=(name,l) :: L.filter fun x=>!(x.1 == name)
theorem FR.put(h:FR w base m L g){name:T}{l:M}{v:Value}(hl:name.length≤maxLen)(hv:Bo w base v l)(Im:L.length < maxLen):
  ∃ w',(Instr.mapUpdate 164 (.map (some m)) (.string (bs name)) (.agg #[v])).run prog w=.ok () w'∧FR w' base m (Dep.putRow L name l) (fun t=>if t=name then v else g t)∧w.grownBy w' (some m):=by
 obtain⟨kv,h1,h2⟩:=h.map;have Ch:kv.length < maxLen:=by
  have e:kv.length=L.length:=by rw[h1.length_eq,Cf]
  rw[e];exact Im
 obtain⟨w',hrun,h3,h4⟩:=h2.update underlying9 underlying164 name hl (.agg #[v]) Ch;have hu:A7 (fun k=>k=m) w w':=A7.of_grownBy (F:=fun k=>k=m) h4 (fun k e=>(G7 e).symm);have Np:∀ {u:Value} {r:M},Bo w base u r→Bo w' base u r:=fun {u r} hr=>Bh hr hu (fun k hk e=>h.Cv (by rw[←e];exact BQ hr hk))
 refine⟨w',hrun,⟨⟨_,?_,h3⟩,?_,fun x hx=>?_,h.low⟩,h4⟩
 ·unfold Qv Dep.putRow;rw[BL];simp only[Ab];refine List.Perm.cons _ ((acV h1 name).trans (List.Perm.of_eq ?_));unfold Ir;rw[List.filter_map];refine QB fun x hx=>?_
  have:x.1≠name:=by
   have:=(Et.1 hx).2;simpa using this
  rw[Aa this]
 ·unfold Dep.putRow;rw[BL];refine JF.2 ⟨fun hm=>?_,List.Sublist.nodup (List.Sublist.map (fun x:T×M=>x.1) (List.filter_sublist (p:=fun x:T×M=>!(x.1 == name)) (l:=L))) h.nodup⟩;obtain⟨x,hx,e⟩:=Bz.1 hm;have:=(Et.1 hx).2;simp[e] at this
 ·unfold Dep.putRow at hx;rcases Bt.1 hx with rfl|hx
  ·simp only[Ab];exact Np hv
  ·obtain⟨EE,E8⟩:=Et.1 hx;have:x.1≠name:=(by simpa using E8);rw[Aa this];exact Np (h.row x EE)
end
theorem ag0{K:Kind}{A:M}{kt:List T}{L:List (T×M)}(h:IA K A kt L){k:T}{l:M}(hl:l=GG K A (kt++[k]) (K.nm k)):IA K A (kt++[k]) (Dep.putRow L (K.nm k) l):=by
 unfold Dep.putRow;refine⟨JF.2 ⟨fun hm=>?_,List.Sublist.nodup (List.Sublist.map (fun x:T×M=>x.1) (List.filter_sublist (p:=fun x:T×M=>!(x.1 == K.nm k)) (l:=L))) h.nodup⟩,fun t=>?_,fun x hx=>?_⟩
 ·obtain⟨x,hx,e⟩:=Bz.1 hm;have:=(Et.1 hx).2;simp[e] at this
 ·rw[BL,Bt,CF,Fp,List.map_singleton,EX];constructor
  ·rintro(e|e)
   ·exact .inr e
   ·obtain⟨x,hx,e2⟩:=Bz.1 e;exact .inl ((h.names t).1 (by rw[←e2];exact Gm (Et.1 hx).1))
  ·rintro(e|e)
   ·by_cases ht:t=K.nm k
    ·exact .inl ht
    ·obtain⟨x,hx,e2⟩:=Bz.1 ((h.names t).2 e);refine .inr (Bz.2 ⟨x,Et.2 ⟨hx,?_⟩,e2⟩);have e2:x.1=t:=e2;simp[e2,ht]
   ·exact .inl e
 ·rcases Bt.1 hx with rfl|hx
  ·exact hl
  ·obtain⟨h1,h2⟩:=Et.1 hx;have h2:x.1≠K.nm k:=(by simpa using h2);rw[abU _ (fun e=>h2 e.symm)];exact h.rows x h1
theorem arh{K:Kind}{A:M}{kt:List T}{L:List (T×M)}(h:IA K A kt L){k:T}(hk:K.nm k∉L.map (·.1)):((fileOf K A (K.nm k)).getD []).filter (fun p=>!(p.1 == k))=GG K A (kt++[k]) (K.nm k):=
 (h.new hk).rows (K.nm k,_) (by simp)
def uS(w:World)(m:Nat)(A:M)(ks:List T)(i:Value)(wr:World):Prop:=
 ∃ (k:Nat) (L:List (T×M)) (g:T→Value),k≤ks.length∧i=.int .i64 (k:Int)∧FR wr w.heap.size m L g∧IA A9 A (ks.take k) L∧Bw w wr
theorem aqY{w:World}{p y:Nat}{A:M}{q:Option Addr}{cap:Nat}{ks:List T}{Q:Int→World→Prop}(hm:GM w p y)(hg:Man.ND w y A)(O4:Fil.Good A)(hk:Cg w q ks)(hl:ks.length≤100000)(ht:There A9 A ks)
  (hf:∀ W,Bw w W→Calls prog 140 #[.pointer (some ⟨y,0,none⟩)] W fun e w'=>e=.returned (.int .i64 0)∧W=w')
  (h0:ks=[]→∀ w',Bw w w'→Q 0 w')
  (hc:∀ W q c,Bw w W→DW W q (EM A9 A ks)→Calls prog 32 #[.pointer (some ⟨y,0,none⟩),.slice q (EM A9 A ks).length c] W fun e w'=>∃ c,e=.returned (.int .i64 c)∧Q c w'):
  Calls prog 37 #[.pointer (some ⟨p,0,none⟩),.slice q ks.length cap] w fun e w'=>∃ c,e=.returned (.int .i64 c)∧Q c w':=by
 have HF:=Hi hf;have H0:=Hi h0;have HC:=Hi hc;have HM:=Hi hm;have HG:=Hi hg;have HK:=Hi hk;have HT:=Hi ht;have af:=Hi O4;have dh:=hm.lt;clear hf h0 hc hm hg hk ht O4;have KR:=@run_makeMap prog;go_enter func37,ntmps37;go_wp2_with fail;refine(afM (P:=fun W w'=>W=w') HM (HF _ (Af _ _))).mono ?_;rintro e w1⟨rfl,FY⟩;subst FY;go_wp2_with fail;have j6:=Aw w (.map #[] 0);have JO:=Hi (show uS w w.heap.size A ks (.int .i64 0) (w.alloc (.map #[] 0)) from⟨0,[],fun _=>.slice none 0 0,AB _,rfl,FR.made w w.heap.size _ (Ac _),by rw[GZ];exact IA.nil,j6⟩);generalize w.alloc (.map #[] 0)=V at*;clear j6
 go_loopw [23] (fun i wr=>uS w w.heap.size A ks i wr) (fun i _=>ks.length -(intOf i).toNat)
 case atStart=>exact JO.out
 case round=>
  obtain⟨k,L,g,hk,rfl,he,I7,hb⟩:=hrel;have HE:=Hi he;have MQ:=Hi I7;have HB:=Hi hb;clear he I7 hb JO;by_cases hlt:k < ks.length
  ·obtain⟨a,Cu,c0⟩:=(HK.below HB).index cap k hlt;have KD:=Hi (Ci hlt);have BN:=Hi (Cw hlt);generalize ks[k]=key at*;have DY:=ann HT KD.out;have IC:=Hi (fun(W:World)=>og key W (by omega));have Ee:(A9.nm key).length=17:=ig key;go_wp2_with fail;refine(IC _).mono ?_;rintro e w1⟨rfl,Ad⟩;have FB:=Hi (HE.below Ad);have HB1:=Hi (HB.trans (Ad.mono HB.size));clear Ad;obtain⟨t1,t2,t3⟩:=anm HT KD.out;have Si:L.length≤100000:=by
    have:=aZ MQ.out;rw[AL] at this;omega
   have aj0:key∈Dx ((fileOf A9 A (A9.nm key)).getD []):=by
    have h1:=HT key KD.out;rw[lS] at h1;obtain⟨v,hv⟩:=MN.1 h1;unfold Dx;rw[Eg];exact Bz.2 ⟨_,get_some hv,rfl⟩
   have IB:=Hi aj0;have GK:=Hi t1;have F3:=Hi t2;clear t1 t2 t3 aj0 Cu c0 IC HB HE;by_cases Be:A9.nm key∈L.map (·.1)
   case' pos=>
    obtain⟨⟨t,l1⟩,hx,FH⟩:=Bz.1 Be;have FH:t=A9.nm key:=FH;subst FH;have KQ:=FB.sO hx (by rw[Ee];decide);have Ah:=FB.row _ hx;obtain⟨q1,c1,Mm,Ef,-⟩:=Es Ah;rw[Mm] at KQ Ah;have bY:l1=GG A9 A (ks.take k) (A9.nm key):=MQ.rows _ hx
    have Pv:=Hi (show IA A9 A (ks.take (k+1)) (Dep.putRow L (A9.nm key) (l1.filter fun p=>!(p.1 == key))) from by
     rw[BN.out];exact ag0 MQ (by rw[bY,rV]))
    have F7:l1.length≤1000000:=(by rw[bY];exact(abV af _ _).2.1);have BP:=Aw w1 (.cells #[.slice q1 l1.length c1] 167);have F4:=Hi (AJ w1 (.cells #[.slice q1 l1.length c1] 167));have QF:=Hi (FB.below BP);have Ao:=Hi (HB1.trans (BP.mono HB1.size));have VZ:=Hi (yw (AO.CG (C9 Ah BP)) Ef F7 key);have Vj:w.heap.size≤w1.heap.size:=HB1.size;clear hx Be Mm Ah BP MQ bY;generalize A9.nm key=name at*;go_wp2_with fail;obtain⟨wA,SQ⟩:=ex (w1.alloc (.cells #[.slice q1 l1.length c1] 167));rw[SQ] at F4 QF Ao VZ ⊢;obtain⟨b,NY⟩:=ex (w1.heap.size);rw[NY] at F4 Vj ⊢;clear SQ
   case' neg=>
    have KQ:=FB.sP Be (by rw[Ee];decide);have BP:=Aw w1 (.cells #[.slice none 0 0] 167);have xD:=Hi (AJ w1 (.cells #[.slice none 0 0] 167));have XW:=Hi (HB1.trans (BP.mono HB1.size));have vL:=Hi (FB.below BP);have Gr:=Hi (oh (HM.below XW) (TQ HG XW) (A9.nm key) (by rw[Ee];decide));have Sw:=(V7 (K:=A9) (A:=A) (name:=A9.nm key)).1;unfold OB at Gr;rw[GK.out,F3.out] at Gr
    have Pv:=Hi (show IA A9 A (ks.take (k+1)) (Dep.putRow L (A9.nm key) (((fileOf A9 A (A9.nm key)).getD []).filter fun p=>!(p.1 == key))) from by
     rw[BN.out];exact ag0 MQ (arh MQ Be))
    have Vj:w.heap.size≤w1.heap.size:=HB1.size;clear Be MQ BP;generalize (fileOf A9 A (A9.nm key)).getD []=l1 at*;have F7:l1.length≤1000000:=Ap Sw (by decide);generalize A9.nm key=name at*;go_wp2_with fail;refine Gr.mono ?_;rintro e w2⟨q1,c1,rfl,Ah,Ef,A8⟩;have Ag:=Hi A8;have MX:=Hi (ag4 (AO.CG Ah) Ef F7);have UL:=Hi Ah;clear A8 Ah;go_wp2_with fail;refine MX.mono ?_;rintro e w3⟨kv,rfl,Ch,Ak⟩;obtain⟨kq,kc,rfl⟩:=Bg Ch;have aj1:=abN l1;have Ry:=Hi (ad6 kc (Ea Ch) key (by omega));rw[Kr IB.out] at Ry;have Am:=Hi (Ag.trans (Ak.mono Ag.size));have aF:=Hi (C9 UL Ak);clear Ch Ak;go_wp2_with fail;refine Ry.mono ?_;rintro e w4⟨rfl,Ar⟩;have bG:=Am.trans (Ar.mono Am.size);have rJ:=(bG.block _ (Ai xD)).trans xD.out;have abe:=C9 aF Ar;have yU:w4.cell? ⟨w1.heap.size,0,none⟩=some (.slice none 0 0):=cr rJ;have hf4:=CJ w4 w1.heap.size 0 _ _ rJ;have FX:=(A7.refl (fun j=>j=w1.heap.size) w4).setCell (p:=⟨w1.heap.size,0,none⟩) (.inl rfl) (.slice q1 l1.length c1);have F4:=Hi (BU w4 w1.heap.size 0 _ _ (.slice q1 l1.length c1) rJ);have hsz0:=Aq w1 (.cells #[.slice none 0 0] 167);have Dr:Bw w1 (w4.setCell ⟨w1.heap.size,0,none⟩ (.slice q1 l1.length c1)):=by
     have h1:Bw w1 w4:=(Aw w1 _).trans (bG.mono (Aw w1 _).size);exact h1.setCell (p:=⟨w1.heap.size,0,none⟩) (Ac _) _
    have QF:=Hi (FB.below Dr);have Ao:=Hi (HB1.trans (Dr.mono HB1.size))
    have ajM:=Bh abe FX (fun j hj e=>by
     have:=DC abe hj;rw[hsz0] at this;omega)
    have VZ:=Hi (yw (AO.CG ajM) Ef F7 key);clear Ar bG abe FX Dr ajM hsz0 Gr xD XW vL Ag Am UL aF MX Ry rJ;go_wp2_with fail;obtain⟨wA,SQ⟩:=ex (w4.setCell ⟨w1.heap.size,0,none⟩ (.slice q1 l1.length c1));rw[SQ] at F4 QF Ao VZ ⊢;obtain⟨b,NY⟩:=ex (w1.heap.size);rw[NY] at F4 Vj ⊢;clear SQ yU hf4
   all_goals
    refine VZ.mono ?_;rintro e w2⟨v2,rfl,Cy,A8⟩;obtain⟨q2,c2,rfl,-,-⟩:=Es Cy;have VB:=(A8.block _ (Ai F4)).trans F4.out;have cu2:w2.cell? ⟨b,0,none⟩=some (.slice q1 l1.length c1):=cr VB;have hf2:=CJ w2 b 0 _ _ VB;have ak5:=BU w2 b 0 _ _ (.slice q2 (l1.filter fun p=>!(p.1 == key)).length c2) VB;have cu3:(w2.setCell ⟨b,0,none⟩ (.slice q2 (l1.filter fun p=>!(p.1 == key)).length c2)).cell? ⟨b,0,none⟩=some (.slice q2 (l1.filter fun p=>!(p.1 == key)).length c2):=cr ak5;have CP:=(A7.refl (fun j=>j=b) w2).setCell (p:=⟨b,0,none⟩) (.inl rfl) (.slice q2 (l1.filter fun p=>!(p.1 == key)).length c2);have KT:∀ k,k=b→¬ AA w2 k 75:=fun k e hb=>by
     obtain⟨cs,fr,hb⟩:=hb;rw[e,VB] at hb;injection hb with hb
     injection hb with _ hb
     exact absurd hb (by decide)
    have aai:=Ao.trans (A8.mono Ao.size);have aad:=QF.below A8;have ahD:FR (w2.setCell ⟨b,0,none⟩ (.slice q2 (l1.filter fun p=>!(p.1 == key)).length c2)) w.heap.size w.heap.size L g:=by
     have hNB:¬ AA w2 w.heap.size 167:=aad.Cv;obtain⟨⟨kv,h1,h2⟩,h3,h4,h6⟩:=aad;exact⟨⟨kv,h1,h2.upd CP (fun e=>hNB (by rw[e];exact⟨_,_,VB⟩))⟩,h3,fun x hx=>Bh (h4 x hx) CP (fun j hj e=>KT j e (BQ (h4 x hx) hj)),h6⟩
    have Qh:=Bh (E9 Cy Ao.size) CP (fun j hj e=>KT j e (BQ Cy hj));have Ak:=Ca aai CP (fun i e=>by rw[e];exact Vj) aai.size;obtain⟨w9,aCk,hU9,hg9⟩:=ahD.put (name:=name) (by rw[Ee];decide) Qh (by unfold maxLen;omega);have Ff:=Ak.grown hg9 Ak.size (fun k e=>Nat.le_of_eq (G7 e));have CU:=Hi (show uS w w.heap.size A ks (.int .i64 ((k:Int)+1)) w9 from⟨k+1,_,_,by omega,by go_num,hU9,Pv,Ff⟩);generalize (l1.filter fun p=>!(p.1 == key)).length=n2 at*;clear Cy A8 VB ak5 CP KT aai aad ahD Qh Ak hU9 hg9 Ff;go_wp2_with fail;go_roundw
    case rel=>exact CU.out
    case measure=>
     show ks.length -((k:Int)+1).toNat < ks.length -((k:Int)).toNat
     omega
  ·obtain rfl:k=ks.length:=(by omega);have I7:=MQ.out;rw[CY] at I7;by_cases hz:ks=[]
   ·subst hz;have hL:L=[]:=by
     have:=aZ I7;exact Ld.1 (by simpa using this)
    subst hL;have Z0:=HE.len 3;have HQ:=Hi (H0 rfl wr HB);clear I7;go_wp2_with fail;go_ret;exact⟨0,rfl,HQ⟩
   ·have hL:L.length≠0:=fun e=>by
     have hL:=Ld.1 e;cases DY:ks with
     |nil=>exact hz DY
     |cons x ks'=>
      have:=(I7.names (A9.nm x)).2 (Gm (by rw[DY];simp));rw[hL] at this;simp at this
    have Si:L.length≤100000:=Ap (aZ I7) hl;obtain⟨e1,e2⟩:=I7.ib af HT.out
    have Rw:=Hi (afN (Q:=Q) (HM.below HB) HE (fun x hx=>by rw[I7.rows x hx];exact abV af _ _) (fun x hx=>by
     obtain⟨z,_,hz⟩:=Bz.1 ((I7.names x.1).1 (Gm hx));rw[←hz,ig];decide) Si (fun h=>absurd e2 h) (fun _ W q c hW Vl=>by
     rw[e1] at Vl ⊢;exact HC W q c (HB.trans (hW.mono HB.size)) Vl))
    have Z0:=HE.len 3;have O7:((L.length:Int) == 0)=false:=H9.2 (by omega);clear I7 e1 e2;go_wp2_with fail;refine Rw.mono ?_;rintro e w9⟨cc,rfl,Vt⟩;go_wp2_with fail;go_ret;exact⟨cc,rfl,Vt⟩
end Dep
namespace IE
open Go.RowKit Go.Maps
open Wal Fil Man Prs Kp Cm Hex Sha Al Mem Dep
def I4(w:World)(m:Nat)(c:T→Nat)(n:Nat):Prop:=
 ∃ kv:List (T×Value),StrMap prog 9 w m kv∧kv.length≤n∧∀ t,(Dh kv t).getD (.agg #[.int .i64 0])=.agg #[.int .i64 (c t:Int)]
theorem awg:(prog.info? 191).map (fun i=>(i.zero,i.size))=some (some (.agg #[.int .i64 0]),1):=by kernel_rfl
theorem awi(w:World):(zeroValue 191).run prog w=.ok (.agg #[.int .i64 0]) w:=(zero_of_info awg).1 w
theorem amt(W:World)(v:Value):(Instr.field 191 (.agg #[v]) 0).run prog W=.ok v W:=by
 simp[Instr.field,Gp underlying191,go_sem,asAgg,Result.andThen]
section
variable {w w':World}{m n:Nat}{c:T→Nat}
theorem I4.made(w:World):I4 (w.alloc (.map #[] 0)) w.heap.size (fun _=>0) 0:=⟨[],StrMap.made w,Ac _,fun t=>rfl⟩
theorem I4.below(h:I4 w m c n)(hb:Bw w w'):I4 w' m c n:=by
 obtain⟨kv,h1,h2,h3⟩:=h;exact⟨kv,h1.kept (hb.block m h1.lt),h2,h3⟩
theorem I4.lt(h:I4 w m c n):m < w.heap.size:=by
 obtain⟨kv,h1,h2,h3⟩:=h;exact h1.lt
theorem I4.get(h:I4 w m c n)(t:T)(ht:t.length≤maxLen):(Instr.lookup 104 (.map (some m)) (.string (bs t)) false).run prog w=.ok (.agg #[.int .i64 (c t:Int)]) w:=by
 obtain⟨kv,h1,h2,h3⟩:=h;rw[h1.lookup underlying9 underlying104 (awi w) t ht,h3]
theorem I4.put(h:I4 w m c n)(t:T)(ht:t.length≤maxLen)(hn:n < maxLen):∃ w',(Instr.mapUpdate 104 (.map (some m)) (.string (bs t)) (.agg #[.int .i64 ((c t:Int)+1)])).run prog w=.ok () w'∧I4 w' m (fun s=>if s=t then c s+1 else c s) (n+1)∧w.grownBy w' (some m):=by
 obtain⟨kv,h1,h2,h3⟩:=h;obtain⟨w',hrun,h4,h5⟩:=h1.update underlying9 underlying104 t ht (.agg #[.int .i64 ((c t:Int)+1)]) (by omega);refine⟨w',hrun,⟨_,h4,?_,fun s=>?_⟩,h5⟩
 ·unfold Qv;rw[Br];have:(Ir t kv).length≤kv.length:=NB _ _;omega
 ·by_cases e:s=t
  ·subst e;rw[amN]
   show Value.agg #[.int .i64 ((c s:Int)+1)]=Value.agg #[.int .i64 ((if s=s then c s+1 else c s:Nat):Int)]
   rw[Ab rfl];rfl
  ·rw[amM e,h3 s]
   show _=Value.agg #[.int .i64 ((if s=t then c s+1 else c s:Nat):Int)]
   rw[Aa e]
end
theorem asn{w:World}{m n:Nat}{c:T→Nat}(h:I4 w m c n)(t:T)(ht:t.length≤1000000):
  Calls prog 47 #[.map (some m),.string (bs t)] w fun e w'=>e=.returned (.bool (decide (c t=0)))∧w=w':=by
 have KQ:=h.get t (by unfold maxLen;omega);have aiw:=fun W=>amt W (.int .i64 (c t:Int))
 clear h;generalize c t=k at*;go_enter func47,ntmps47;go_wp2_with fail;go_ret;refine⟨?_,rfl⟩;by_cases hk:k=0
 ·subst hk;rfl
 ·have:((k:Int) == 0)=false:=H9.2 (by omega);simp[this,hk]
theorem amA(p d:Nat)(w:World):Calls prog 43 #[.pointer (some ⟨p,0,none⟩),.pointer (some ⟨d,0,none⟩)] w fun e w'=>e=.returned (.int .i64 0)∧w=w':=by
 go_enter func43,ntmps43;go_wp2_with fail;go_ret;exact⟨rfl,rfl⟩
def af1(w:World)(m n:Nat)(c:T→Nat)(ks:List T)(i:Value)(wr:World):Prop:=
 ∃ k:Nat,k≤ks.length∧i=.int .i64 (k:Int)∧I4 wr m (fun t=>c t+(ks.take k).count t) (n+k)∧A7 (fun j=>j=m) w wr
theorem akV{w:World}{m n:Nat}{c:T→Nat}{q:Option Addr}{cap:Nat}{ks:List T}(h:I4 w m c n)(hk:Cg w q ks)(Xd:∀ p,q=some p→ks≠[]→p.block≠m)(DY:∀ t∈ks,t.length≤1000000)(hl:n+ks.length≤100000000)(hc:∀ t,c t≤100000000):
  Calls prog 44 #[.map (some m),.slice q ks.length cap] w fun e w'=>(∃ v,e=.returned v)∧I4 w' m (fun t=>c t+ks.count t) (n+ks.length)∧A7 (fun j=>j=m) w w':=by
 have HH:=Hi h;have HK:=Hi hk;have HKM:=Hi Xd;have Jm:=Hi DY;have HC:=Hi hc;clear h hk Xd DY hc;go_enter func44,ntmps44;go_wp2_with fail
 go_loopw [8] (fun i wr=>af1 w m n c ks i wr) (fun i _=>ks.length -(intOf i).toNat)
 case atStart=>exact⟨0,AB _,rfl,by simpa using HH.out,A7.refl _ _⟩
 case round=>
  obtain⟨k,Db,rfl,hm,hu⟩:=hrel;have HU:=Hi hu;have HM:=Hi hm;by_cases hlt:k < ks.length
  ·obtain⟨a,Cu,c0⟩:=(HK.upd hu (fun p hp hne=>HKM p hp hne)).index cap k hlt;have Vo:=Jm _ (Ci hlt);have BN:=Hi (Cw hlt);generalize ks[k]=key at*;have KQ:=hm.get key (by unfold maxLen;omega);obtain⟨w3,auU,U7,X9⟩:=hm.put key (by unfold maxLen;omega) (by unfold maxLen;omega);have qB:(ks.take k).count key≤ks.length:=Ap List.count_le_length (by rw[AL];omega);have Jt:=HC key;obtain⟨x,hx⟩:=ex (c key+(ks.take k).count key);have aiw:=fun W=>amt W (.int .i64 (x:Int))
   have Zn:IntKind.i64.wrap ((x:Int)+1)=(x:Int)+1:=Ei _ (by omega);simp only[hx] at KQ auU
   have CU:=Hi (show af1 w m n c ks (.int .i64 ((k:Int)+1)) w3 from⟨k+1,by omega,by go_num,by
    have e:(fun t=>c t+(ks.take (k+1)).count t)=(fun s=>if s=key then(c s+(ks.take k).count s)+1 else c s+(ks.take k).count s):=by
     funext t
     rw[BN.out,List.count_append];by_cases e:t=key
     ·subst e;rw[Ab rfl];simp;omega
     ·rw[Aa e];have:[key].count t=0:=by
       rw[List.count_eq_zero];simpa using e
      omega
    rw[e];exact U7,HU.trans (A7.of_grownBy (F:=fun j=>j=m) X9 (fun j e=>(G7 e).symm)) (fun _ f=>.inl f)⟩)
   clear hm hu U7 X9 qB Jt;go_wp2_with fail;go_roundw
   case rel=>exact CU.out
   case measure=>
    show ks.length -((k:Int)+1).toNat < ks.length -((k:Int)).toNat
    omega
  ·obtain rfl:k=ks.length:=(by omega);have hmf:=HM.out;rw[CY] at hmf;have HMF:=Hi hmf;clear hm hu hmf;go_wp2_with fail
   go_end0
   exact⟨⟨_,rfl⟩,HMF,HU⟩
def adH(K:World→Prop)(v:Value)(f:T→Bool):Prop:=
 ∃ F recv Lt,v=.func (.func F) recv Lt∧(∀ args w,(callFunc F args).run prog w=.ok (.enter F args) w)∧
  ∀ W p,p.length≤1000000→K W→Calls prog F (recv++ #[.string (bs p)]++Lt) W fun e W'=>e=.returned (.bool (f p))∧W=W'
def yg(w:World)(f:T→Bool)(ks:List T)(s i:Value)(wr:World):Prop:=
 ∃ (k:Nat) (o:List T) (q:Option Addr) (c:Nat),k≤ks.length∧i=.int .i64 (k:Int)∧s=.slice q o.length c∧Man.Bp wr w.heap.size (.slice q o.length c) o∧o=(ks.take k).filter f∧Bw w wr
theorem anp{w:World}{K:World→Prop}{v:Value}{f:T→Bool}{q:Option Addr}{cap:Nat}{ks:List T}(hk:Cg w q ks)(hf:adH K v f)(hK:∀ W,Bw w W→K W)(DY:∀ t∈ks,t.length≤1000000)(hl:ks.length≤1000000):
  Calls prog 46 #[.slice q ks.length cap,v] w fun e w'=>∃ u,e=.returned u∧Man.Bp w' w.heap.size u (ks.filter f)∧Bw w w':=by
 obtain⟨F,recv,Lt,rfl,KJ,LB⟩:=hf;obtain⟨i0,Ba,AQ,AU,AV⟩:=Du Ta;have HC:=Hi LB;have HK:=Hi hK;have HT:=Hi hk;have Jm:=Hi DY;clear LB hK hk DY;go_enter func46,ntmps46;go_wp2_with fail
 go_loopw [4,9] (fun s i wr=>yg w f ks s i wr) (fun _ i _=>ks.length -(intOf i).toNat)
 case atStart=>exact⟨0,[],none,0,AB _,rfl,rfl,kV _ _,by simp,Af _ _⟩
 case round=>
  obtain⟨k,o,qo,co,Db,rfl,rfl,Ah,ho,hb⟩:=hrel;have HB:=Hi hb;have HR:=Hi Ah;have HO:=Hi ho;have P7:o.length≤1000000:=by
   rw[ho];have:=NB f (ks.take k);rw[AL] at this;omega
  clear Ah ho;by_cases hlt:k < ks.length
  ·obtain⟨a,Cu,c0⟩:=(HT.below hb).index cap k hlt;have hkx:=Jm _ (Ci hlt);have BN:=Hi (Cw hlt);generalize ks[k]=x at*;have Ev:=Hi (HC wr x hkx (HK wr hb));have hbs:=hb.size;clear hb;cases bP:f x with
   |false=>
    rw[bP] at Ev;have CU:=Hi (show yg w f ks (.slice qo o.length co) (.int .i64 ((k:Int)+1)) wr from⟨k+1,o,qo,co,by omega,by go_num,rfl,HR,by rw[BN.out,Ro,←HO.out];simp[bP],HB⟩);clear bP;go_wp2_with fail;refine Ev.mono ?_;rintro e w1⟨rfl,FY⟩;subst FY;go_wp2_with fail;go_roundw
    case rel=>exact CU.out
    case measure=>
     show ks.length -((k:Int)+1).toNat < ks.length -((k:Int)).toNat
     omega
   |true=>
    rw[bP] at Ev;have HOX:=Hi (show o++[x]=(ks.take (k+1)).filter f from by rw[BN.out,Ro,←HO.out];simp[bP]);clear bP;go_wp2_with fail;refine Ev.mono ?_;rintro e w1⟨rfl,FY⟩;subst FY;go_wp2_with (at_builtin;refine wpList_append_own_at _ rfl _ _ 27 rfl w.heap.size 9 i0 _ 1 16 underlying27 Ba AQ AU AV rfl (by decide) _ o.length _ rfl (HR.alloc _) ⟨wr.heap.size,0,none⟩ 1 1 [.string (bs x)] rfl rfl (by intro j u hj;rw[add_plain,DF];exact(Dn▸hj)) (by simp[Value.oneCell']) (by unfold maxLen;omega) (by omega) (by simp;omega) ?_;intro v' w4 BB Az _ hat;obtain⟨g',cap',rfl⟩:=ownsRow_succ BB;have gH:=Hi BB;have HG:=Hi Az;clear BB Az hat)
    have CU:=Hi (show yg w f ks (.slice (some ⟨g',0,none⟩) (o.length+1) cap') (.int .i64 ((k:Int)+1)) w4 from⟨k+1,o++[x],some ⟨g',0,none⟩,cap',by omega,by go_num,by rw[Au];rfl,by
     unfold Man.Bp;rw[Au,show strCells (o++[x])=strCells o++[.string (bs x)] by unfold strCells;rw[CF];rfl];exact gH.out,HOX,(HB.alloc HB.size _).grown HG (by rw[Aq];have:=HB.size;omega) (fun j hj=>DC HR hj)⟩)
    go_roundw
    case rel=>exact CU.out
    case measure=>
     show ks.length -((k:Int)+1).toNat < ks.length -((k:Int)).toNat
     omega
  ·obtain rfl:k=ks.length:=(by omega);have hof:=HO.out;rw[CY] at hof;subst hof;clear hb;go_wp2_with fail;go_ret;exact⟨_,rfl,HR,HB⟩
end IE
end Go.Proofs.YtmbbhdebddbhoaaGreat
