/- DepC DepE DepF DepD SweM SweT -/
import Derived.Test.YtmbbhdebddbhoaaGreatQ31
set_option maxHeartbeats 8000000
set_option maxRecDepth 100000
set_option linter.all false
namespace Go.Proofs.YtmbbhdebddbhoaaGreat
open Tryz hiding t1 t2
namespace Dep
open Go.RowKit Go.Maps
open Wal Fil Man Prs Kp BH Hex Sha Al Mem
theorem amv(kb:Nat)(k:T)(p:T×T)(W:World)(hk:W.cell? ⟨kb,0,none⟩=some (.string (bs k))):
  Calls prog 163 #[.agg #[.string (bs p.1),.string (bs p.2)],.pointer (some ⟨kb,0,none⟩)] W fun e W'=>e=.returned (.bool (p.1 == k))∧Bw W W':=by
 have hkb:=Bz hk;go_enter func163,ntmps163;go_wp2_with fail;go_ret;exact⟨by simp,Am W _⟩
theorem amw(kb:Nat)(k:T):Ro (fun W=>W.cell? ⟨kb,0,none⟩=some (.string (bs k))) (.func (.func 163) #[] #[.pointer (some ⟨kb,0,none⟩)]) (fun p=>p.1 == k):=
 ⟨_,_,_,rfl,enters_of func163 (by kernel_rfl) rfl,fun W p h=>amv kb k p W h⟩
theorem o8{w:World}{q:Option Addr}{cap:Nat}{l:M}(h:Av w q l)(hq:q=none→cap=0)(hl:l.length≤1000000)(k:T):
  Calls prog 82 #[.slice q l.length cap,.string (bs k)] w fun e w'=>∃ v,e=.returned v∧AP w' w.heap.size v (l.filter fun p=>!(p.1 == k))∧Bw w w':=by
 have Bj:=Am w (.cells #[.string (bs k)] 9);have hn:=Aq w (.cells #[.string (bs k)] 9);have Ag:=Hi Bj;have HN:=Hi hn;have HC:=Hi (Ta (h.below Bj) hq (by omega));have hsz:=Ai w (.cells #[.string (bs k)] 9);clear h Bj hn;go_enter func82,ntmps82;go_wp2_with fail;refine HC.mono ?_;rintro e w1⟨v,rfl,hr,hb⟩;obtain⟨q1,c1,rfl,-,-⟩:=Dl hr;have hk1:=(hb.block _ (Ae HN)).trans HN.out
 have HD:=Hi (nu hr (amw w.heap.size k) (fun W hW=>by
  have h1:=(hW.block _ (Ae hk1) (fun e=>by
   have:=CJ hr e;rw[hsz] at this;omega)).trans hk1
  rw[AY _ _ _ _ _ _ h1];rfl) hl)
 have HR:=Hi hr;have HB:=Hi hb;clear hr hb hk1;go_wp2_with fail;refine HD.mono ?_;rintro e w2⟨v2,rfl,hr2,hu2,-⟩;obtain⟨q2,c2,rfl,-,-⟩:=Dl hr2;have HB2:=Hi (Bu (Ag.trans (HB.mono Ag.size)) hu2 (fun i e=>Ah Ag.size (CJ HR e)) (Ag.trans (HB.mono Ag.size)).size);have HR2:=Hi (Da hr2 Ag.size);clear hr2 hu2;go_wp2_with fail;go_ret;exact⟨_,rfl,HR2,HB2⟩
theorem abQ{w:World}{a:Option Addr}{cap:Nat}{l:M}(h:Av w a l)(hs:BN l)(hl:l.length≤1000000)(asV:rowLen (flat l)≤1000000000):
  Calls prog 83 #[.slice a l.length cap] w fun e w'=>e=.returned (.tuple #[.string (bs ((Bc l).getD [])),.int .i64 (if(Bc l).isSome=true then 0 else 5)])∧Bw w w':=by
 have En:=Hi (aaF (cap:=cap) h hs hl asV);by_cases hft:(Bc l).isSome=true
 ·rw[Ac hft];obtain⟨he,hlen⟩:=Rl.1 hft;have OM:=Hi (bO hft);rw[OM.out];rw[he] at En;generalize (CK l).1=s at*;have awd:decide (65535 < (s.length:Int)+4)=false:=Ma (by omega);have hw4:IntKind.i64.wrap ((s.length:Int)+4)=(s.length:Int)+4:=CZ _ (by omega);have TF:=Hi (fun W=>Uf s W (by omega));clear he hft hlen h hs asV OM;go_enter func83,ntmps83;go_wp2_with fail;refine En.mono ?_;rintro e w3⟨rfl,hb3⟩;have HB3:=Hi hb3;clear hb3;go_wp2_with fail;refine(TF _).mono ?_;rintro e w4⟨rfl,hb4⟩;have Ay:=Hi (HB3.trans (hb4.mono HB3.size));clear hb4;go_wp2_with fail;go_ret2;exact⟨rfl,Ay⟩
 ·rw[Aa hft];have hn:(Bc l).getD []=[]:=by
   cases hc:Bc l with
   |none=>rfl
   |some d=>rw[hc] at hft;simp at hft
  rw[hn];by_cases he:(CK l).2=0
  ·have hlen:¬ (CK l).1.length+4≤65535:=fun h=>hft (Rl.2 ⟨he,h⟩)
   rw[he] at En;have hsb:=bN l he asV;generalize (CK l).1=s at*;have awd:65535 < (s.length:Int)+4:=(by omega);have hw4:IntKind.i64.wrap ((s.length:Int)+4)=(s.length:Int)+4:=CZ _ (by omega);clear he hft h hs asV hn;go_enter func83,ntmps83;go_wp2_with fail;refine En.mono ?_;rintro e w3⟨rfl,hb3⟩;have HB3:=Hi hb3;clear hb3;go_wp2_with fail;go_ret2;exact⟨rfl,HB3⟩
  ·have hb0:((CK l).2 == 0)=false:=Fq.2 he;generalize CK l=V at*;clear hft h hs asV hn;go_enter func83,ntmps83;go_wp2_with fail;refine En.mono ?_;rintro e w3⟨rfl,hb3⟩;have HB3:=Hi hb3;clear hb3;go_wp2_with fail;go_ret2;exact⟨rfl,HB3⟩
structure Ey(w:World)(base m:Nat)(L:List (T×M))(g:T→Value):Prop where
 map:∃ kv:List (T×Value),kv.Perm (L.map fun x=>(x.1,Value.agg #[g x.1]))∧StrMap prog 9 w m kv
 nodup:(L.map (·.1)).Nodup
 row:∀ x∈L,AP w base (g x.1) x.2
 low:base≤m
theorem amx:(prog.info? 167).map (fun i=>(i.zero,i.size))=some (some (.agg #[.slice none 0 0]),1):=by kernel_rfl
theorem o9(w:World):(zeroValue 167).run prog w=.ok (.agg #[.slice none 0 0]) w:=(zero_of_info amx).1 w
theorem amy(W:World)(v:Value):(Instr.field 167 (.agg #[v]) 0).run prog W=.ok v W:=by
 simp[Instr.field,ER underlying167,go_sem,asAgg,Result.andThen]
section
variable {w w':World}{base m:Nat}{L:List (T×M)}{g:T→Value}
theorem Ey.below(h:Ey w base m L g)(hb:Bw w w'):Ey w' base m L g:=by
 obtain⟨⟨kv,h1,h2⟩,h3,h4,h6⟩:=h;exact⟨⟨kv,h1,h2.kept (hb.block m h2.lt)⟩,h3,fun x hx=>Bp (h4 x hx) hb,h6⟩
theorem Ey.PX(h:Ey w base m L g):((L.map fun x=>(x.1,Value.agg #[g x.1])).map (·.1)).Nodup:=by
 rw[List.map_map];exact h.nodup
theorem Ey.keys{kv:List (T×Value)}(h:kv.Perm (L.map fun x=>(x.1,Value.agg #[g x.1]))):(kv.map (·.1)).Perm (L.map (·.1)):=by
 have:=h.map (·.1);rwa[List.map_map] at this
theorem Ey.XJ(h:Ey w base m L g){x:T×M}(hx:x∈L)(hn:x.1.length≤maxLen):
  (Instr.lookup 164 (.map (some m)) (.string (bs x.1)) false).run prog w=.ok (.agg #[g x.1]) w:=by
 obtain⟨kv,h1,h2⟩:=h.map;rw[h2.lookup underlying9 underlying164 (o9 w) x.1 hn,Si (h1.map (·.1) |>.nodup_iff.2 h.PX) h1,(QG h.PX).2 (AV.2 ⟨x,hx,rfl⟩)];rfl
end
theorem abR{w:World}{base m p y:Nat}{L:List (T×M)}{g:T→Value}{Q:Int→World→Prop}(hm:Ex w p y)(h:Ey w base m L g)(hs:∀ x∈L,BN x.2∧x.2.length≤1000000∧rowLen (flat x.2)≤1000000000)(hn:∀ x∈L,x.1.length≤1000)(hl:L.length≤100000)
  (h5:¬ KY L=true→∀ w',Bw w w'→Q 5 w')
  (hc:KY L=true→∀ W q c,Bw w W→D7 W q (Ho L)→Calls prog 32 #[.pointer (some ⟨y,0,none⟩),.slice q (Ho L).length c] W fun e w'=>∃ c,e=.returned (.int .i64 c)∧Q c w'):
  Calls prog 84 #[.pointer (some ⟨p,0,none⟩),.map (some m)] w fun e w'=>∃ c,e=.returned (.int .i64 c)∧Q c w':=by
 have H5:=Hi h5;have HC:=Hi hc;have HM:=Hi hm;clear h5 hc hm;obtain⟨i0,hi0,hz0,hz1,hz2⟩:=Cz je;have HK:=Hi (show Calls prog 164 #[.map (some m)] w fun e w'=>e=.returned (.func (.func 209) #[] #[.pointer (some ⟨w.heap.size,0,none⟩)])∧w'=w.alloc (.cells #[.map (some m)] 164) from alq (some m) w);obtain⟨kv,Gz,Rm⟩:=h.map;have hkl:kv.length=L.length:=by rw[Gz.length_eq,BQ]
 have TD:=Hi (alr Rm (by omega));have hke:(kv.map (·.1)).mergeSort (fun x y=>decide (x≤y))=BX L:=mergeSort_of_perm (Ey.keys Gz);rw[hkl,hke] at TD;have HH:=Hi h;have HS:=Hi hs;have HN:=Hi hn;have hnl:(BX L).length=L.length:=bK L
 have mM:=Hi (fun t (ht:t∈BX L)=>show ∃ x∈L,x.1=t∧rowOf L t=x.2 from by
  obtain⟨x,hx,rfl⟩:=AV.1 (XI.1 ht);exact⟨x,hx,rfl,XH h.nodup hx⟩)
 clear h hs hn Gz Rm hkl hke;go_enter func84,ntmps84;go_wp2_with fail;refine HK.mono ?_;rintro e w1⟨rfl,hw1⟩;subst hw1;go_wp2_with fail;refine TD.mono ?_;rintro e w2⟨v,rfl,ast,hb2⟩;have aua:Man.AQ w2 (w.heap.size+1) v (BX L):=by
  unfold Man.AQ;rw[GD,hnl];exact ast
 obtain⟨q,c,rfl⟩:=AA aua;have HR2:=Hi aua;have HB2:=Hi hb2;clear ast aua hb2 HK TD;have hnI:((BX L).length:Int)=(L.length:Int):=by rw[hnl]
 go_wp2_with fail
 go_loopw [5,15] (fun s i wr=>mJ w (.slice q (BX L).length c) (BX L) (fun t=>IA t (rowOf L t)) (fun t=>J4 (rowOf L t)) s i wr) (fun _ i _=>(BX L).length -(intOf i).toNat)
 case atStart=>exact⟨0,none,0,Ar _,rfl,rfl,by rw[FJ,List.map_nil,jc];exact DJ _ _ _ _,HB2,rfl,HR2⟩
 case round=>
  obtain⟨k,cq,cc,hk,rfl,rfl,ast,hb,asD,hnr⟩:=hrel;have PY:=Hi hnr;have Ce:=Hi ast;have HB:=Hi hb;have Eh:=Hi asD;clear ast asD hnr HB2 HR2;by_cases hlt:k < (BX L).length
  ·obtain⟨x,hx,hxt,ED⟩:=mM _ (BF hlt);obtain⟨a,hix,c0⟩:=(CP (c:=c) (PY.out)).index c k hlt;simp only[hnl] at hix;have NL:k < L.length:=by omega
   have NQ:=Hi (show(J4 x.2=true→((BX L).take (k+1)).all (fun t=>J4 (rowOf L t))=true)∧((BX L).take (k+1)).map (fun t=>IA t (rowOf L t))=((BX L).take k).map (fun t=>IA t (rowOf L t))++[IA x.1 x.2] from by
    rw[BS hlt,C8,List.all_append,Eh.out];constructor
    ·intro e;simp[ED,e]
    ·simp[ED,hxt])
   have azd:=Hi (show J4 x.2=false→¬ KY L=true from fun e h=>by
    have:=Kl.1 h _ (BF hlt);rw[ED,e] at this;cases this)
   obtain⟨cl,hcl⟩:∃ cl,((BX L).take k).map (fun t=>IA t (rowOf L t))=cl:=⟨_,rfl⟩;have XL:cl.length=k:=(by rw[←hcl,BQ,Aw];omega);have D6:=Hi XL;rw[hcl] at Ce NQ ⊢;have I9:=((HH.below HB).XJ hx (by have:=HN x hx;unfold maxLen;omega));have SN:=(HH.below HB).row x hx;obtain⟨q2,c2,hgv,hq2,hc2⟩:=Dl SN;have ast:=SN;rw[hgv] at ast I9;have abS:=fun W=>amy W (.slice q2 x.2.length c2)
   obtain⟨LW,hsl,PZ⟩:=HS x hx;rw[←hxt] at c0;clear hcl hb ED hxt hgv SN;have alA:cl.length≤100000:=(by omega);clear XL;have NR:=Hi (Av.BU ast);obtain⟨t,l⟩:=x;simp only at*;by_cases hz:l=[]
   ·have hzl:((l.length:Int) == 0)=true:=(by rw[hz];rfl);have Gq:=Hi (show IA t l=⟨t,[],true⟩ from Ac hz);have TE:=Hi (NQ.1 (by rw[hz];rfl));clear hz;go_wp2_with (at_builtin;refine wpList_append_own_at _ rfl _ _ 24 rfl w.heap.size 65 i0 _ 3 40 underlying24 hi0 hz0 hz1 hz2 rfl (by decide) _ cl.length _ rfl (Ce.alloc _) ⟨wr.heap.size,0,none⟩ 1 1 [.string (bs t),.string { data:=#[] },.bool true] rfl rfl (by intro j u hj;rw[add_plain,CV];exact(CB▸hj)) (by simp[Value.oneCell']) (by unfold maxLen;omega) (by omega) (by have:=HB.size;simp;omega) ?_;intro v' w1 asJ asx _ hat;obtain⟨g',cap',rfl⟩:=ownsRow_succ asJ;have HO:=Hi asJ;have HG:=Hi asx;clear asJ asx hat);have Ca:=Hi (bP ⟨t,[],true⟩ hlt HB Ce (Am wr _) HG HO (by rw[←Gq.out];exact NQ.2) TE PY);go_roundw
    case rel=>exact Ca.out
    case measure=>
     show(BX L).length -((k:Int)+1).toNat < (BX L).length -((k:Int)).toNat
     omega
   ·have hzl:((l.length:Int) == 0)=false:=Fq.2 (fun e=>hz (IL.1 (by omega)));have Nt:=Hi (abQ (cap:=c2) NR LW hsl PZ);have XM:=Hi (show J4 l=(Bc l).isSome from by unfold J4;simp[hz]);have Gq:=Hi (show IA t l=⟨t,(Bc l).getD [],false⟩ from Aa hz);by_cases hft:(Bc l).isSome=true
    ·have TE:=Hi (NQ.1 (by rw[XM.out];exact hft));rw[Ac hft] at Nt;generalize (Bc l).getD []=s at*;clear hft;go_wp2_with fail;refine Nt.mono ?_;rintro e w4⟨rfl,hb4⟩;have Ay:=Hi hb4;have Rn:=Hi (Bp Ce Ay);have jk:=Ay.size;have ZN:=HB.size;clear hb4;go_wp2_with (at_builtin;refine wpList_append_own_at _ rfl _ _ 24 rfl w.heap.size 65 i0 _ 3 40 underlying24 hi0 hz0 hz1 hz2 rfl (by decide) _ cl.length _ rfl (Rn.alloc _) ⟨w4.heap.size,0,none⟩ 1 1 [.string (bs t),.string (bs s),.bool false] rfl rfl (by intro j u hj;rw[add_plain,CV];exact(CB▸hj)) (by simp[Value.oneCell']) (by unfold maxLen;omega) (by omega) (by simp;omega) ?_;intro v' w1 asJ asx _ hat;obtain⟨g',cap',rfl⟩:=ownsRow_succ asJ;have HO:=Hi asJ;have HG:=Hi asx;clear asJ asx hat);have Ca:=Hi (bP ⟨t,s,false⟩ hlt HB Ce (Ay.trans ((Am w4 _).mono Ay.size)) HG HO (by rw[←Gq.out];exact NQ.2) TE PY);go_roundw
     case rel=>exact Ca.out
     case measure=>
      show(BX L).length -((k:Int)+1).toNat < (BX L).length -((k:Int)).toNat
      omega
    ·have Dc:=Hi (azd (by rw[XM.out];simpa using hft));rw[Aa hft] at Nt;generalize (Bc l).getD []=s at*;clear hft;go_wp2_with fail;refine Nt.mono ?_;rintro e w3⟨rfl,hb3⟩;have HQ:=Hi (H5 Dc w3 (HB.trans (hb3.mono HB.size)));clear hb3;go_wp2_with fail;go_ret;exact⟨5,rfl,HQ⟩
  ·obtain rfl:k=(BX L).length:=(by omega);have au7:KY L=true:=by
    have:=Eh.out;rw[ET (Ab _)] at this;exact this
   have hE:=Ce.out;rw[ET (Ab _)] at hE;have HE:=Hi (show wr.ownsRow w.heap.size 65 3 (.slice cq (Ho L).length cc) (Ho L).length (IW (Ho L)) from hE);have hcl:(((BX L).take (BX L).length).map fun t=>IA t (rowOf L t)).length=(Ho L).length:=(by rw[ET (Ab _)];rfl);rw[hcl];have hmc:=(HM.below HB).cell;have FZ:=Hi (HC au7 wr cq cc HB (D7.BU HE));clear hE hb hcl;generalize (Ho L).length=dn at*;go_wp2_with fail;refine FZ.mono ?_;rintro e w9⟨c9,rfl,Qa⟩;go_wp2_with fail;go_ret;exact⟨c9,rfl,Qa⟩
section
variable {w w':World}{base m:Nat}{L:List (T×M)}{g:T→Value}
theorem Ey.made(w:World)(base:Nat)(g:T→Value)(hb:base≤w.heap.size):Ey (w.alloc (.map #[] 0)) base w.heap.size [] g:=
 ⟨⟨[],List.Perm.nil,StrMap.made w⟩,by simp,fun x hx=>by simp at hx,hb⟩
theorem Ey.BV(h:Ey w base m L g){t:TypeId}:¬ Ap w m t:=by
 obtain⟨kv,_,_,D,⟨es,clock,hm,_⟩,_⟩:=h.map;rintro⟨cs,fr,hb⟩;rw[hm] at hb;injection hb with hb
 cases hb
theorem Ey.len(h:Ey w base m L g)(ty:TypeId):(Builtin.len_ #[164] ty #[.map (some m)]).run prog w=.ok (.int .i64 (L.length:Int)) w:=by
 obtain⟨kv,h2,_,D,hown,_,hsz,_⟩:=h.map;rw[hown.len underlying164 ty,hsz,h2.length_eq,BQ]
theorem Ey.cO(h:Ey w base m L g){x:T×M}(hx:x∈L)(hn:x.1.length≤maxLen):
  (Instr.lookup 164 (.map (some m)) (.string (bs x.1)) true).run prog w=.ok (.tuple #[.agg #[g x.1],.bool true]) w:=by
 obtain⟨kv,h1,h2⟩:=h.map;rw[h2.RZ underlying9 underlying164 (o9 w) x.1 hn,Si (h1.map (·.1) |>.nodup_iff.2 h.PX) h1,(QG h.PX).2 (AV.2 ⟨x,hx,rfl⟩)];rfl
theorem Ey.cZ(h:Ey w base m L g){t:T}(hx:t∉L.map (·.1))(hn:t.length≤maxLen):
  (Instr.lookup 164 (.map (some m)) (.string (bs t)) true).run prog w=.ok (.tuple #[.agg #[.slice none 0 0],.bool false]) w:=by
 obtain⟨kv,h1,h2⟩:=h.map;have:Cr kv t=none:=by
  cases hs:Cr kv t with
  |none=>rfl
  |some v=>exact absurd ((Ey.keys h1).mem_iff.1 (AV.2 ⟨_,WA hs,rfl⟩)) hx
 rw[h2.RZ underlying9 underlying164 (o9 w) t hn,this];rfl
def putRow(L:List (T×M))(name:T)(l:M):List (T×M):=(name,l) :: L.filter fun x=>!(x.1 == name)
theorem Ey.put(h:Ey w base m L g){name:T}{l:M}{v:Value}(hl:name.length≤maxLen)(hv:AP w base v l)(au4:L.length < maxLen):
  ∃ w',(Instr.mapUpdate 164 (.map (some m)) (.string (bs name)) (.agg #[v])).run prog w=.ok () w'∧Ey w' base m (Dep.putRow L name l) (fun t=>if t=name then v else g t)∧w.grownBy w' (some m):=by
 obtain⟨kv,h1,h2⟩:=h.map;have hkr:kv.length < maxLen:=by
  have e:kv.length=L.length:=by rw[h1.length_eq,BQ]
  rw[e];exact au4
 obtain⟨w',hrun,h3,h4⟩:=h2.update underlying9 underlying164 name hl (.agg #[v]) hkr;have hu:A7 (fun k=>k=m) w w':=A7.of_grownBy (F:=fun k=>k=m) h4 (fun k e=>(EH e).symm);have hrw:∀ {u:Value} {r:M},AP w base u r→AP w' base u r:=fun {u r} hr=>AL hr hu (fun k hk e=>h.BV (by rw[←e];exact Bi hr hk))
 refine⟨w',hrun,⟨⟨_,?_,h3⟩,?_,fun x hx=>?_,h.low⟩,h4⟩
 ·unfold Ll Dep.putRow;rw[Bg];simp only[Ac];refine List.Perm.cons _ ((iG h1 name).trans (List.Perm.of_eq ?_));unfold FP;rw[List.filter_map];refine Nb fun x hx=>?_
  have:x.1≠name:=by
   have:=(CU.1 hx).2;simpa using this
  rw[Aa this]
 ·unfold Dep.putRow;rw[Bg];refine Hu.2 ⟨fun hm=>?_,List.Sublist.nodup (List.Sublist.map (fun x:T×M=>x.1) (List.filter_sublist (p:=fun x:T×M=>!(x.1 == name)) (l:=L))) h.nodup⟩;obtain⟨x,hx,e⟩:=AV.1 hm;have:=(CU.1 hx).2;simp[e] at this
 ·unfold Dep.putRow at hx;rcases AZ.1 hx with rfl|hx
  ·simp only[Ac];exact hrw hv
  ·obtain⟨hx1,hx2⟩:=CU.1 hx;have:x.1≠name:=(by simpa using hx2);rw[Aa this];exact hrw (h.row x hx1)
end
theorem abT{K:Kind}{A:M}{kt:List T}{L:List (T×M)}(h:Gc K A kt L){k:T}{l:M}(hl:l=EM K A (kt++[k]) (K.nm k)):Gc K A (kt++[k]) (Dep.putRow L (K.nm k) l):=by
 unfold Dep.putRow;refine⟨Hu.2 ⟨fun hm=>?_,List.Sublist.nodup (List.Sublist.map (fun x:T×M=>x.1) (List.filter_sublist (p:=fun x:T×M=>!(x.1 == K.nm k)) (l:=L))) h.nodup⟩,fun t=>?_,fun x hx=>?_⟩
 ·obtain⟨x,hx,e⟩:=AV.1 hm;have:=(CU.1 hx).2;simp[e] at this
 ·rw[Bg,AZ,C8,Ee,List.map_singleton,DT];constructor
  ·rintro(e|e)
   ·exact .inr e
   ·obtain⟨x,hx,e2⟩:=AV.1 e;exact .inl ((h.names t).1 (by rw[←e2];exact ES (CU.1 hx).1))
  ·rintro(e|e)
   ·by_cases ht:t=K.nm k
    ·exact .inl ht
    ·obtain⟨x,hx,e2⟩:=AV.1 ((h.names t).2 e);refine .inr (AV.2 ⟨x,CU.2 ⟨hx,?_⟩,e2⟩);have e2:x.1=t:=e2;simp[e2,ht]
   ·exact .inl e
 ·rcases AZ.1 hx with rfl|hx
  ·exact hl
  ·obtain⟨h1,h2⟩:=CU.1 hx;have h2:x.1≠K.nm k:=(by simpa using h2);rw[mZ _ (fun e=>h2 e.symm)];exact h.rows x h1
theorem amz{K:Kind}{A:M}{kt:List T}{L:List (T×M)}(h:Gc K A kt L){k:T}(hk:K.nm k∉L.map (·.1)):((fileOf K A (K.nm k)).getD []).filter (fun p=>!(p.1 == k))=EM K A (kt++[k]) (K.nm k):=
 (h.new hk).rows (K.nm k,_) (by simp)
def og(w:World)(m:Nat)(A:M)(ks:List T)(i:Value)(wr:World):Prop:=
 ∃ (k:Nat) (L:List (T×M)) (g:T→Value),k≤ks.length∧i=.int .i64 (k:Int)∧Ey wr w.heap.size m L g∧Gc A8 A (ks.take k) L∧Bw w wr
theorem amA{w:World}{p y:Nat}{A:M}{q:Option Addr}{cap:Nat}{ks:List T}{Q:Int→World→Prop}(hm:Ex w p y)(hg:Man.JR w y A)(hgd:Fil.Good A)(hk:BB w q ks)(hl:ks.length≤100000)(ht:There A8 A ks)
  (hf:∀ W,Bw w W→Calls prog 140 #[.pointer (some ⟨y,0,none⟩)] W fun e w'=>e=.returned (.int .i64 0)∧W=w')
  (h0:ks=[]→∀ w',Bw w w'→Q 0 w')
  (hc:∀ W q c,Bw w W→D7 W q (DC A8 A ks)→Calls prog 32 #[.pointer (some ⟨y,0,none⟩),.slice q (DC A8 A ks).length c] W fun e w'=>∃ c,e=.returned (.int .i64 c)∧Q c w'):
  Calls prog 37 #[.pointer (some ⟨p,0,none⟩),.slice q ks.length cap] w fun e w'=>∃ c,e=.returned (.int .i64 c)∧Q c w':=by
 have HF:=Hi hf;have H0:=Hi h0;have HC:=Hi hc;have HM:=Hi hm;have HG:=Hi hg;have HK:=Hi hk;have HT:=Hi ht;have Vz:=Hi hgd;have Vq:=hm.lt;clear hf h0 hc hm hg hk ht hgd;have hmm:=@run_makeMap prog;go_enter func37,ntmps37;go_wp2_with fail;refine(ab6 (P:=fun W w'=>W=w') HM (HF _ (Ad _ _))).mono ?_;rintro e w1⟨rfl,hw1⟩;subst hw1;go_wp2_with fail;have Y6:=Am w (.map #[] 0);have Hq:=Hi (show og w w.heap.size A ks (.int .i64 0) (w.alloc (.map #[] 0)) from⟨0,[],fun _=>.slice none 0 0,Ar _,rfl,Ey.made w w.heap.size _ (Ab _),by rw[FJ];exact Gc.nil,Y6⟩);generalize w.alloc (.map #[] 0)=V at*;clear Y6
 go_loopw [23] (fun i wr=>og w w.heap.size A ks i wr) (fun i _=>ks.length -(intOf i).toNat)
 case atStart=>exact Hq.out
 case round=>
  obtain⟨k,L,g,hk,rfl,he,hds,hb⟩:=hrel;have HE:=Hi he;have Jr:=Hi hds;have HB:=Hi hb;clear he hds hb Hq;by_cases hlt:k < ks.length
  ·obtain⟨a,hix,c0⟩:=(HK.below HB).index cap k hlt;have Gh:=Hi (BF hlt);have Bo:=Hi (BS hlt);generalize ks[k]=key at*;have hks:=abk HT Gh.out;have Gb:=Hi (fun(W:World)=>bQ key W (by omega));have hnl:(A8.nm key).length=17:=XO key;go_wp2_with fail;refine(Gb _).mono ?_;rintro e w1⟨rfl,hb1⟩;have Ef:=Hi (HE.below hb1);have HB1:=Hi (HB.trans (hb1.mono HB.size));clear hb1;obtain⟨t1,t2,t3⟩:=abl HT Gh.out;have NT:L.length≤100000:=by
    have:=Vy Jr.out;rw[Aw] at this;omega
   have abU:key∈CF ((fileOf A8 A (A8.nm key)).getD []):=by
    have h1:=HT key Gh.out;rw[XB] at h1;obtain⟨v,hv⟩:=JD.1 h1;unfold CF;rw[Df];exact AV.2 ⟨_,get_some hv,rfl⟩
   have Gn:=Hi abU;have HT1:=Hi t1;have HT2:=Hi t2;clear t1 t2 t3 abU hix c0 Gb HB HE;by_cases hin:A8.nm key∈L.map (·.1)
   case' pos=>
    obtain⟨⟨t,l1⟩,hx,El⟩:=AV.1 hin;have El:t=A8.nm key:=El;subst El;have I9:=Ef.cO hx (by rw[hnl];decide);have ast:=Ef.row _ hx;obtain⟨q1,c1,hgv,hq1,-⟩:=Dl ast;rw[hgv] at I9 ast;have hlr:l1=EM A8 A (ks.take k) (A8.nm key):=Jr.rows _ hx
    have M0:=Hi (show Gc A8 A (ks.take (k+1)) (Dep.putRow L (A8.nm key) (l1.filter fun p=>!(p.1 == key))) from by
     rw[Bo.out];exact abT Jr (by rw[hlr,bU]))
    have hl1:l1.length≤1000000:=(by rw[hlr];exact(ny Vz _ _).2.1);have Bj:=Am w1 (.cells #[.slice q1 l1.length c1] 167);have DL:=Hi (Aq w1 (.cells #[.slice q1 l1.length c1] 167));have MO:=Hi (Ef.below Bj);have Ag:=Hi (HB1.trans (Bj.mono HB1.size));have Rs:=Hi (o8 (Av.BU (Bp ast Bj)) hq1 hl1 key);have Qc:w.heap.size≤w1.heap.size:=HB1.size;clear hx hin hgv ast Bj Jr hlr;generalize A8.nm key=name at*;go_wp2_with fail;obtain⟨wA,NZ⟩:=ex (w1.alloc (.cells #[.slice q1 l1.length c1] 167));rw[NZ] at DL MO Ag Rs ⊢;obtain⟨b,hbk⟩:=ex (w1.heap.size);rw[hbk] at DL Qc ⊢;clear NZ
   case' neg=>
    have I9:=Ef.cZ hin (by rw[hnl];decide);have Bj:=Am w1 (.cells #[.slice none 0 0] 167);have oh:=Hi (Aq w1 (.cells #[.slice none 0 0] 167));have TM:=Hi (HB1.trans (Bj.mono HB1.size));have om:=Hi (Ef.below Bj);have EO:=Hi (bT (HM.below TM) (OJ HG TM) (A8.nm key) (by rw[hnl];decide));have hlf:=(PR (K:=A8) (A:=A) (name:=A8.nm key)).1;unfold KW at EO;rw[HT1.out,HT2.out] at EO
    have M0:=Hi (show Gc A8 A (ks.take (k+1)) (Dep.putRow L (A8.nm key) (((fileOf A8 A (A8.nm key)).getD []).filter fun p=>!(p.1 == key))) from by
     rw[Bo.out];exact abT Jr (amz Jr hin))
    have Qc:w.heap.size≤w1.heap.size:=HB1.size;clear hin Jr Bj;generalize (fileOf A8 A (A8.nm key)).getD []=l1 at*;have hl1:l1.length≤1000000:=Ah hlf (by decide);generalize A8.nm key=name at*;go_wp2_with fail;refine EO.mono ?_;rintro e w2⟨q1,c1,rfl,ast,hq1,hb2⟩;have HB2:=Hi hb2;have Jm:=Hi (abP (Av.BU ast) hq1 hl1);have HRW:=Hi ast;clear hb2 ast;go_wp2_with fail;refine Jm.mono ?_;rintro e w3⟨kv,rfl,hkr,hb3⟩;obtain⟨kq,kc,rfl⟩:=AA hkr;have abV:=nY l1;have Nk:=Hi (mO kc (CP hkr) key (by omega));rw[Gs Gn.out] at Nk;have HB3:=Hi (HB2.trans (hb3.mono HB2.size));have VJ:=Hi (Bp HRW hb3);clear hkr hb3;go_wp2_with fail;refine Nk.mono ?_;rintro e w4⟨rfl,hb4⟩;have oo:=HB3.trans (hb4.mono HB3.size);have dD:=(oo.block _ (Ae oh)).trans oh.out;have ou:=Bp VJ hb4;have ow:w4.cell? ⟨w1.heap.size,0,none⟩=some (.slice none 0 0):=cr dD;have oz:=Cb w4 w1.heap.size 0 _ _ dD;have Et:=(A7.refl (fun j=>j=w1.heap.size) w4).setCell (p:=⟨w1.heap.size,0,none⟩) (.inl rfl) (.slice q1 l1.length c1);have DL:=Hi (Bh w4 w1.heap.size 0 _ _ (.slice q1 l1.length c1) dD);have hsz0:=Ai w1 (.cells #[.slice none 0 0] 167);have Cv:Bw w1 (w4.setCell ⟨w1.heap.size,0,none⟩ (.slice q1 l1.length c1)):=by
     have h1:Bw w1 w4:=(Am w1 _).trans (oo.mono (Am w1 _).size);exact h1.setCell (p:=⟨w1.heap.size,0,none⟩) (Ab _) _
    have MO:=Hi (Ef.below Cv);have Ag:=Hi (HB1.trans (Cv.mono HB1.size))
    have abW:=AL ou Et (fun j hj e=>by
     have:=CJ ou hj;rw[hsz0] at this;omega)
    have Rs:=Hi (o8 (Av.BU abW) hq1 hl1 key);clear hb4 oo ou Et Cv abW hsz0 EO oh TM om HB2 HB3 HRW VJ Jm Nk dD;go_wp2_with fail;obtain⟨wA,NZ⟩:=ex (w4.setCell ⟨w1.heap.size,0,none⟩ (.slice q1 l1.length c1));rw[NZ] at DL MO Ag Rs ⊢;obtain⟨b,hbk⟩:=ex (w1.heap.size);rw[hbk] at DL Qc ⊢;clear NZ ow oz
   all_goals
    refine Rs.mono ?_;rintro e w2⟨v2,rfl,hr2,hb2⟩;obtain⟨q2,c2,rfl,-,-⟩:=Dl hr2;have PE:=(hb2.block _ (Ae DL)).trans DL.out;have cu2:w2.cell? ⟨b,0,none⟩=some (.slice q1 l1.length c1):=cr PE;have hf2:=Cb w2 b 0 _ _ PE;have abY:=Bh w2 b 0 _ _ (.slice q2 (l1.filter fun p=>!(p.1 == key)).length c2) PE;have cu3:(w2.setCell ⟨b,0,none⟩ (.slice q2 (l1.filter fun p=>!(p.1 == key)).length c2)).cell? ⟨b,0,none⟩=some (.slice q2 (l1.filter fun p=>!(p.1 == key)).length c2):=cr abY;have hu3:=(A7.refl (fun j=>j=b) w2).setCell (p:=⟨b,0,none⟩) (.inl rfl) (.slice q2 (l1.filter fun p=>!(p.1 == key)).length c2);have hnb:∀ k,k=b→¬ Ap w2 k 75:=fun k e hb=>by
     obtain⟨cs,fr,hb⟩:=hb;rw[e,PE] at hb;injection hb with hb
     injection hb with _ hb
     exact absurd hb (by decide)
    have oC:=Ag.trans (hb2.mono Ag.size);have oD:=MO.below hb2;have abZ:Ey (w2.setCell ⟨b,0,none⟩ (.slice q2 (l1.filter fun p=>!(p.1 == key)).length c2)) w.heap.size w.heap.size L g:=by
     have oF:¬ Ap w2 w.heap.size 167:=oD.BV;obtain⟨⟨kv,h1,h2⟩,h3,h4,h6⟩:=oD;exact⟨⟨kv,h1,h2.upd hu3 (fun e=>oF (by rw[e];exact⟨_,_,PE⟩))⟩,h3,fun x hx=>AL (h4 x hx) hu3 (fun j hj e=>hnb j e (Bi (h4 x hx) hj)),h6⟩
    have hr3:=AL (Da hr2 Ag.size) hu3 (fun j hj e=>hnb j e (Bi hr2 hj));have hb3:=Bu oC hu3 (fun i e=>by rw[e];exact Qc) oC.size;obtain⟨w9,arG,hU9,hg9⟩:=abZ.put (name:=name) (by rw[hnl];decide) hr3 (by unfold maxLen;omega);have Eu:=hb3.grown hg9 hb3.size (fun k e=>Nat.le_of_eq (EH e));have Ca:=Hi (show og w w.heap.size A ks (.int .i64 ((k:Int)+1)) w9 from⟨k+1,_,_,by omega,by go_num,hU9,M0,Eu⟩);generalize (l1.filter fun p=>!(p.1 == key)).length=n2 at*;clear hr2 hb2 PE abY hu3 hnb oC oD abZ hr3 hb3 hU9 hg9 Eu;go_wp2_with fail;go_roundw
    case rel=>exact Ca.out
    case measure=>
     show ks.length -((k:Int)+1).toNat < ks.length -((k:Int)).toNat
     omega
  ·obtain rfl:k=ks.length:=(by omega);have hds:=Jr.out;rw[Ck] at hds;by_cases hz:ks=[]
   ·subst hz;have hL:L=[]:=by
     have:=Vy hds;exact IL.1 (by simpa using this)
    subst hL;have hln:=HE.len 3;have HQ:=Hi (H0 rfl wr HB);clear hds;go_wp2_with fail;go_ret;exact⟨0,rfl,HQ⟩
   ·have hL:L.length≠0:=fun e=>by
     have hL:=IL.1 e;cases hks:ks with
     |nil=>exact hz hks
     |cons x ks'=>
      have:=(hds.names (A8.nm x)).2 (ES (by rw[hks];simp));rw[hL] at this;simp at this
    have NT:L.length≤100000:=Ah (Vy hds) hl;obtain⟨e1,e2⟩:=hds.XP Vz HT.out
    have HCM:=Hi (abR (Q:=Q) (HM.below HB) HE (fun x hx=>by rw[hds.rows x hx];exact ny Vz _ _) (fun x hx=>by
     obtain⟨z,_,hz⟩:=AV.1 ((hds.names x.1).1 (ES hx));rw[←hz,XO];decide) NT (fun h=>absurd e2 h) (fun _ W q c hW hch=>by
     rw[e1] at hch ⊢;exact HC W q c (HB.trans (hW.mono HB.size)) hch))
    have hln:=HE.len 3;have hlb:((L.length:Int) == 0)=false:=Fq.2 (by omega);clear hds e1 e2;go_wp2_with fail;refine HCM.mono ?_;rintro e w9⟨cc,rfl,Qa⟩;go_wp2_with fail;go_ret;exact⟨cc,rfl,Qa⟩
end Dep
namespace GL
open Go.RowKit Go.Maps
open Wal Fil Man Prs Kp BH Hex Sha Al Mem Dep
def FI(w:World)(m:Nat)(c:T→Nat)(n:Nat):Prop:=
 ∃ kv:List (T×Value),StrMap prog 9 w m kv∧kv.length≤n∧∀ t,(Cr kv t).getD (.agg #[.int .i64 0])=.agg #[.int .i64 (c t:Int)]
theorem amB:(prog.info? 191).map (fun i=>(i.zero,i.size))=some (some (.agg #[.int .i64 0]),1):=by kernel_rfl
theorem amC(w:World):(zeroValue 191).run prog w=.ok (.agg #[.int .i64 0]) w:=(zero_of_info amB).1 w
theorem ac2(W:World)(v:Value):(Instr.field 191 (.agg #[v]) 0).run prog W=.ok v W:=by
 simp[Instr.field,ER underlying191,go_sem,asAgg,Result.andThen]
section
variable {w w':World}{m n:Nat}{c:T→Nat}
theorem FI.made(w:World):FI (w.alloc (.map #[] 0)) w.heap.size (fun _=>0) 0:=⟨[],StrMap.made w,Ab _,fun t=>rfl⟩
theorem FI.below(h:FI w m c n)(hb:Bw w w'):FI w' m c n:=by
 obtain⟨kv,h1,h2,h3⟩:=h;exact⟨kv,h1.kept (hb.block m h1.lt),h2,h3⟩
theorem FI.lt(h:FI w m c n):m < w.heap.size:=by
 obtain⟨kv,h1,h2,h3⟩:=h;exact h1.lt
theorem FI.get(h:FI w m c n)(t:T)(ht:t.length≤maxLen):(Instr.lookup 104 (.map (some m)) (.string (bs t)) false).run prog w=.ok (.agg #[.int .i64 (c t:Int)]) w:=by
 obtain⟨kv,h1,h2,h3⟩:=h;rw[h1.lookup underlying9 underlying104 (amC w) t ht,h3]
theorem FI.put(h:FI w m c n)(t:T)(ht:t.length≤maxLen)(hn:n < maxLen):∃ w',(Instr.mapUpdate 104 (.map (some m)) (.string (bs t)) (.agg #[.int .i64 ((c t:Int)+1)])).run prog w=.ok () w'∧FI w' m (fun s=>if s=t then c s+1 else c s) (n+1)∧w.grownBy w' (some m):=by
 obtain⟨kv,h1,h2,h3⟩:=h;obtain⟨w',hrun,h4,h5⟩:=h1.update underlying9 underlying104 t ht (.agg #[.int .i64 ((c t:Int)+1)]) (by omega);refine⟨w',hrun,⟨_,h4,?_,fun s=>?_⟩,h5⟩
 ·unfold Ll;rw[AX];have:(FP t kv).length≤kv.length:=Km _ _;omega
 ·by_cases e:s=t
  ·subst e;rw[uQ]
   show Value.agg #[.int .i64 ((c s:Int)+1)]=Value.agg #[.int .i64 ((if s=s then c s+1 else c s:Nat):Int)]
   rw[Ac rfl];rfl
  ·rw[uR e,h3 s]
   show _=Value.agg #[.int .i64 ((if s=t then c s+1 else c s:Nat):Int)]
   rw[Aa e]
end
theorem amD{w:World}{m n:Nat}{c:T→Nat}(h:FI w m c n)(t:T)(ht:t.length≤1000000):
  Calls prog 47 #[.map (some m),.string (bs t)] w fun e w'=>e=.returned (.bool (decide (c t=0)))∧w=w':=by
 have I9:=h.get t (by unfold maxLen;omega);have abS:=fun W=>ac2 W (.int .i64 (c t:Int))
 clear h;generalize c t=k at*;go_enter func47,ntmps47;go_wp2_with fail;go_ret;refine⟨?_,rfl⟩;by_cases hk:k=0
 ·subst hk;rfl
 ·have:((k:Int) == 0)=false:=Fq.2 (by omega);simp[this,hk]
theorem ac3(p d:Nat)(w:World):Calls prog 43 #[.pointer (some ⟨p,0,none⟩),.pointer (some ⟨d,0,none⟩)] w fun e w'=>e=.returned (.int .i64 0)∧w=w':=by
 go_enter func43,ntmps43;go_wp2_with fail;go_ret;exact⟨rfl,rfl⟩
def ac4(w:World)(m n:Nat)(c:T→Nat)(ks:List T)(i:Value)(wr:World):Prop:=
 ∃ k:Nat,k≤ks.length∧i=.int .i64 (k:Int)∧FI wr m (fun t=>c t+(ks.take k).count t) (n+k)∧A7 (fun j=>j=m) w wr
theorem ac5{w:World}{m n:Nat}{c:T→Nat}{q:Option Addr}{cap:Nat}{ks:List T}(h:FI w m c n)(hk:BB w q ks)(Rm:∀ p,q=some p→ks≠[]→p.block≠m)(hks:∀ t∈ks,t.length≤1000000)(hl:n+ks.length≤100000000)(hc:∀ t,c t≤100000000):
  Calls prog 44 #[.map (some m),.slice q ks.length cap] w fun e w'=>(∃ v,e=.returned v)∧FI w' m (fun t=>c t+ks.count t) (n+ks.length)∧A7 (fun j=>j=m) w w':=by
 have HH:=Hi h;have HK:=Hi hk;have HKM:=Hi Rm;have Gy:=Hi hks;have HC:=Hi hc;clear h hk Rm hks hc;go_enter func44,ntmps44;go_wp2_with fail
 go_loopw [8] (fun i wr=>ac4 w m n c ks i wr) (fun i _=>ks.length -(intOf i).toNat)
 case atStart=>exact⟨0,Ar _,rfl,by simpa using HH.out,A7.refl _ _⟩
 case round=>
  obtain⟨k,hkl,rfl,hm,hu⟩:=hrel;have HU:=Hi hu;have HM:=Hi hm;by_cases hlt:k < ks.length
  ·obtain⟨a,hix,c0⟩:=(HK.upd hu (fun p hp hne=>HKM p hp hne)).index cap k hlt;have Q0:=Gy _ (BF hlt);have Bo:=Hi (BS hlt);generalize ks[k]=key at*;have I9:=hm.get key (by unfold maxLen;omega);obtain⟨w3,amF,Od,hg3⟩:=hm.put key (by unfold maxLen;omega) (by unfold maxLen;omega);have ayW:(ks.take k).count key≤ks.length:=Ah List.count_le_length (by rw[Aw];omega);have hcc:=HC key;obtain⟨x,hx⟩:=ex (c key+(ks.take k).count key);have abS:=fun W=>ac2 W (.int .i64 (x:Int))
   have hwr:IntKind.i64.wrap ((x:Int)+1)=(x:Int)+1:=CZ _ (by omega);simp only[hx] at I9 amF
   have Ca:=Hi (show ac4 w m n c ks (.int .i64 ((k:Int)+1)) w3 from⟨k+1,by omega,by go_num,by
    have e:(fun t=>c t+(ks.take (k+1)).count t)=(fun s=>if s=key then(c s+(ks.take k).count s)+1 else c s+(ks.take k).count s):=by
     funext t
     rw[Bo.out,List.count_append];by_cases e:t=key
     ·subst e;rw[Ac rfl];simp;omega
     ·rw[Aa e];have:[key].count t=0:=by
       rw[List.count_eq_zero];simpa using e
      omega
    rw[e];exact Od,HU.trans (A7.of_grownBy (F:=fun j=>j=m) hg3 (fun j e=>(EH e).symm)) (fun _ f=>.inl f)⟩)
   clear hm hu Od hg3 ayW hcc;go_wp2_with fail;go_roundw
   case rel=>exact Ca.out
   case measure=>
    show ks.length -((k:Int)+1).toNat < ks.length -((k:Int)).toNat
    omega
  ·obtain rfl:k=ks.length:=(by omega);have oG:=HM.out;rw[Ck] at oG;have HMF:=Hi oG;clear hm hu oG;go_wp2_with fail
   go_end0
   exact⟨⟨_,rfl⟩,HMF,HU⟩
def ac6(K:World→Prop)(v:Value)(f:T→Bool):Prop:=
 ∃ F recv Im,v=.func (.func F) recv Im∧(∀ args w,(callFunc F args).run prog w=.ok (.enter F args) w)∧
  ∀ W p,p.length≤1000000→K W→Calls prog F (recv++ #[.string (bs p)]++Im) W fun e W'=>e=.returned (.bool (f p))∧W=W'
def oH(w:World)(f:T→Bool)(ks:List T)(s i:Value)(wr:World):Prop:=
 ∃ (k:Nat) (o:List T) (q:Option Addr) (c:Nat),k≤ks.length∧i=.int .i64 (k:Int)∧s=.slice q o.length c∧Man.AQ wr w.heap.size (.slice q o.length c) o∧o=(ks.take k).filter f∧Bw w wr
theorem ac7{w:World}{K:World→Prop}{v:Value}{f:T→Bool}{q:Option Addr}{cap:Nat}{ks:List T}(hk:BB w q ks)(hf:ac6 K v f)(hK:∀ W,Bw w W→K W)(hks:∀ t∈ks,t.length≤1000000)(hl:ks.length≤1000000):
  Calls prog 46 #[.slice q ks.length cap,v] w fun e w'=>∃ u,e=.returned u∧Man.AQ w' w.heap.size u (ks.filter f)∧Bw w w':=by
 obtain⟨F,recv,Im,rfl,auy,auL⟩:=hf;obtain⟨i0,hi0,hz0,hz1,hz2⟩:=Cz Nr;have HC:=Hi auL;have HK:=Hi hK;have HT:=Hi hk;have Gy:=Hi hks;clear auL hK hk hks;go_enter func46,ntmps46;go_wp2_with fail
 go_loopw [4,9] (fun s i wr=>oH w f ks s i wr) (fun _ i _=>ks.length -(intOf i).toNat)
 case atStart=>exact⟨0,[],none,0,Ar _,rfl,rfl,XN _ _,by simp,Ad _ _⟩
 case round=>
  obtain⟨k,o,qo,co,hkl,rfl,rfl,ast,ho,hb⟩:=hrel;have HB:=Hi hb;have HR:=Hi ast;have HO:=Hi ho;have hol:o.length≤1000000:=by
   rw[ho];have:=Km f (ks.take k);rw[Aw] at this;omega
  clear ast ho;by_cases hlt:k < ks.length
  ·obtain⟨a,hix,c0⟩:=(HT.below hb).index cap k hlt;have hkx:=Gy _ (BF hlt);have Bo:=Hi (BS hlt);generalize ks[k]=x at*;have D6:=Hi (HC wr x hkx (HK wr hb));have hbs:=hb.size;clear hb;cases hfx:f x with
   |false=>
    rw[hfx] at D6;have Ca:=Hi (show oH w f ks (.slice qo o.length co) (.int .i64 ((k:Int)+1)) wr from⟨k+1,o,qo,co,by omega,by go_num,rfl,HR,by rw[Bo.out,O1,←HO.out];simp[hfx],HB⟩);clear hfx;go_wp2_with fail;refine D6.mono ?_;rintro e w1⟨rfl,hw1⟩;subst hw1;go_wp2_with fail;go_roundw
    case rel=>exact Ca.out
    case measure=>
     show ks.length -((k:Int)+1).toNat < ks.length -((k:Int)).toNat
     omega
   |true=>
    rw[hfx] at D6;have HOX:=Hi (show o++[x]=(ks.take (k+1)).filter f from by rw[Bo.out,O1,←HO.out];simp[hfx]);clear hfx;go_wp2_with fail;refine D6.mono ?_;rintro e w1⟨rfl,hw1⟩;subst hw1;go_wp2_with (at_builtin;refine wpList_append_own_at _ rfl _ _ 27 rfl w.heap.size 9 i0 _ 1 16 underlying27 hi0 hz0 hz1 hz2 rfl (by decide) _ o.length _ rfl (HR.alloc _) ⟨wr.heap.size,0,none⟩ 1 1 [.string (bs x)] rfl rfl (by intro j u hj;rw[add_plain,CV];exact(CB▸hj)) (by simp[Value.oneCell']) (by unfold maxLen;omega) (by omega) (by simp;omega) ?_;intro v' w4 asJ asx _ hat;obtain⟨g',cap',rfl⟩:=ownsRow_succ asJ;have HOW:=Hi asJ;have HG:=Hi asx;clear asJ asx hat)
    have Ca:=Hi (show oH w f ks (.slice (some ⟨g',0,none⟩) (o.length+1) cap') (.int .i64 ((k:Int)+1)) w4 from⟨k+1,o++[x],some ⟨g',0,none⟩,cap',by omega,by go_num,by rw[Aj];rfl,by
     unfold Man.AQ;rw[Aj,show strCells (o++[x])=strCells o++[.string (bs x)] by unfold strCells;rw[C8];rfl];exact HOW.out,HOX,(HB.alloc HB.size _).grown HG (by rw[Ai];have:=HB.size;omega) (fun j hj=>CJ HR hj)⟩)
    go_roundw
    case rel=>exact Ca.out
    case measure=>
     show ks.length -((k:Int)+1).toNat < ks.length -((k:Int)).toNat
     omega
  ·obtain rfl:k=ks.length:=(by omega);have hof:=HO.out;rw[Ck] at hof;subst hof;clear hb;go_wp2_with fail;go_ret;exact⟨_,rfl,HR,HB⟩
end GL
end Go.Proofs.YtmbbhdebddbhoaaGreat
