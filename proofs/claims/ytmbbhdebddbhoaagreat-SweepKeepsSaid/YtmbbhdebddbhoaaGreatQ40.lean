/- RMem REnt -/
import Derived.Test.YtmbbhdebddbhoaaGreatQ38
import Derived.Test.YtmbbhdebddbhoaaGreatQ39
set_option maxHeartbeats 4000000
set_option maxRecDepth 100000
set_option linter.all false
namespace Go.Proofs.YtmbbhdebddbhoaaGreat
open Tryz
namespace Hex
open Go.RowKit Go.Maps
open Fil Man Sha
theorem adM(s:ByteArray)(K:IntKind)(k:Nat)(h:k < s.size)(W:World):(Instr.index 9 (.string s) (.int K (k:Int))).run prog W=.ok (.int .u8 ((s[k]'h).toNat:Int)) W:=by
 have h0:(0:Int)≤(k:Int):=Int.natCast_nonneg k;have e:s[k]?=some (s[k]'h):=by rw[getElem?_pos s k h]
 simp only[Instr.index,ER underlying9,go_sem];simp[h0,e,go_sem]
theorem adN(k:Nat)(h:k < 16)(W:World):(Instr.index 9 (.string { data:=#[48,49,50,51,52,53,54,55,56,57,97,98,99,100,101,102] }) (.int .u8 (k:Int))).run prog W=.ok (.int .u8 ((EN k).toNat:Int)) W:=by
 have h1:=adM ({ data:=#[48,49,50,51,52,53,54,55,56,57,97,98,99,100,101,102] }:ByteArray) .u8 k h W;rw[lG k h] at h1;exact h1
theorem adO(s:T)(w:World)(hs:s.length≤1000000)(h0:0 < s.length):Calls prog 152 #[.string (bs s)] w fun e w'=>e=.returned (.string (bs (Dq s)))∧Bw w w':=by
 obtain⟨i0,hi0,hz0,hz1,hz2⟩:=Cz Ui;go_enter func152,ntmps152;go_wp2_with fail
 go_loopw [3,4] (fun o i wr=>∃ (t n:Nat),t≤s.length∧n=2*t∧i=.int .i64 (t:Int)∧wr.ownsRow w.heap.size 5 1 o n (Bn (Dq (s.take t)))∧Bw w wr) (fun _ i _=>s.length -(intOf i).toNat)
 case atStart=>exact⟨0,0,Ar _,rfl,rfl,by rw[FJ,show Dq []=[] from rfl,Uh];exact DJ _ _ _ _,Ad _ _⟩
 case round=>
  obtain⟨t,n,ht,hn,rfl,hown,hb⟩:=hrel;obtain⟨oq,Fj,rfl⟩:=AA hown;have HO:=Hi hown;have HB:=Hi hb;by_cases hlt:t < s.length
  ·have HT:=Hi (show Dq (s.take (t+1))=Dq (s.take t)++[EN (s[t].toNat / 16),EN (s[t].toNat % 16)] from by rw[BS hlt,aa9];simp[Dq]);have hlb:=s[t].toNat_lt;have h16:s[t].toNat / 16 < 16:=(by omega);have lH:s[t].toNat % 16 < 16:=(by omega);have hnb:n≤2000000:=(by omega);have au8:∀ W,(Instr.index 9 (.string (bs s)) (.int .i64 (t:Int))).run prog W=.ok (.int .u8 (s[t].toNat:Int)) W:=fun W=>adM (bs s) .i64 t (by simpa using hlt) W
   generalize s[t]=x at*;have hq1:IntKind.u8.wrap ((x.toNat:Int) / 16)=(x.toNat:Int) / 16:=(by rw[adH];omega);have hm1:((x.toNat:Int)).tmod 16=(x.toNat:Int) % 16:=Int.tmod_eq_emod_of_nonneg (by omega);have hx1:∀ W,(Instr.index 9 (.string { data:=#[48,49,50,51,52,53,54,55,56,57,97,98,99,100,101,102] }) (.int .u8 ((x.toNat:Int) / 16))).run prog W=.ok (.int .u8 ((EN (x.toNat / 16)).toNat:Int)) W:=fun W=>adN _ h16 W
   have hx2:∀ W,(Instr.index 9 (.string { data:=#[48,49,50,51,52,53,54,55,56,57,97,98,99,100,101,102] }) (.int .u8 ((x.toNat:Int) % 16))).run prog W=.ok (.int .u8 ((EN (x.toNat % 16)).toNat:Int)) W:=fun W=>adN _ lH W
   have HN:=Hi (BD hn hlt);clear hown hb hn;go_wp2_with fail;clear hlt;refine TB ?_
   go_region_law
    ((refine step_append_lies _ (by rfl) _ _ _ (by rfl) w.heap.size 5 i0 _ 1 1 underlying232 hi0 hz0 hz1 hz2 (by rfl) (by omega) (.slice oq n Fj) n (Bn (Dq (s.take t))) (by rfl) ((HO.alloc _).drew) ⟨wr.heap.size,0,none⟩ 2 2 [.int .u8 ((EN (x.toNat / 16)).toNat:Int),.int .u8 ((EN (x.toNat % 16)).toNat:Int)] (by rfl) (by rfl) (World.news_of_block (cs:=#[.int .u8 ((EN (x.toNat / 16)).toNat:Int),.int .u8 ((EN (x.toNat % 16)).toNat:Int)]) (t:=5) (fr:=(0,0)) (Aq wr _)) (by intro u hu;simp at hu;rcases hu with rfl|rfl<;>rfl) (by omega) (by unfold maxLen;omega) (by omega) (by rw[show((wr.alloc _).drew).heap.size=wr.heap.size+1 from Ai _ _];have:=HB.size;omega) (wr.heap.size+1) (by simp) ?_;intro gg bR w3 aw3 asx hat aAR))
   all_goals
    have HB3:=Hi (((HB.alloc HB.size (.cells #[.int .u8 ((EN (x.toNat / 16)).toNat:Int),.int .u8 ((EN (x.toNat % 16)).toNat:Int)] 5)).drew).grown asx (by rw[show((wr.alloc (.cells #[.int .u8 ((EN (x.toNat / 16)).toNat:Int),.int .u8 ((EN (x.toNat % 16)).toNat:Int)] 5)).drew).heap.size=wr.heap.size+1 from Ai _ _];have:=HB.size;omega) (fun j hj=>eQ HO hj));have K7:=Hi aw3;clear aw3 asx hat;dsimp only[Rk];go_wp2_with fail;go_roundw
    case rel=>
     refine⟨t+1,n+2,by have:=HN.out;omega,by have:=HN.out;omega,by go_num,?_,HB3⟩;rw[HT.out,RP,show Bn [EN (x.toNat / 16),EN (x.toNat % 16)]=[.int .u8 ((EN (x.toNat / 16)).toNat:Int),.int .u8 ((EN (x.toNat % 16)).toNat:Int)] by rw[Wo,Wo,Uh]];exact K7.out
    case measure=>have:=HN.2;first|(simp[intOf];done)|(simp[intOf];omega)
  ·obtain rfl:t=s.length:=(by omega);rw[Ck] at hown;obtain⟨gq,e1⟩:∃ gq,oq=some ⟨gq,0,none⟩:=by
    rcases hown.2 with⟨e0,e1⟩|⟨g,cap,cur,e0,hb,_⟩
    ·omega
    ·injection e0 with e0;exact⟨g,e0⟩
   subst e1;have hol:(Dq s).length=n:=(by rw[SY];omega);have hcv:=RH prog wr 232 5 9 underlying232 underlying5 underlying9 gq 0 n Fj (Dq s) hol (fun i hi=>by rw[Fs];exact adI hol hown i hi);clear hown hb hol hn;go_wp2_with fail;go_ret;exact⟨rfl,HB⟩
end Hex
namespace Mem
open Go.RowKit Go.Maps
open Wal Fil Man Prs Kp BH Hex Sha
theorem qG(k:T)(w:World)(hk:k.length≤1000000):Calls prog 73 #[.string (bs k)] w fun e w'=>e=.returned (.string (bs (A9.nm k)))∧Bw w w':=by
 have hm:({ data:=#[109] }:ByteArray)=bs [109]:=rfl;have hcut:∀ W,(Instr.slice 9 (.string (bs (De k))) none (some (.int .i64 8)) none).run prog W=.ok (.string (bs ((De k).take 8))) W:=fun W=>Ji prog W 9 underlying9 (De k) 8 (by rw[NI];omega)
 have I5:((De k).take 8).length=8:=by rw[Aw,NI];rfl
 have HH:=Hi (fun(W:World)=>adO ((De k).take 8) W (by rw[I5];omega) (by rw[I5];omega));have hhl:(Dq ((De k).take 8)).length≤16:=by rw[SY,I5];omega
 have HE:=Hi (show[109]++Dq ((De k).take 8)=A9.nm k from rfl);generalize Dq ((De k).take 8)=hx at*;generalize (De k).take 8=sk at*;clear I5;go_enter func73,ntmps73;go_wp2_with fail;refine(adL k (by omega) _).mono ?_;rintro e w1⟨rfl,hb1⟩;have HB1:=Hi hb1;clear hb1;go_wp2_with fail;refine(HH _).mono ?_;rintro e w2⟨rfl,hb2⟩;have HB2:=Hi (HB1.trans (hb2.mono HB1.size));clear hb2;go_wp2_with fail;go_ret;exact⟨by rw[←HE.out];rfl,HB2⟩
theorem aoO{w:World}{a:Option Addr}{cap:Nat}{l:M}(h:Av w a l)(hs:BN l)(hl:l.length≤60000)(asV:rowLen (flat l)≤1000000000):
  Calls prog 75 #[.slice a l.length cap] w fun e w'=>e=.returned (.tuple #[.string (bs ((Bc l).getD [])),.int .i64 (if(Bc l).isSome=true then 0 else 5)])∧Bw w w':=by
 have En:=Hi (rput16_w (cap:=cap) h hs hl asV);by_cases hft:(Bc l).isSome=true
 ·rw[Ac hft];obtain⟨he,hlen⟩:=Rl.1 hft;have OM:=Hi (bO hft);rw[OM.out];rw[he] at En;generalize (CK l).1=s at*;have awd:decide (65535 < (s.length:Int)+4)=false:=Ma (by omega);have hw4:IntKind.i64.wrap ((s.length:Int)+4)=(s.length:Int)+4:=CZ _ (by omega);have TF:=Hi (fun W=>YY s W (by omega));clear he hft hlen h hs asV OM;go_enter func75,ntmps75;go_wp2_with fail;refine En.mono ?_;rintro e w3⟨rfl,hb3⟩;have HB3:=Hi hb3;clear hb3;go_wp2_with fail;refine(TF _).mono ?_;rintro e w4⟨rfl,hb4⟩;have Ay:=Hi (HB3.trans (hb4.mono HB3.size));clear hb4;go_wp2_with fail;go_ret2;exact⟨rfl,Ay⟩
 ·rw[Aa hft];have hn:(Bc l).getD []=[]:=by
   cases hc:Bc l with
   |none=>rfl
   |some d=>rw[hc] at hft;simp at hft
  rw[hn];by_cases he:(CK l).2=0
  ·have hlen:¬ (CK l).1.length+4≤65535:=fun h=>hft (Rl.2 ⟨he,h⟩)
   rw[he] at En;have hsb:=bN l he asV;generalize (CK l).1=s at*;have awd:65535 < (s.length:Int)+4:=(by omega);have hw4:IntKind.i64.wrap ((s.length:Int)+4)=(s.length:Int)+4:=CZ _ (by omega);clear he hft h hs asV hn;go_enter func75,ntmps75;go_wp2_with fail;refine En.mono ?_;rintro e w3⟨rfl,hb3⟩;have HB3:=Hi hb3;clear hb3;go_wp2_with fail;go_ret2;exact⟨rfl,HB3⟩
  ·have hb0:((CK l).2 == 0)=false:=Fq.2 he;generalize CK l=V at*;clear hft h hs asV hn;go_enter func75,ntmps75;go_wp2_with fail;refine En.mono ?_;rintro e w3⟨rfl,hb3⟩;have HB3:=Hi hb3;clear hb3;go_wp2_with fail;go_ret2;exact⟨rfl,HB3⟩
theorem Rz{w:World}{base cap k:Nat}{q:Option Addr}{A:M}(h:AP w base (.slice q A.length cap) A)(hk:k < A.length):
  ∃ p:Addr,(∀ W,(Instr.indexAt 22 (.slice q A.length cap) (.int .i64 (k:Int))).run prog W=.ok (.pointer (some p)) W)∧w.cell? p=some (.string (bs A[k].1))∧w.cell? ⟨p.block,p.off+1,none⟩=some (.string (bs A[k].2)):=by
 obtain⟨p,h1,h2,-⟩:=(Av.BU h).index cap k hk;exact⟨p,h1,h2.key,h2.val⟩
theorem Jv{W:World}{g:Nat}{a b:Value}{t:TypeId}(h:W.heap[g]?=some (.cells #[a,b] t)):W.cell? ⟨g,0,none⟩=some a∧W.cell? ⟨g,1,none⟩=some b:=⟨by rw[AY W g _ _ _ _ h];rfl,by rw[AY W g _ _ _ _ h];rfl⟩
section
variable {w w':World}
structure U2(w W:World)(ov:Value)(m:Nat)(o:M)(c:Af)(gn:Bool):Prop where
 row:W.ownsRow (w.heap.size+1) 75 2 ov m (Cj o)
 Ao:Bw w W
 box:W.heap[w.heap.size]?=some (.cells #[.string (bs c.name),.string (bs c.data)] 75)
theorem U2.drew{W:World}{ov:Value}{m:Nat}{o:M}{c:Af}{gn:Bool}(h:U2 w W ov m o c gn):U2 w W.drew ov m o c gn:=⟨h.row.drew,h.Ao.drew,h.box⟩
theorem U2.add{W W2:World}{ov v2:Value}{m:Nat}{o:M}{c:Af}{gn:Bool}{ob:Obj}{a b:T}(h:U2 w W ov m o c gn)(hg:(W.alloc ob).grownBy W2 ov.ownBlock)(ho:W2.ownsRow (w.heap.size+1) 75 2 v2 (m+1) (Cj o++[.string (bs a),.string (bs b)])):U2 w W2 v2 (m+1) (o++[(a,b)]) c gn:=by
 have hlt:=Ae h.box;have hsz:(W.alloc ob).heap.size=W.heap.size+1:=Ai _ _;refine⟨by rw[NJ];exact ho,(h.Ao.alloc h.Ao.size ob).grown hg (by omega) (fun j hj=>by have:=CJ h.row hj;omega),?_⟩;exact(hg.block w.heap.size (by omega) (row_ne_low h.row (Nat.lt_succ_self w.heap.size))).trans ((heap_alloc_old W ob hlt).trans h.box)
theorem aoP{q:Option Addr}{cap:Nat}{A:M}(c:Af)(hcg:c.gone=false)(h:AP w 0 (.slice q A.length cap) A)(hu:Up A)(hl:A.length≤1000000):
  Calls prog 76 #[.slice q A.length cap,.agg #[.string (bs c.name),.string (bs c.data)],.bool false] w fun e w'=>∃ v,e=.returned v∧AP w' w.heap.size v (Af.on A c)∧Bw w w':=by
 obtain⟨i0,hi0,hz0,hz1,hz2⟩:=Cz LU;have HR:=Hi h;have HE:=Hi (aak (c:=c) hu);have EC:=Hi (Am w (.cells #[.string (bs c.name),.string (bs c.data)] 75));have Rc:=Hi (Aq w (.cells #[.string (bs c.name),.string (bs c.data)] 75));obtain⟨gn,hgn⟩:∃ g:Bool,g=false:=⟨_,rfl⟩;rw[hcg,←hgn] at HE;rw[←hgn];have HGN:=Hi hgn;clear h hu hgn;go_enter func76,ntmps76;go_wp2_with fail
 go_loopw [7,8,9] (fun ov dv i wr=>∃ (k m:Nat) (o:M) (d:Bool),k≤A.length∧o.length=m∧m≤2*k∧i=.int .i64 (k:Int)∧dv=.bool d∧o++putL c d (A.drop k)=putL c gn A∧U2 w wr ov m o c gn)
  (fun _ _ i _=>A.length -(intOf i).toNat)
 case atStart=>exact⟨0,0,[],gn,Ar _,rfl,Ar _,rfl,rfl,by rw[List.drop_zero];rfl,⟨by rw[LQ];exact DJ _ _ _ _,EC,Rc⟩⟩
 case round=>
  obtain⟨k,m,o,d,hk,Yv,hm2,rfl,rfl,hpl,hst⟩:=hrel;obtain⟨oq,Fj,rfl⟩:=AA hst.row;have EF:=Hi hst;have J8:=Hi Yv;clear EC Rc Yv;by_cases hlt:k < A.length
  ·obtain⟨p,au8,hp0,hp1⟩:=(Rz (AL HR (ub hst.Ao) (fun _ _ f=>f)) hlt)
   have HP:=Hi (fun(W:World) (hW:Bw w W)=>(show W.cell? p=some (.string (bs A[k].1))∧W.cell? ⟨p.block,p.off+1,none⟩=some (.string (bs A[k].2)) from by
    obtain⟨p',eB,qz,azG⟩:=(Rz (AL HR (ub hW) (fun _ _ f=>f)) hlt);have e:=au8 W;rw[eB W] at e;injection e with e
    injection e with e
    injection e with e
    subst e;exact⟨qz,azG⟩))
   obtain⟨b0,b1⟩:=Jv hst.box;have hd:=Na hlt;rw[hd,ads] at hpl;obtain⟨x1,hx1⟩:=ex (A[k].1);obtain⟨x2,hx2⟩:=ex (A[k].2);rw[show A[k]=(x1,x2) from Prod.ext hx1 hx2] at hpl;rw[hx1] at hp0 HP;rw[hx2] at hp1 HP;have GN:=Hi hpl;clear hd hx1 hx2 hpl hst;by_cases h1:x1 < c.name
   ·
    cases d with
    |false=>
     have hbl:Op.bytesLess x1 c.name=true:=(by rw[Go.Proofs.bytesLess_eq];simpa using h1);have hne:(x1 == c.name)=false:=(by simpa using I1 h1);have HN:=Hi (show(o++[(x1,x2)])++putL c false (A.drop (k+1))=putL c gn A by rw[←GN.out];simp[h1,I1 h1]);clear h1;go_wp2_with fail;go_region;have Bb:=Hi EF.drew;clear b0 b1 hp0 hp1;generalize wr.drew=W1 at Bb ⊢;obtain⟨b0,b1⟩:=Jv Bb.box;obtain⟨p0,p1⟩:=HP _ Bb.Ao;go_wp2_with fail;go_region;have HS2:=Hi Bb.drew;clear b0 b1 p0 p1;generalize W1.drew=W2 at HS2 ⊢;obtain⟨b0,b1⟩:=Jv HS2.box;obtain⟨p0,p1⟩:=HP _ HS2.Ao;go_wp2_with (at_builtin;refine wpList_append_own_at _ rfl _ _ 22 rfl (w.heap.size+1) 75 i0 _ 2 32 underlying22 hi0 hz0 hz1 hz2 rfl (by decide) (.slice oq m Fj) m _ rfl (HS2.row.alloc _) ⟨W2.heap.size,0,none⟩ 1 1 [.string (bs x1),.string (bs x2)] rfl rfl (by intro j u hj;rw[add_plain,CV];exact(CB▸hj)) (by simp[Value.oneCell']) (by unfold maxLen;omega) (by omega) (by rw[Ai];have:=Ae HS2.box;omega) ?_;intro v2 w2 ho2 hg2 _ _;obtain⟨g2,cap2,rfl⟩:=ownsRow_succ ho2;have HT2:=Hi (HS2.add hg2 ho2);clear ho2 hg2);go_roundw
     case rel=>exact⟨k+1,m+1,o++[(x1,x2)],false,by omega,by simp[J8.out],by omega,by go_num,rfl,HN,HT2⟩
     case measure=>simp[intOf];omega
    |true=>
     have hbl:Op.bytesLess x1 c.name=true:=(by rw[Go.Proofs.bytesLess_eq];simpa using h1);have hne:(x1 == c.name)=false:=(by simpa using I1 h1);have HN:=Hi (show(o++[(x1,x2)])++putL c true (A.drop (k+1))=putL c gn A by rw[←GN.out];simp[h1,I1 h1]);clear h1;go_wp2_with fail;go_region;have Bb:=Hi EF.drew;clear b0 b1 hp0 hp1;generalize wr.drew=W1 at Bb ⊢;obtain⟨b0,b1⟩:=Jv Bb.box;obtain⟨p0,p1⟩:=HP _ Bb.Ao;go_wp2_with fail;go_region;have HS2:=Hi Bb.drew;clear b0 b1 p0 p1;generalize W1.drew=W2 at HS2 ⊢;obtain⟨b0,b1⟩:=Jv HS2.box;obtain⟨p0,p1⟩:=HP _ HS2.Ao;go_wp2_with (at_builtin;refine wpList_append_own_at _ rfl _ _ 22 rfl (w.heap.size+1) 75 i0 _ 2 32 underlying22 hi0 hz0 hz1 hz2 rfl (by decide) (.slice oq m Fj) m _ rfl (HS2.row.alloc _) ⟨W2.heap.size,0,none⟩ 1 1 [.string (bs x1),.string (bs x2)] rfl rfl (by intro j u hj;rw[add_plain,CV];exact(CB▸hj)) (by simp[Value.oneCell']) (by unfold maxLen;omega) (by omega) (by rw[Ai];have:=Ae HS2.box;omega) ?_;intro v2 w2 ho2 hg2 _ _;obtain⟨g2,cap2,rfl⟩:=ownsRow_succ ho2;have HT2:=Hi (HS2.add hg2 ho2);clear ho2 hg2);go_roundw
     case rel=>exact⟨k+1,m+1,o++[(x1,x2)],true,by omega,by simp[J8.out],by omega,by go_num,rfl,HN,HT2⟩
     case measure=>simp[intOf];omega
   ·by_cases h2:x1=c.name
    ·
     cases d with
     |false=>
      have hbl:Op.bytesLess x1 c.name=false:=(by rw[Go.Proofs.bytesLess_eq];simpa using h1);have hne:(x1 == c.name)=true:=(by simpa using h2);have HN:=Hi (show(o++[(c.name,c.data)])++putL c true (A.drop (k+1))=putL c gn A by rw[←GN.out];simp[h2,Mk]);clear h1 h2;go_wp2_with fail;go_region;have Bb:=Hi EF.drew;clear b0 b1 hp0 hp1;generalize wr.drew=W1 at Bb ⊢;obtain⟨b0,b1⟩:=Jv Bb.box;obtain⟨p0,p1⟩:=HP _ Bb.Ao;go_wp2_with (at_builtin;refine wpList_append_own_at _ rfl _ _ 22 rfl (w.heap.size+1) 75 i0 _ 2 32 underlying22 hi0 hz0 hz1 hz2 rfl (by decide) (.slice oq m Fj) m _ rfl (Bb.row.alloc _) ⟨W1.heap.size,0,none⟩ 1 1 [.string (bs c.name),.string (bs c.data)] rfl rfl (by intro j u hj;rw[add_plain,CV];exact(CB▸hj)) (by simp[Value.oneCell']) (by unfold maxLen;omega) (by omega) (by rw[Ai];have:=Ae Bb.box;omega) ?_;intro v1 w1 ho1 hg1 _ _;obtain⟨g1,Qg,rfl⟩:=ownsRow_succ ho1;have HT1:=Hi (Bb.add hg1 ho1);clear ho1 hg1);have HS2:=Hi HT1.drew;obtain⟨e0,e1⟩:=Jv HT1.box;obtain⟨r0,r1⟩:=HP _ HT1.Ao;go_wp2_with fail;go_region;clear b0 b1 p0 p1 e0 e1 r0 r1;generalize w1.drew=W2 at HS2 ⊢;obtain⟨b0,b1⟩:=Jv HS2.box;obtain⟨p0,p1⟩:=HP _ HS2.Ao;go_wp2_with fail;go_roundw
      case rel=>exact⟨k+1,m+1,o++[(c.name,c.data)],true,by omega,by simp[J8.out],by omega,by go_num,rfl,HN,HS2⟩
      case measure=>simp[intOf];omega
     |true=>
      have hbl:Op.bytesLess x1 c.name=false:=(by rw[Go.Proofs.bytesLess_eq];simpa using h1);have hne:(x1 == c.name)=true:=(by simpa using h2);have HN:=Hi (show(o)++putL c true (A.drop (k+1))=putL c gn A by rw[←GN.out];simp[h2]);clear h1 h2;go_wp2_with fail;go_region;have Bb:=Hi EF.drew;clear b0 b1 hp0 hp1;generalize wr.drew=W1 at Bb ⊢;obtain⟨b0,b1⟩:=Jv Bb.box;obtain⟨p0,p1⟩:=HP _ Bb.Ao;go_wp2_with fail;go_region;have HS2:=Hi Bb.drew;clear b0 b1 p0 p1;generalize W1.drew=W2 at HS2 ⊢;obtain⟨b0,b1⟩:=Jv HS2.box;obtain⟨p0,p1⟩:=HP _ HS2.Ao;go_wp2_with fail;go_roundw
      case rel=>exact⟨k+1,m,o,true,by omega,by simp[J8.out],by omega,by go_num,rfl,HN,HS2⟩
      case measure=>simp[intOf];omega
    ·
     cases d with
     |false=>
      have hbl:Op.bytesLess x1 c.name=false:=(by rw[Go.Proofs.bytesLess_eq];simpa using h1);have hne:(x1 == c.name)=false:=(by simpa using h2);have HN:=Hi (show((o++[(c.name,c.data)])++[(x1,x2)])++putL c true (A.drop (k+1))=putL c gn A by rw[←GN.out];simp[h1,h2]);clear h1 h2;go_wp2_with fail;go_region;have Bb:=Hi EF.drew;clear b0 b1 hp0 hp1;generalize wr.drew=W1 at Bb ⊢;obtain⟨b0,b1⟩:=Jv Bb.box;obtain⟨p0,p1⟩:=HP _ Bb.Ao;go_wp2_with (at_builtin;refine wpList_append_own_at _ rfl _ _ 22 rfl (w.heap.size+1) 75 i0 _ 2 32 underlying22 hi0 hz0 hz1 hz2 rfl (by decide) (.slice oq m Fj) m _ rfl (Bb.row.alloc _) ⟨W1.heap.size,0,none⟩ 1 1 [.string (bs c.name),.string (bs c.data)] rfl rfl (by intro j u hj;rw[add_plain,CV];exact(CB▸hj)) (by simp[Value.oneCell']) (by unfold maxLen;omega) (by omega) (by rw[Ai];have:=Ae Bb.box;omega) ?_;intro v1 w1 ho1 hg1 _ _;obtain⟨g1,Qg,rfl⟩:=ownsRow_succ ho1;have HT1:=Hi (Bb.add hg1 ho1);clear ho1 hg1);have HS2:=Hi HT1.drew;obtain⟨e0,e1⟩:=Jv HT1.box;obtain⟨r0,r1⟩:=HP _ HT1.Ao;go_wp2_with fail;go_region;clear b0 b1 p0 p1 e0 e1 r0 r1;generalize w1.drew=W2 at HS2 ⊢;obtain⟨b0,b1⟩:=Jv HS2.box;obtain⟨p0,p1⟩:=HP _ HS2.Ao
      go_wp2_with (at_builtin;refine wpList_append_own_at _ rfl _ _ 22 rfl (w.heap.size+1) 75 i0 _ 2 32 underlying22 hi0 hz0 hz1 hz2 rfl (by decide) (.slice (some ⟨g1,0,none⟩) (m+1) Qg) (m+1) _ rfl (HS2.row.alloc _) ⟨W2.heap.size,0,none⟩ 1 1 [.string (bs x1),.string (bs x2)] rfl rfl (by intro j u hj;rw[add_plain,CV];exact(CB▸hj)) (by simp[Value.oneCell']) (by unfold maxLen;omega) (by omega) (by rw[Ai];have:=Ae HS2.box;omega) ?_;intro v2 w2 ho2 hg2 _ _;obtain⟨g2,cap2,rfl⟩:=ownsRow_succ ho2;have HT2:=Hi (HS2.add hg2 ho2);clear ho2 hg2);go_roundw
      case rel=>exact⟨k+1,m+1+1,(o++[(c.name,c.data)])++[(x1,x2)],true,by omega,by simp[J8.out],by omega,by go_num,rfl,HN,HT2⟩
      case measure=>simp[intOf];omega
     |true=>
      have hbl:Op.bytesLess x1 c.name=false:=(by rw[Go.Proofs.bytesLess_eq];simpa using h1);have hne:(x1 == c.name)=false:=(by simpa using h2);have HN:=Hi (show(o++[(x1,x2)])++putL c true (A.drop (k+1))=putL c gn A by rw[←GN.out];simp[h2]);clear h1 h2;go_wp2_with fail;go_region;have Bb:=Hi EF.drew;clear b0 b1 hp0 hp1;generalize wr.drew=W1 at Bb ⊢;obtain⟨b0,b1⟩:=Jv Bb.box;obtain⟨p0,p1⟩:=HP _ Bb.Ao;go_wp2_with fail;go_region;have HS2:=Hi Bb.drew;clear b0 b1 p0 p1;generalize W1.drew=W2 at HS2 ⊢;obtain⟨b0,b1⟩:=Jv HS2.box;obtain⟨p0,p1⟩:=HP _ HS2.Ao;go_wp2_with (at_builtin;refine wpList_append_own_at _ rfl _ _ 22 rfl (w.heap.size+1) 75 i0 _ 2 32 underlying22 hi0 hz0 hz1 hz2 rfl (by decide) (.slice oq m Fj) m _ rfl (HS2.row.alloc _) ⟨W2.heap.size,0,none⟩ 1 1 [.string (bs x1),.string (bs x2)] rfl rfl (by intro j u hj;rw[add_plain,CV];exact(CB▸hj)) (by simp[Value.oneCell']) (by unfold maxLen;omega) (by omega) (by rw[Ai];have:=Ae HS2.box;omega) ?_;intro v2 w2 ho2 hg2 _ _;obtain⟨g2,cap2,rfl⟩:=ownsRow_succ ho2;have HT2:=Hi (HS2.add hg2 ho2);clear ho2 hg2);go_roundw
      case rel=>exact⟨k+1,m+1,o++[(x1,x2)],true,by omega,by simp[J8.out],by omega,by go_num,rfl,HN,HT2⟩
      case measure=>simp[intOf];omega
  ·obtain rfl:k=A.length:=(by omega);rw[List.drop_length] at hpl;obtain⟨b0,b1⟩:=Jv hst.box;clear hst;cases d with
   |false=>
    have HN:=Hi (show o++[(c.name,c.data)]=Af.on A c by rw[←HE.out,←hpl];rfl);clear hpl;go_wp2_with (at_builtin;refine wpList_append_own_at _ rfl _ _ 22 rfl (w.heap.size+1) 75 i0 _ 2 32 underlying22 hi0 hz0 hz1 hz2 rfl (by decide) (.slice oq m Fj) m _ rfl (EF.row.alloc _) ⟨wr.heap.size,0,none⟩ 1 1 [.string (bs c.name),.string (bs c.data)] rfl rfl (by intro j u hj;rw[add_plain,CV];exact(CB▸hj)) (by simp[Value.oneCell']) (by unfold maxLen;omega) (by omega) (by rw[Ai];have:=Ae EF.box;omega) ?_;intro v0 w0 ho0 hg0 _ _;obtain⟨g0,cap0,rfl⟩:=ownsRow_succ ho0;have HT0:=Hi (EF.add hg0 ho0);clear ho0 hg0);go_ret;refine⟨_,rfl,?_,HT0.Ao⟩;rw[←HN.out];unfold AP;rw[Aj,J8.out];exact Da HT0.row (by omega)
   |true=>
    have HN:=Hi (show o=Af.on A c by rw[←HE.out,←hpl];exact(E8 o).symm);clear hpl;go_wp2_with fail;go_ret;refine⟨_,rfl,?_,EF.Ao⟩;rw[←HN.out];unfold AP;rw[J8.out];exact Da EF.row (by omega)
end
end Mem
section
open Go.RowKit Go.Maps
theorem tkU{P:Program}{ops:Array Oper}{Q:Exit→Act→World→Prop}{md:Region.Mode}{S:World→Prop}(i:Nat)(oi:Oper){fuel:Nat}{listed:Array Bool}{a:Act}{w:World}(hS:S w)(h:wpAnyH P md ops Q S fuel (listed.setIfInBounds i true) (a.put oi.dst undef) w)(hi:ops[i]?=some oi:=by rfl)(hs:Region.noSelect ops=true:=by kernel_rfl)(hf:Region.free md ops listed i=true:=by kernel_rfl)(hr:(Region.ready md ops listed).contains i=true:=by kernel_rfl)(hQ:∀ c a w,Q (.panic c) (a.put oi.dst undef) w→Q (.panic c) a w:=by exact fun _ _ _ h=>h)(hw:Region.wanted oi (yielded ops a.tmps)=false:=by rfl):wpAnyH P md ops Q S (fuel+1) listed a w:=
 wpAnyH_take hi hs hf hr hQ (Or.inr ⟨hw,rfl⟩) hS h
end
namespace Mem
open Go.RowKit Go.Maps
open Wal Fil Man Prs Kp BH Hex Sha
def qH(w:World)(q:Option Addr)(cap:Nat)(l:M)(i:Value)(wr:World):Prop:=∃ k:Nat,k≤l.length∧i=.int .i64 k∧Bw w wr∧AP wr w.heap.size (.slice q l.length cap) l
theorem aoQ(name data:T)(l:M)(h:A9.Cn name data=some l)(w:World)(hd:data.length≤1000000):Calls prog 155 #[.string (bs name),.string (bs data)] w fun e w'=>∃ q cap,e=.returned (.tuple #[.slice q l.length cap,.bool true])∧AP w' w.heap.size (.slice q l.length cap) l∧(q=none→cap=0)∧Bw w w':=by
 have hsh:=(Vs h).2;obtain⟨hne,hup,hnm,s,hps,hse⟩:=KR h;have hop:Crc.Dj data=(s,0):=by rw[hse];exact Crc.fM s
 have hsl:s.length≤1000000:=by
  have:data.length=s.length+4:=by rw[hse];unfold Crc.Du;rw[Aj,Crc.Be]
  omega
 have HO:=Hi (sK data w (by omega));rw[hop] at HO;have HG:=Hi (fun(W:World)=>adz s l (aH hps (BN.LM hup)) W (by omega));have Gb:=Hi (fun p hp=>(hnm p hp).1);have Dy:=Hi hup;have MK:=Hi hsh;have hlz:((l.length:Int) == 0)=false:=Fq.2 (fun e=>hne (IL.1 (by omega)));have hll:l.length≤65535:=(Vs h).1;clear h hop hps hse hup hnm hne hsh;go_enter func155,ntmps155;go_wp2_with fail;refine HO.mono ?_;rintro e w1⟨rfl,hb1⟩;have HB1:=Hi hb1;clear hb1;go_wp2_with fail;refine(HG _).mono ?_;rintro e w2⟨v,rfl,hr2,hb2⟩;obtain⟨q,cap,rfl,hq,hc⟩:=Dl hr2;have HR2:=Hi (Da hr2 HB1.size);have HB2:=Hi (HB1.trans (hb2.mono HB1.size));have HQ:=Hi hq;clear hr2 hb2 hq hc;go_wp2_with fail
 go_loopw [9] (fun i wr=>qH w q cap l i wr) (fun i _=>l.length -(intOf i).toNat)
 case atStart=>exact⟨0,Ar _,rfl,HB2,HR2⟩
 case round=>
  obtain⟨k,hkl,rfl,hb,hr⟩:=hrel;have HB:=Hi hb;have HR:=Hi hr;clear hb hr HB2 HR2;by_cases hlt:k < l.length
  ·obtain⟨a,hix,c0,-⟩:=Rz HR hlt;have hk1:=(MK _ (BF hlt)).1;have hnk:=Gb _ (BF hlt);by_cases hk0:k=0
   ·subst hk0;generalize l[0]=x at*;have HN:=Hi (fun(W:World)=>qG x.1 W (by omega));rw[hnk] at HN;have Tk:∀ W,(Instr.indexAt 22 (.slice q l.length cap) (.int .i64 0)).run prog W=.ok (.pointer (some a)) W:=hix;have HC:=Hi (fun(V:World) (hb:Bw wr V)=>(hb.cell (Bz c0)).trans c0);clear hix c0 hnk;go_wp2_with fail;have HS:=Hi (fun(V:World) (hb:Bw wr V)=>(show(fun V:World=>V.cell? a=some (.string (bs x.1))) V from HC V hb));refine wp_region_held (S:=(fun V:World=>V.cell? a=some (.string (bs x.1)))) (by kernel_rfl) ?_;have BR:=Hi ((Ad wr.heap.size wr).drew);refine tkH 0 ⟨some 35,.move (.tmp 8),22,"ref.go:44",#[],none⟩ (HS _ BR) ?_;try simp only[Act.put,np]
    refine tkH 1 ⟨some 36,.move (.tmp 9),3,"ref.go:44",#[],none⟩ (HS _ BR) ?_;try simp only[Act.put,np]
    refine tkH 2 ⟨some 37,.indexAddr 22 (.tmp 35) (.tmp 36),0,"ref.go:44",#[⟨0,.data⟩,⟨1,.data⟩],none⟩ (HS _ BR) ?_;try simp only[Act.put,np]
    refine tkH 3 ⟨some 38,.fieldAddr 75 (.tmp 37) 0,0,"ref.go:44",#[⟨2,.data⟩],none⟩ (HS _ BR) ?_;try simp only[Act.put,np]
    refine tkH 4 ⟨some 39,.load 9 (.tmp 38),9,"ref.go:44",#[⟨3,.data⟩],none⟩ (HS _ BR) ?_;try simp only[Act.put,np]
    refine tkH 6 ⟨some 41,.move (.tmp 0),9,"ref.go:44",#[],none⟩ (HS _ BR) ?_;try simp only[Act.put,np]
    refine GH (i:=5) (o:=⟨some 40,.call ⟨.value (.func 73),#[.tmp 39],#[9]⟩,9,"ref.go:44",#[⟨4,.data⟩],none⟩) (by kernel_rfl) rfl (fun K1 hK1=>?_);go_simp;refine(HN _).mono ?_;rintro e wA⟨rfl,Cv⟩;have Ag:=Hi (show Bw wr wA from BR.trans (Cv.mono (Ab _)));clear Cv;refine hK1 _ _ (HS _ Ag) ?_;try simp only[Act.put,np]
    refine tkH 7 ⟨some 42,.binOp .neq 9 (.tmp 40) (.tmp 41) 9,4,"ref.go:44",#[⟨5,.data⟩,⟨6,.data⟩],none⟩ (HS _ Ag) ?_;try simp only[Act.put,np]
    refine tkH 8 ⟨some 43,.move (.tmp 42),4,"ref.go:44",#[⟨7,.data⟩,⟨5,.chain⟩],none⟩ (HS _ Ag) ?_;try simp only[Act.put,np]
    refine tkH 9 ⟨some 44,.move (.tmp 9),3,"ref.go:44",#[⟨8,.guard⟩],some (8,false)⟩ (HS _ Ag) ?_;try simp only[Act.put,np]
    refine tkH 10 ⟨some 45,.binOp .gtr 3 (.tmp 44) (.const (.int .i64 0)) 3,4,"ref.go:44",#[⟨9,.data⟩,⟨8,.guard⟩],some (8,false)⟩ (HS _ Ag) ?_;try simp only[Act.put,np]
    refine tkH 11 ⟨some 46,.move (.tmp 45),4,"ref.go:44",#[⟨10,.data⟩,⟨8,.chain⟩,⟨8,.guard⟩],some (8,false)⟩ (HS _ Ag) ?_;try simp only[Act.put,np]
    refine tkU 12 ⟨some 47,.move (.tmp 8),22,"ref.go:44",#[⟨11,.guard⟩],some (11,true)⟩ (HS _ Ag) ?_;try simp only[Act.put,np]
    refine tkU 13 ⟨some 48,.move (.tmp 9),3,"ref.go:44",#[⟨11,.guard⟩],some (11,true)⟩ (HS _ Ag) ?_;try simp only[Act.put,np]
    refine tkU 14 ⟨some 49,.binOp .sub 3 (.tmp 48) (.const (.int .i64 1)) 3,3,"ref.go:44",#[⟨13,.data⟩,⟨11,.guard⟩],some (11,true)⟩ (HS _ Ag) ?_;try simp only[Act.put,np]
    refine tkU 15 ⟨some 50,.indexAddr 22 (.tmp 47) (.tmp 49),0,"ref.go:44",#[⟨12,.data⟩,⟨14,.data⟩,⟨11,.guard⟩],some (11,true)⟩ (HS _ Ag) ?_;try simp only[Act.put,np]
    refine tkU 16 ⟨some 51,.fieldAddr 75 (.tmp 50) 0,0,"ref.go:44",#[⟨15,.data⟩,⟨11,.guard⟩],some (11,true)⟩ (HS _ Ag) ?_;try simp only[Act.put,np]
    refine tkU 17 ⟨some 52,.load 9 (.tmp 51),9,"ref.go:44",#[⟨16,.data⟩,⟨11,.guard⟩],some (11,true)⟩ (HS _ Ag) ?_;try simp only[Act.put,np]
    refine tkU 18 ⟨some 53,.move (.tmp 8),22,"ref.go:44",#[⟨11,.guard⟩],some (11,true)⟩ (HS _ Ag) ?_;try simp only[Act.put,np]
    refine tkU 19 ⟨some 54,.move (.tmp 9),3,"ref.go:44",#[⟨11,.guard⟩],some (11,true)⟩ (HS _ Ag) ?_;try simp only[Act.put,np]
    refine tkU 20 ⟨some 55,.indexAddr 22 (.tmp 53) (.tmp 54),0,"ref.go:44",#[⟨18,.data⟩,⟨19,.data⟩,⟨11,.guard⟩],some (11,true)⟩ (HS _ Ag) ?_;try simp only[Act.put,np]
    refine tkU 21 ⟨some 56,.fieldAddr 75 (.tmp 55) 0,0,"ref.go:44",#[⟨20,.data⟩,⟨11,.guard⟩],some (11,true)⟩ (HS _ Ag) ?_;try simp only[Act.put,np]
    refine tkU 22 ⟨some 57,.load 9 (.tmp 56),9,"ref.go:44",#[⟨21,.data⟩,⟨11,.guard⟩],some (11,true)⟩ (HS _ Ag) ?_;try simp only[Act.put,np]
    refine tkU 23 ⟨some 58,.binOp .eql 9 (.tmp 52) (.tmp 57) 9,4,"ref.go:44",#[⟨17,.data⟩,⟨22,.data⟩,⟨11,.guard⟩],some (11,true)⟩ (HS _ Ag) ?_;try simp only[Act.put,np]
    refine tkH 24 ⟨some 59,.pick (.tmp 46) (.tmp 58) (.const (.bool false)),4,"ref.go:44",#[⟨11,.data⟩,⟨23,.data⟩,⟨8,.guard⟩],some (8,false)⟩ (HS _ Ag) ?_;try simp only[Act.put,np]
    refine tkH 25 ⟨some 60,.pick (.tmp 43) (.const (.bool true)) (.tmp 59),4,"ref.go:44",#[⟨8,.data⟩,⟨24,.data⟩],none⟩ (HS _ Ag) ?_;try simp only[Act.put,np]
    refine wpAnyH_done (by kernel_rfl) ?_ _;clear hK1 K1;have Ca:=Hi (show qH w q cap l (.int .i64 1) wA from⟨1,by omega,rfl,HB.trans (Ag.mono HB.size),Bp HR Ag⟩);go_wp2_with fail;go_roundw
    case rel=>exact Ca.out
    case measure=>show l.length -(1:Int).toNat < l.length -(0:Int).toNat;omega
   ·obtain⟨a',azB,c1,-⟩:=Rz HR (show k -1 < l.length by omega);have avV:IntKind.i64.wrap ((k:Int) -1)=((k -1:Nat):Int):=(by rw[CZ _ (by omega)];omega);have hgt:(0:Int) < (k:Int):=(by omega);have awd:0 < k:=(by omega);have hne:((l[k -1]'(by omega)).1 == l[k].1)=false:=by
     have h1:=List.pairwise_iff_getElem.1 Dy (k -1) k (by omega) hlt (by omega);exact Fq.2 (fun e=>by rw[e] at h1;exact Mk _ h1)
    obtain⟨y,hy⟩:=ex (l[k -1]'(by omega));obtain⟨x,hx⟩:=ex (l[k]);rw[hy] at c1 hne;rw[hx] at c0 hk1 hnk hne;have HN:=Hi (fun(W:World)=>qG x.1 W (by omega));rw[hnk] at HN;have HC:=Hi (fun(V:World) (hb:Bw wr V)=>BD ((hb.cell (Bz c0)).trans c0) ((hb.cell (Bz c1)).trans c1));clear c0 c1 hnk hx hy;go_wp2_with fail;have HS:=Hi (fun(V:World) (hb:Bw wr V)=>(show(fun V:World=>V.cell? a=some (.string (bs x.1))∧V.cell? a'=some (.string (bs y.1))) V from HC V hb));refine wp_region_held (S:=(fun V:World=>V.cell? a=some (.string (bs x.1))∧V.cell? a'=some (.string (bs y.1)))) (by kernel_rfl) ?_;have BR:=Hi ((Ad wr.heap.size wr).drew);refine tkH 0 ⟨some 35,.move (.tmp 8),22,"ref.go:44",#[],none⟩ (HS _ BR) ?_;try simp only[Act.put,np]
    refine tkH 1 ⟨some 36,.move (.tmp 9),3,"ref.go:44",#[],none⟩ (HS _ BR) ?_;try simp only[Act.put,np]
    refine tkH 2 ⟨some 37,.indexAddr 22 (.tmp 35) (.tmp 36),0,"ref.go:44",#[⟨0,.data⟩,⟨1,.data⟩],none⟩ (HS _ BR) ?_;try simp only[Act.put,np]
    refine tkH 3 ⟨some 38,.fieldAddr 75 (.tmp 37) 0,0,"ref.go:44",#[⟨2,.data⟩],none⟩ (HS _ BR) ?_;try simp only[Act.put,np]
    refine tkH 4 ⟨some 39,.load 9 (.tmp 38),9,"ref.go:44",#[⟨3,.data⟩],none⟩ (HS _ BR) ?_;try simp only[Act.put,np]
    refine tkH 6 ⟨some 41,.move (.tmp 0),9,"ref.go:44",#[],none⟩ (HS _ BR) ?_;try simp only[Act.put,np]
    refine GH (i:=5) (o:=⟨some 40,.call ⟨.value (.func 73),#[.tmp 39],#[9]⟩,9,"ref.go:44",#[⟨4,.data⟩],none⟩) (by kernel_rfl) rfl (fun K1 hK1=>?_);go_simp;refine(HN _).mono ?_;rintro e wA⟨rfl,Cv⟩;have Ag:=Hi (show Bw wr wA from BR.trans (Cv.mono (Ab _)));clear Cv;refine hK1 _ _ (HS _ Ag) ?_;try simp only[Act.put,np]
    refine tkH 7 ⟨some 42,.binOp .neq 9 (.tmp 40) (.tmp 41) 9,4,"ref.go:44",#[⟨5,.data⟩,⟨6,.data⟩],none⟩ (HS _ Ag) ?_;try simp only[Act.put,np]
    refine tkH 8 ⟨some 43,.move (.tmp 42),4,"ref.go:44",#[⟨7,.data⟩,⟨5,.chain⟩],none⟩ (HS _ Ag) ?_;try simp only[Act.put,np]
    refine tkH 9 ⟨some 44,.move (.tmp 9),3,"ref.go:44",#[⟨8,.guard⟩],some (8,false)⟩ (HS _ Ag) ?_;try simp only[Act.put,np]
    refine tkH 10 ⟨some 45,.binOp .gtr 3 (.tmp 44) (.const (.int .i64 0)) 3,4,"ref.go:44",#[⟨9,.data⟩,⟨8,.guard⟩],some (8,false)⟩ (HS _ Ag) ?_;try simp only[Act.put,np]
    refine tkH 11 ⟨some 46,.move (.tmp 45),4,"ref.go:44",#[⟨10,.data⟩,⟨8,.chain⟩,⟨8,.guard⟩],some (8,false)⟩ (HS _ Ag) ?_;try simp only[Act.put,np]
    refine tkH 12 ⟨some 47,.move (.tmp 8),22,"ref.go:44",#[⟨11,.guard⟩],some (11,true)⟩ (HS _ Ag) ?_;try simp only[Act.put,np]
    refine tkH 13 ⟨some 48,.move (.tmp 9),3,"ref.go:44",#[⟨11,.guard⟩],some (11,true)⟩ (HS _ Ag) ?_;try simp only[Act.put,np]
    refine tkH 14 ⟨some 49,.binOp .sub 3 (.tmp 48) (.const (.int .i64 1)) 3,3,"ref.go:44",#[⟨13,.data⟩,⟨11,.guard⟩],some (11,true)⟩ (HS _ Ag) ?_;try simp only[Act.put,np]
    refine tkH 15 ⟨some 50,.indexAddr 22 (.tmp 47) (.tmp 49),0,"ref.go:44",#[⟨12,.data⟩,⟨14,.data⟩,⟨11,.guard⟩],some (11,true)⟩ (HS _ Ag) ?_;try simp only[Act.put,np]
    refine tkH 16 ⟨some 51,.fieldAddr 75 (.tmp 50) 0,0,"ref.go:44",#[⟨15,.data⟩,⟨11,.guard⟩],some (11,true)⟩ (HS _ Ag) ?_;try simp only[Act.put,np]
    refine tkH 17 ⟨some 52,.load 9 (.tmp 51),9,"ref.go:44",#[⟨16,.data⟩,⟨11,.guard⟩],some (11,true)⟩ (HS _ Ag) ?_;try simp only[Act.put,np]
    refine tkH 18 ⟨some 53,.move (.tmp 8),22,"ref.go:44",#[⟨11,.guard⟩],some (11,true)⟩ (HS _ Ag) ?_;try simp only[Act.put,np]
    refine tkH 19 ⟨some 54,.move (.tmp 9),3,"ref.go:44",#[⟨11,.guard⟩],some (11,true)⟩ (HS _ Ag) ?_;try simp only[Act.put,np]
    refine tkH 20 ⟨some 55,.indexAddr 22 (.tmp 53) (.tmp 54),0,"ref.go:44",#[⟨18,.data⟩,⟨19,.data⟩,⟨11,.guard⟩],some (11,true)⟩ (HS _ Ag) ?_;try simp only[Act.put,np]
    refine tkH 21 ⟨some 56,.fieldAddr 75 (.tmp 55) 0,0,"ref.go:44",#[⟨20,.data⟩,⟨11,.guard⟩],some (11,true)⟩ (HS _ Ag) ?_;try simp only[Act.put,np]
    refine tkH 22 ⟨some 57,.load 9 (.tmp 56),9,"ref.go:44",#[⟨21,.data⟩,⟨11,.guard⟩],some (11,true)⟩ (HS _ Ag) ?_;try simp only[Act.put,np]
    refine tkH 23 ⟨some 58,.binOp .eql 9 (.tmp 52) (.tmp 57) 9,4,"ref.go:44",#[⟨17,.data⟩,⟨22,.data⟩,⟨11,.guard⟩],some (11,true)⟩ (HS _ Ag) ?_;try simp only[Act.put,np]
    refine tkH 24 ⟨some 59,.pick (.tmp 46) (.tmp 58) (.const (.bool false)),4,"ref.go:44",#[⟨11,.data⟩,⟨23,.data⟩,⟨8,.guard⟩],some (8,false)⟩ (HS _ Ag) ?_;try simp only[Act.put,np]
    refine tkH 25 ⟨some 60,.pick (.tmp 43) (.const (.bool true)) (.tmp 59),4,"ref.go:44",#[⟨8,.data⟩,⟨24,.data⟩],none⟩ (HS _ Ag) ?_;try simp only[Act.put,np]
    refine wpAnyH_done (by kernel_rfl) ?_ _;clear hK1 K1;have Ca:=Hi (show qH w q cap l (.int .i64 ((k:Int)+1)) wA from⟨k+1,by omega,by go_num,HB.trans (Ag.mono HB.size),Bp HR Ag⟩);go_wp2_with fail;go_roundw
    case rel=>exact Ca.out
    case measure=>
     show l.length -((k:Int)+1).toNat < l.length -((k:Int)).toNat
     omega
  ·obtain rfl:k=l.length:=(by omega);go_wp2_with fail;go_ret2;exact⟨q,cap,rfl,HR,HQ,HB⟩
end Mem
end Go.Proofs.YtmbbhdebddbhoaaGreat
