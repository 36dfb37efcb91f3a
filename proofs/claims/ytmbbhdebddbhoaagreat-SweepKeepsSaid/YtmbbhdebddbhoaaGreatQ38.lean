/- RefPut RefCom RefCommit RPrs -/
import Derived.Test.YtmbbhdebddbhoaaGreatQ37
set_option maxHeartbeats 4000000
set_option maxRecDepth 100000
set_option linter.all false
namespace Go.Proofs.YtmbbhdebddbhoaaGreat
open Tryz
section
open Go.RowKit Go.Maps
open Fil Man
section
variable {w w':World}
structure Dg(w W:World)(ov:Value)(m:Nat)(o:M)(c:Af)(gn:Bool):Prop where
 row:W.ownsRow (w.heap.size+1) 249 2 ov m (Cj o)
 Ao:Bw w W
 box:W.heap[w.heap.size]?=some (.cells #[.string (bs c.name),.string (bs c.data),.bool gn] 65)
theorem Dg.drew{W:World}{ov:Value}{m:Nat}{o:M}{c:Af}{gn:Bool}(h:Dg w W ov m o c gn):Dg w W.drew ov m o c gn:=⟨h.row.drew,h.Ao.drew,h.box⟩
theorem Dg.add{W W2:World}{ov v2:Value}{m:Nat}{o:M}{c:Af}{gn:Bool}{ob:Obj}{a b:T}(h:Dg w W ov m o c gn)(hg:(W.alloc ob).grownBy W2 ov.ownBlock)(ho:W2.ownsRow (w.heap.size+1) 249 2 v2 (m+1) (Cj o++[.string (bs a),.string (bs b)])):Dg w W2 v2 (m+1) (o++[(a,b)]) c gn:=by
 have hlt:=Ae h.box;have hsz:(W.alloc ob).heap.size=W.heap.size+1:=Ai _ _;refine⟨by rw[NJ];exact ho,(h.Ao.alloc h.Ao.size ob).grown hg (by omega) (fun j hj=>by have:=CJ h.row hj;omega),?_⟩;exact(hg.block w.heap.size (by omega) (row_ne_low h.row (Nat.lt_succ_self w.heap.size))).trans ((heap_alloc_old W ob hlt).trans h.box)
theorem ads(c:Af)(d:Bool)(p:T×T)(l:M):putL c d (p :: l)=(if d=false∧¬ p.1 < c.name then[(c.name,c.data)] else[])++((if p.1=c.name then[] else[p])++putL c (d || !decide (p.1 < c.name)) l):=rfl
theorem ao8{q:Option Addr}{cap:Nat}{A:M}(c:Af)(h:Iz w 0 (.slice q A.length cap) A)(hu:Up A)(hl:A.length≤1000000):
  Calls prog 177 #[.slice q A.length cap,.agg #[.string (bs c.name),.string (bs c.data),.bool c.gone]] w fun e w'=>∃ v,e=.returned v∧Iz w' w.heap.size v (Af.on A c)∧Bw w w':=by
 obtain⟨i0,hi0,hz0,hz1,hz2⟩:=Cz akB;have HR:=Hi h;have HE:=Hi (aak (c:=c) hu);have EC:=Hi (Am w (.cells #[.string (bs c.name),.string (bs c.data),.bool c.gone] 65));have Rc:=Hi (Aq w (.cells #[.string (bs c.name),.string (bs c.data),.bool c.gone] 65));obtain⟨gn,hgn⟩:=ex (c.gone);rw[hgn] at HE EC Rc ⊢;clear h hu hgn;go_enter func177,ntmps177;go_wp2_with fail
 go_loopw [5,6,7] (fun ov dv i wr=>∃ (k m:Nat) (o:M) (d:Bool),k≤A.length∧o.length=m∧m≤2*k∧i=.int .i64 (k:Int)∧dv=.bool d∧o++putL c d (A.drop k)=putL c gn A∧Dg w wr ov m o c gn)
  (fun _ _ i _=>A.length -(intOf i).toNat)
 case atStart=>exact⟨0,0,[],gn,Ar _,rfl,Ar _,rfl,rfl,by rw[List.drop_zero];rfl,⟨by rw[LQ];exact DJ _ _ _ _,EC,Rc⟩⟩
 case round=>
  obtain⟨k,m,o,d,hk,Yv,hm2,rfl,rfl,hpl,hst⟩:=hrel;obtain⟨oq,Fj,rfl⟩:=AA hst.row;have EF:=Hi hst;have J8:=Hi Yv;clear EC Rc Yv;by_cases hlt:k < A.length
  ·obtain⟨p,au8,hp0,hp1⟩:=(Iz.index (AL HR (ub hst.Ao) (fun _ _ f=>f)) hlt)
   have HP:=Hi (fun(W:World) (hW:Bw w W)=>(show W.cell? p=some (.string (bs A[k].1))∧W.cell? ⟨p.block,p.off+1,none⟩=some (.string (bs A[k].2)) from by
    obtain⟨p',eB,qz,azG⟩:=(Iz.index (AL HR (ub hW) (fun _ _ f=>f)) hlt);have e:=au8 W;rw[eB W] at e;injection e with e
    injection e with e
    injection e with e
    subst e;exact⟨qz,azG⟩))
   obtain⟨b0,b1,b2,_,_,_⟩:=Jl hst.box;have hd:=Na hlt;rw[hd,ads] at hpl;obtain⟨x1,hx1⟩:=ex (A[k].1);obtain⟨x2,hx2⟩:=ex (A[k].2);rw[show A[k]=(x1,x2) from Prod.ext hx1 hx2] at hpl;rw[hx1] at hp0 HP;rw[hx2] at hp1 HP;have GN:=Hi hpl;clear hd hx1 hx2 hpl hst;by_cases h1:x1 < c.name
   ·
    cases d with
    |false=>
     have hbl:Op.bytesLess x1 c.name=true:=(by rw[Go.Proofs.bytesLess_eq];simpa using h1);have hne:(x1 == c.name)=false:=(by simpa using I1 h1);have HN:=Hi (show(o++[(x1,x2)])++putL c false (A.drop (k+1))=putL c gn A by rw[←GN.out];simp[h1,I1 h1]);clear h1;go_wp2_with fail;go_region;have Bb:=Hi EF.drew;clear b0 b1 b2 hp0 hp1;generalize wr.drew=W1 at Bb ⊢;obtain⟨b0,b1,b2,_,_,_⟩:=Jl Bb.box;obtain⟨p0,p1⟩:=HP _ Bb.Ao;go_wp2_with fail;go_region;have HS2:=Hi Bb.drew;clear b0 b1 b2 p0 p1;generalize W1.drew=W2 at HS2 ⊢;obtain⟨b0,b1,b2,_,_,_⟩:=Jl HS2.box;obtain⟨p0,p1⟩:=HP _ HS2.Ao;go_wp2_with (at_builtin;refine wpList_append_own_at _ rfl _ _ 142 rfl (w.heap.size+1) 249 i0 _ 2 32 underlying142 hi0 hz0 hz1 hz2 rfl (by decide) (.slice oq m Fj) m _ rfl (HS2.row.alloc _) ⟨W2.heap.size,0,none⟩ 1 1 [.string (bs x1),.string (bs x2)] rfl rfl (by intro j u hj;rw[add_plain,CV];exact(CB▸hj)) (by simp[Value.oneCell']) (by unfold maxLen;omega) (by omega) (by rw[Ai];have:=Ae HS2.box;omega) ?_;intro v2 w2 ho2 hg2 _ _;obtain⟨g2,cap2,rfl⟩:=ownsRow_succ ho2;have HT2:=Hi (HS2.add hg2 ho2);clear ho2 hg2);go_roundw
     case rel=>exact⟨k+1,m+1,o++[(x1,x2)],false,by omega,by simp[J8.out],by omega,by go_num,rfl,HN,HT2⟩
     case measure=>simp[intOf];omega
    |true=>
     have hbl:Op.bytesLess x1 c.name=true:=(by rw[Go.Proofs.bytesLess_eq];simpa using h1);have hne:(x1 == c.name)=false:=(by simpa using I1 h1);have HN:=Hi (show(o++[(x1,x2)])++putL c true (A.drop (k+1))=putL c gn A by rw[←GN.out];simp[h1,I1 h1]);clear h1;go_wp2_with fail;go_region;have Bb:=Hi EF.drew;clear b0 b1 b2 hp0 hp1;generalize wr.drew=W1 at Bb ⊢;obtain⟨b0,b1,b2,_,_,_⟩:=Jl Bb.box;obtain⟨p0,p1⟩:=HP _ Bb.Ao;go_wp2_with fail;go_region;have HS2:=Hi Bb.drew;clear b0 b1 b2 p0 p1;generalize W1.drew=W2 at HS2 ⊢;obtain⟨b0,b1,b2,_,_,_⟩:=Jl HS2.box;obtain⟨p0,p1⟩:=HP _ HS2.Ao;go_wp2_with (at_builtin;refine wpList_append_own_at _ rfl _ _ 142 rfl (w.heap.size+1) 249 i0 _ 2 32 underlying142 hi0 hz0 hz1 hz2 rfl (by decide) (.slice oq m Fj) m _ rfl (HS2.row.alloc _) ⟨W2.heap.size,0,none⟩ 1 1 [.string (bs x1),.string (bs x2)] rfl rfl (by intro j u hj;rw[add_plain,CV];exact(CB▸hj)) (by simp[Value.oneCell']) (by unfold maxLen;omega) (by omega) (by rw[Ai];have:=Ae HS2.box;omega) ?_;intro v2 w2 ho2 hg2 _ _;obtain⟨g2,cap2,rfl⟩:=ownsRow_succ ho2;have HT2:=Hi (HS2.add hg2 ho2);clear ho2 hg2);go_roundw
     case rel=>exact⟨k+1,m+1,o++[(x1,x2)],true,by omega,by simp[J8.out],by omega,by go_num,rfl,HN,HT2⟩
     case measure=>simp[intOf];omega
   ·by_cases h2:x1=c.name
    ·
     cases d with
     |false=>
      have hbl:Op.bytesLess x1 c.name=false:=(by rw[Go.Proofs.bytesLess_eq];simpa using h1);have hne:(x1 == c.name)=true:=(by simpa using h2);have HN:=Hi (show(o++[(c.name,c.data)])++putL c true (A.drop (k+1))=putL c gn A by rw[←GN.out];simp[h2,Mk]);clear h1 h2;go_wp2_with fail;go_region;have Bb:=Hi EF.drew;clear b0 b1 b2 hp0 hp1;generalize wr.drew=W1 at Bb ⊢;obtain⟨b0,b1,b2,_,_,_⟩:=Jl Bb.box;obtain⟨p0,p1⟩:=HP _ Bb.Ao;go_wp2_with (at_builtin;refine wpList_append_own_at _ rfl _ _ 142 rfl (w.heap.size+1) 249 i0 _ 2 32 underlying142 hi0 hz0 hz1 hz2 rfl (by decide) (.slice oq m Fj) m _ rfl (Bb.row.alloc _) ⟨W1.heap.size,0,none⟩ 1 1 [.string (bs c.name),.string (bs c.data)] rfl rfl (by intro j u hj;rw[add_plain,CV];exact(CB▸hj)) (by simp[Value.oneCell']) (by unfold maxLen;omega) (by omega) (by rw[Ai];have:=Ae Bb.box;omega) ?_;intro v1 w1 ho1 hg1 _ _;obtain⟨g1,Qg,rfl⟩:=ownsRow_succ ho1;have HT1:=Hi (Bb.add hg1 ho1);clear ho1 hg1);have HS2:=Hi HT1.drew;obtain⟨e0,e1,e2,_,_,_⟩:=Jl HT1.box;obtain⟨r0,r1⟩:=HP _ HT1.Ao;go_wp2_with fail;go_region;clear b0 b1 b2 p0 p1 e0 e1 e2 r0 r1;generalize w1.drew=W2 at HS2 ⊢;obtain⟨b0,b1,b2,_,_,_⟩:=Jl HS2.box;obtain⟨p0,p1⟩:=HP _ HS2.Ao;go_wp2_with fail;go_roundw
      case rel=>exact⟨k+1,m+1,o++[(c.name,c.data)],true,by omega,by simp[J8.out],by omega,by go_num,rfl,HN,HS2⟩
      case measure=>simp[intOf];omega
     |true=>
      have hbl:Op.bytesLess x1 c.name=false:=(by rw[Go.Proofs.bytesLess_eq];simpa using h1);have hne:(x1 == c.name)=true:=(by simpa using h2);have HN:=Hi (show(o)++putL c true (A.drop (k+1))=putL c gn A by rw[←GN.out];simp[h2]);clear h1 h2;go_wp2_with fail;go_region;have Bb:=Hi EF.drew;clear b0 b1 b2 hp0 hp1;generalize wr.drew=W1 at Bb ⊢;obtain⟨b0,b1,b2,_,_,_⟩:=Jl Bb.box;obtain⟨p0,p1⟩:=HP _ Bb.Ao;go_wp2_with fail;go_region;have HS2:=Hi Bb.drew;clear b0 b1 b2 p0 p1;generalize W1.drew=W2 at HS2 ⊢;obtain⟨b0,b1,b2,_,_,_⟩:=Jl HS2.box;obtain⟨p0,p1⟩:=HP _ HS2.Ao;go_wp2_with fail;go_roundw
      case rel=>exact⟨k+1,m,o,true,by omega,by simp[J8.out],by omega,by go_num,rfl,HN,HS2⟩
      case measure=>simp[intOf];omega
    ·
     cases d with
     |false=>
      have hbl:Op.bytesLess x1 c.name=false:=(by rw[Go.Proofs.bytesLess_eq];simpa using h1);have hne:(x1 == c.name)=false:=(by simpa using h2);have HN:=Hi (show((o++[(c.name,c.data)])++[(x1,x2)])++putL c true (A.drop (k+1))=putL c gn A by rw[←GN.out];simp[h1,h2]);clear h1 h2;go_wp2_with fail;go_region;have Bb:=Hi EF.drew;clear b0 b1 b2 hp0 hp1;generalize wr.drew=W1 at Bb ⊢;obtain⟨b0,b1,b2,_,_,_⟩:=Jl Bb.box;obtain⟨p0,p1⟩:=HP _ Bb.Ao;go_wp2_with (at_builtin;refine wpList_append_own_at _ rfl _ _ 142 rfl (w.heap.size+1) 249 i0 _ 2 32 underlying142 hi0 hz0 hz1 hz2 rfl (by decide) (.slice oq m Fj) m _ rfl (Bb.row.alloc _) ⟨W1.heap.size,0,none⟩ 1 1 [.string (bs c.name),.string (bs c.data)] rfl rfl (by intro j u hj;rw[add_plain,CV];exact(CB▸hj)) (by simp[Value.oneCell']) (by unfold maxLen;omega) (by omega) (by rw[Ai];have:=Ae Bb.box;omega) ?_;intro v1 w1 ho1 hg1 _ _;obtain⟨g1,Qg,rfl⟩:=ownsRow_succ ho1;have HT1:=Hi (Bb.add hg1 ho1);clear ho1 hg1);have HS2:=Hi HT1.drew;obtain⟨e0,e1,e2,_,_,_⟩:=Jl HT1.box;obtain⟨r0,r1⟩:=HP _ HT1.Ao;go_wp2_with fail;go_region;clear b0 b1 b2 p0 p1 e0 e1 e2 r0 r1;generalize w1.drew=W2 at HS2 ⊢;obtain⟨b0,b1,b2,_,_,_⟩:=Jl HS2.box;obtain⟨p0,p1⟩:=HP _ HS2.Ao
      go_wp2_with (at_builtin;refine wpList_append_own_at _ rfl _ _ 142 rfl (w.heap.size+1) 249 i0 _ 2 32 underlying142 hi0 hz0 hz1 hz2 rfl (by decide) (.slice (some ⟨g1,0,none⟩) (m+1) Qg) (m+1) _ rfl (HS2.row.alloc _) ⟨W2.heap.size,0,none⟩ 1 1 [.string (bs x1),.string (bs x2)] rfl rfl (by intro j u hj;rw[add_plain,CV];exact(CB▸hj)) (by simp[Value.oneCell']) (by unfold maxLen;omega) (by omega) (by rw[Ai];have:=Ae HS2.box;omega) ?_;intro v2 w2 ho2 hg2 _ _;obtain⟨g2,cap2,rfl⟩:=ownsRow_succ ho2;have HT2:=Hi (HS2.add hg2 ho2);clear ho2 hg2);go_roundw
      case rel=>exact⟨k+1,m+1+1,(o++[(c.name,c.data)])++[(x1,x2)],true,by omega,by simp[J8.out],by omega,by go_num,rfl,HN,HT2⟩
      case measure=>simp[intOf];omega
     |true=>
      have hbl:Op.bytesLess x1 c.name=false:=(by rw[Go.Proofs.bytesLess_eq];simpa using h1);have hne:(x1 == c.name)=false:=(by simpa using h2);have HN:=Hi (show(o++[(x1,x2)])++putL c true (A.drop (k+1))=putL c gn A by rw[←GN.out];simp[h2]);clear h1 h2;go_wp2_with fail;go_region;have Bb:=Hi EF.drew;clear b0 b1 b2 hp0 hp1;generalize wr.drew=W1 at Bb ⊢;obtain⟨b0,b1,b2,_,_,_⟩:=Jl Bb.box;obtain⟨p0,p1⟩:=HP _ Bb.Ao;go_wp2_with fail;go_region;have HS2:=Hi Bb.drew;clear b0 b1 b2 p0 p1;generalize W1.drew=W2 at HS2 ⊢;obtain⟨b0,b1,b2,_,_,_⟩:=Jl HS2.box;obtain⟨p0,p1⟩:=HP _ HS2.Ao;go_wp2_with (at_builtin;refine wpList_append_own_at _ rfl _ _ 142 rfl (w.heap.size+1) 249 i0 _ 2 32 underlying142 hi0 hz0 hz1 hz2 rfl (by decide) (.slice oq m Fj) m _ rfl (HS2.row.alloc _) ⟨W2.heap.size,0,none⟩ 1 1 [.string (bs x1),.string (bs x2)] rfl rfl (by intro j u hj;rw[add_plain,CV];exact(CB▸hj)) (by simp[Value.oneCell']) (by unfold maxLen;omega) (by omega) (by rw[Ai];have:=Ae HS2.box;omega) ?_;intro v2 w2 ho2 hg2 _ _;obtain⟨g2,cap2,rfl⟩:=ownsRow_succ ho2;have HT2:=Hi (HS2.add hg2 ho2);clear ho2 hg2);go_roundw
      case rel=>exact⟨k+1,m+1,o++[(x1,x2)],true,by omega,by simp[J8.out],by omega,by go_num,rfl,HN,HT2⟩
      case measure=>simp[intOf];omega
  ·obtain rfl:k=A.length:=(by omega);rw[List.drop_length] at hpl;obtain⟨b0,b1,b2,_,_,_⟩:=Jl hst.box;clear hst;cases d with
   |false=>
    have HN:=Hi (show o++[(c.name,c.data)]=Af.on A c by rw[←HE.out,←hpl];rfl);clear hpl;go_wp2_with (at_builtin;refine wpList_append_own_at _ rfl _ _ 142 rfl (w.heap.size+1) 249 i0 _ 2 32 underlying142 hi0 hz0 hz1 hz2 rfl (by decide) (.slice oq m Fj) m _ rfl (EF.row.alloc _) ⟨wr.heap.size,0,none⟩ 1 1 [.string (bs c.name),.string (bs c.data)] rfl rfl (by intro j u hj;rw[add_plain,CV];exact(CB▸hj)) (by simp[Value.oneCell']) (by unfold maxLen;omega) (by omega) (by rw[Ai];have:=Ae EF.box;omega) ?_;intro v0 w0 ho0 hg0 _ _;obtain⟨g0,cap0,rfl⟩:=ownsRow_succ ho0;have HT0:=Hi (EF.add hg0 ho0);clear ho0 hg0);go_ret;refine⟨_,rfl,?_,HT0.Ao⟩;rw[←HN.out];unfold Iz;rw[Aj,J8.out];exact Iz.lI HT0.row (by omega)
   |true=>
    have HN:=Hi (show o=Af.on A c by rw[←HE.out,←hpl];exact(E8 o).symm);clear hpl;go_wp2_with fail;go_ret;refine⟨_,rfl,?_,EF.Ao⟩;rw[←HN.out];unfold Iz;rw[J8.out];exact Iz.lI EF.row (by omega)
end
end
section
open Go.RowKit Go.Maps
open Fil Man
section
variable {w w':World}
theorem ao9(A:M)(k:Nat)(h:k < A.length):used (A.take (k+1))=used (A.take k)+8+A[k].1.length+A[k].2.length:=by
 unfold used;rw[BS h,C8,Ht];simp[cost];omega
theorem adt(A:M)(k:Nat):used (A.take k)≤used A:=by
 unfold used;have:((A.take k).map cost).sum+((A.drop k).map cost).sum=(A.map cost).sum:=by rw[←Ht,←C8,Ja]
 omega
theorem qA{q:Option Addr}{cap:Nat}{A:M}(h:Iz w 0 (.slice q A.length cap) A)(hc:used A≤1000000000):
  Calls prog 106 #[.slice q A.length cap] w fun e w'=>e=.returned (.int .i64 (used A:Nat))∧Bw w w':=by
 have HR:=Hi h;have EW:=Ml A;clear h;go_enter func106,ntmps106;go_wp2_with fail
 go_loopw [3,4] (fun n i wr=>∃ k:Nat,k≤A.length∧i=.int .i64 (k:Int)∧n=.int .i64 (used (A.take k):Nat)∧Bw w wr) (fun _ i _=>A.length -(intOf i).toNat)
 case atStart=>exact⟨0,Ar _,rfl,rfl,Ad _ _⟩
 case round=>
  obtain⟨k,hk,rfl,rfl,hb⟩:=hrel;have HB:=Hi hb;have hut:=adt A k;by_cases hlt:k < A.length
  ·obtain⟨p,au8,hp0,hp1⟩:=Iz.index (AL HR (ub hb) (fun _ _ f=>f)) hlt;have EJ:=ao9 A k hlt;have hu2:=adt A (k+1);have DL:=Hi EJ;obtain⟨x1,hx1⟩:=ex (A[k].1);obtain⟨x2,hx2⟩:=ex (A[k].2);rw[hx1] at hp0;rw[hx2] at hp1;rw[hx1,hx2] at DL EJ;obtain⟨U,hU⟩:=ex (used (A.take k));rw[hU] at DL EJ hut ⊢;have hb1:U+8+x1.length+x2.length≤1000000000:=(by omega);clear hb hx1 hx2 hU EJ hu2 hut;go_wp2_with fail;go_region;all_goals
    go_wp2_with fail;go_roundw
    case rel=>exact⟨k+1,by omega,by go_num,by rw[DL.out];congr 1,HB.drew⟩
    case measure=>simp[intOf];omega
  ·obtain rfl:k=A.length:=(by omega);rw[Ck];go_wp2_with fail;go_ret;exact⟨rfl,HB⟩
theorem adu{r cap:Nat}{a:Option Addr}{v:Value}{A:M}{most:Int}{l:List Af}(h:F8 w r v A most)(hu:Up A)(hl:D7 w a l)(hA:A.length≤500000)(hll:l.length≤500000):
  Calls prog 105 #[.pointer (some ⟨r,0,none⟩),.slice a l.length cap] w fun e w'=>∃ v',e=.returned v'∧Iz w' 0 v' (made A l)∧Bw w w':=by
 have c0:w.cell? ⟨r,0,none⟩=some v:=cr h.1;have HR:=Hi h.2;have HL:=Hi hl;clear h hl;go_enter func105,ntmps105;go_wp2_with fail;clear c0
 go_loopw [5,6] (fun ov i wr=>∃ (k:Nat) (F:M),k≤l.length∧F=made A (l.take k)∧i=.int .i64 (k:Int)∧Iz wr 0 ov F∧Bw w wr) (fun _ i _=>l.length -(intOf i).toNat)
 case atStart=>exact⟨0,A,Ar _,rfl,rfl,HR,Ad _ _⟩
 case round=>
  obtain⟨k,F,hk,hF,rfl,ast,hb⟩:=hrel;obtain⟨oq,Fj,rfl⟩:=AA ast;have HB:=Hi hb;have HW:=Hi ast;have HF:=Hi hF;have QP:F.length≤1000000:=by
   have:=j6 A (l.take k);rw[hF];rw[Aw] at this;omega
  have hFu:Up F:=by rw[hF];exact hu.made _
  clear ast hF;by_cases hlt:k < l.length
  ·obtain⟨p,au8,hp,_⟩:=(HL.below hb).index cap k hlt;obtain⟨p0,p1,p2⟩:=hp.cells;have En:=Hi (ao8 (w:=wr) l[k] HW hFu QP);have TQ:=Hi (show made A (l.take (k+1))=Af.on (made A (l.take k)) l[k] by rw[BS hlt,il]);generalize l[k]=c at*;clear hb hp hFu;go_wp2_with fail;refine En.mono ?_;rintro e w2⟨v2,rfl,hr2,hb2⟩;have HR2:=Hi hr2;have HB2:=Hi (HB.trans (hb2.mono HB.size));clear hr2 hb2;go_wp2_with fail;go_roundw
   case rel=>exact⟨k+1,Af.on F c,by omega,by rw[TQ.out,HF.out],by go_num,Iz.lI HR2 (Ar _),HB2⟩
   case measure=>simp[intOf];omega
  ·obtain rfl:k=l.length:=(by omega);have HE:=Hi (show F=made A l by rw[HF.out,Ck]);clear hb;go_wp2_with fail;go_ret;exact⟨_,rfl,by rw[←HE.out];exact HW.out,HB⟩
theorem get_at{A:M}{k:Nat}{nm:T}(hk:k < A.length)(h:∀ j,(hj:j < A.length)→j < k→A[j].1≠nm)(he:A[k].1=nm):Fil.get A nm=some A[k].2:=by
 unfold Fil.get;rw[List.find?_eq_some_iff_getElem.2 ⟨by simpa using he,k,hk,rfl,fun j hj=>by simpa using h j (by omega) hj⟩];rfl
theorem aoa{A:M}{nm:T}(h:∀ j,(hj:j < A.length)→A[j].1≠nm):Fil.get A nm=none:=get_none.2 fun p hp=>by
 obtain⟨j,hj,rfl⟩:=List.getElem_of_mem hp;exact h j hj
theorem adw{r:Nat}{v:Value}{A:M}{most:Int}(h:F8 w r v A most)(hA:A.length≤1000000)(nm:T):
  Calls prog 154 #[.pointer (some ⟨r,0,none⟩),.string (bs nm)] w fun e w'=>e=.returned (.tuple #[.string (bs ((Fil.get A nm).getD [])),.bool (Fil.get A nm).isSome])∧Bw w w':=by
 obtain⟨oq,Fj,rfl⟩:=AA h.2;have HR:=Hi h;clear h;go_enter func154,ntmps154;go_wp2_with fail
 go_loopw [6] (fun i wr=>∃ k:Nat,k≤A.length∧i=.int .i64 (k:Int)∧(∀ j,(hj:j < A.length)→j < k→A[j].1≠nm)∧Bw w wr) (fun i _=>A.length -(intOf i).toNat)
 case atStart=>exact⟨0,Ar _,rfl,fun j _ e=>by omega,Ad _ _⟩
 case round=>
  obtain⟨k,hk,rfl,asD,hb⟩:=hrel;have Eh:=Hi asD;have HB:=Hi hb;have hr:=HR.below hb;have c0:wr.cell? ⟨r,0,none⟩=some (.slice oq A.length Fj):=cr hr.1;clear asD;by_cases hlt:k < A.length
  ·obtain⟨p,au8,hp0,hp1⟩:=Iz.index hr.2 hlt;obtain⟨x1,hx1⟩:=ex (A[k].1);obtain⟨x2,hx2⟩:=ex (A[k].2);rw[hx1] at hp0;rw[hx2] at hp1;by_cases he:x1=nm
   ·have HG:=Hi (get_at hlt Eh (hx1.trans he));rw[hx2] at HG;subst he;clear hr hb hx1 hx2;go_wp2_with fail;go_ret2;exact⟨by rw[HG.out];rfl,HB⟩
   ·have heb:(x1 == nm)=false:=(by simpa using he);have Kh:=Hi (show A[k].1≠nm by rw[hx1];exact he);clear hr hb hx1 hx2;go_wp2_with fail;go_roundw
    case rel=>exact⟨k+1,by omega,by go_num,fun j hj hjk=>by
     by_cases e:j=k
     ·subst e;exact Kh.out
     ·exact Eh j hj (by omega),HB⟩
    case measure=>simp[intOf];omega
  ·have HG:=Hi (aoa (A:=A) (nm:=nm) (fun j hj=>Eh j hj (by omega)));obtain rfl:k=A.length:=(by omega);clear hr hb;go_wp2_with fail;go_ret2;exact⟨by rw[HG.out];rfl,HB⟩
end
end
section
open Go.RowKit Go.Maps
open Fil Man
section
variable {w w':World}
theorem aob{r n cap:Nat}{a:Option Addr}{v:Value}{A:M}{l:List Af}(h:F8 w r v A (Br n))(hu:Up A)(hl:D7 w a l)(hn:n≤16384)(hA:used A≤Br n)(hll:l.length≤100000)(hok:∀ c∈l,c.name.length≤maxLen∧c.data.length≤maxLen)(P5:l.all Af.may=true→Eb l≤1400000):
  Calls prog 33 #[.pointer (some ⟨r,0,none⟩),.slice a l.length cap] w fun e w'=>e=.returned (.int .i64 (EL n A l))∧∃ v',F8 w' r v' (DN n A l) (Br n)∧A7 (fun k=>k=r) w w':=by
 have au4:=SC hn;have EW:=Ml A;have EJ:=PG hu l;have HR:=Hi h;have HL:=Hi hl;have Es:=Hi hok;clear h hl hok;go_enter func33,ntmps33;go_wp2_with fail
 go_loopw [5] (fun i wr=>∃ k:Nat,k≤l.length∧i=.int .i64 (k:Int)∧(l.take k).all Af.may=true∧Bw w wr) (fun i _=>l.length -(intOf i).toNat)
 case atStart=>exact⟨0,Ar _,rfl,rfl,Ad _ _⟩
 case round=>
  obtain⟨k,hk,rfl,asD,hb⟩:=hrel;have Eh:=Hi asD;have HB:=Hi hb;clear asD;by_cases hlt:k < l.length
  ·obtain⟨p,au8,hp,_⟩:=(HL.below hb).index cap k hlt;obtain⟨p0,p1,p2⟩:=hp.cells;obtain⟨o1,o2⟩:=Es _ (BF hlt);have HM:=Hi (aam l[k].name l[k].data l[k].gone wr o1 o2);obtain⟨mv,hmv⟩:=ex (Af.may l[k]);rw[show(⟨l[k].name,l[k].data,l[k].gone⟩:Af)=l[k] from rfl,hmv] at HM;have Ms:=Hi hmv;have auV:=BF hlt;cases mv with
   |true=>
    have HN:=Hi (show(l.take (k+1)).all Af.may=true by rw[BS hlt,List.all_append,Eh.out,Bool.true_and];simp[Ms.out]);clear hb hp auV hmv o1 o2;generalize l[k]=c at*;go_wp2_with fail;refine HM.mono ?_;rintro e w2⟨rfl,hb2⟩;have HB2:=Hi (HB.trans (hb2.mono HB.size));clear hb2;go_wp2_with fail;go_roundw
    case rel=>exact⟨k+1,by omega,by go_num,HN,HB2⟩
    case measure=>simp[intOf];omega
   |false=>
    have hna:l.all Af.may=false:=by
     rw[Bool.eq_false_iff];intro e;rw[Kl] at e;rw[e _ auV] at hmv;cases hmv
    have HC:=Hi (show EL n A l=2 by unfold EL;rw[Ac hna]);have HX:=Hi (show DN n A l=A by unfold DN;rw[Aa (by rw[hna];simp)]);clear hb hp auV hmv o1 o2 hna;generalize l[k]=c at*;go_wp2_with fail;refine HM.mono ?_;rintro e w2⟨rfl,hb2⟩;have HB2:=Hi (HB.trans (hb2.mono HB.size));clear hb2;go_wp2_with fail;go_ret;exact⟨by rw[HC.out];rfl,v,by rw[HX.out];exact HR.below HB2,A7.of_below HB2⟩
  ·obtain rfl:k=l.length:=(by omega);have asD:=Eh.out;rw[Ck] at asD;have hw:=P5 asD;have HW:=Hi (adu (cap:=cap) (HR.below hb) hu (HL.below hb) (by omega) (by omega));have NK:=Hi asD;clear hb asD Eh;go_wp2_with fail;refine HW.mono ?_;rintro e w2⟨v2,rfl,hr2,hb2⟩;obtain⟨q2,cap2,rfl⟩:=AA hr2;have HB2:=Hi (HB.trans (hb2.mono HB.size));have HR2:=Hi hr2;have DL:=Hi (fun(W:World) (hW:Bw w2 W)=>qA (AL hr2 (ub hW) (fun _ _ f=>f)) (by omega));have hrf:=HR.below HB2.out;have c1:w2.cell? ⟨r,1,none⟩=some (.int .i64 (Br n:Int)):=cr hrf.1;have HRF:=Hi hrf;obtain⟨F,hF⟩:=ex (made A l);rw[hF] at DL HR2 ⊢;have U1:=Hi hF;obtain⟨U,hU⟩:=ex (used F);rw[hU] at DL;rw[hF,hU] at EJ;have Yw:=Hi hU;clear hr2 hb2 hrf hU hF;have Yx:EL n A l=if Br n < U then 4 else 0:=by
    unfold EL;rw[Aa (by rw[NK.out];simp),U1.out,Yw.out]
   have Yy:DN n A l=if Br n < U then A else F:=by
    unfold DN;rw[U1.out,Yw.out];by_cases e:Br n < U
    ·rw[Ac e,Aa (by omega)]
    ·rw[Aa e,Ac ⟨NK,by omega⟩]
   have Nl:=Hi (BD Yx Yy);clear Yx Yy EW hw hll hA au4 hlt hk;by_cases hgt:Br n < U
   ·have hgi:(Br n:Int) < (U:Int):=(by omega);have HG:=Hi hgt;clear hgt;go_wp2_with fail
    go_region_held3 (fun V=>V.cell? ⟨r,1,none⟩=some (.int .i64 (Br n:Int))) (go_keep)
     (first|(go_at_call 106;refine(DL _ ((Ad _ _).drew)).mono ?_;rintro e wA ⟨rfl,Cv⟩;have Ag:=Hi (HB2.trans ((show Bw w2 wA from((Ad _ w2).drew).trans Cv).mono HB2.size));clear Cv;have cA:wA.cell? ⟨r,1,none⟩=some (.int .i64 (Br n:Int)):=(by rw[AY _ _ _ _ _ _ (HR.below Ag).1];rfl)))
    all_goals
     go_wp2_with fail;go_ret;exact⟨by rw[Nl.1,Ac HG.out];rfl,v,by rw[Nl.2,Ac HG.out];exact HR.below Ag,A7.of_below Ag⟩
   ·have hgi:¬ (Br n:Int) < (U:Int):=(by omega);have HG:=Hi hgt;clear hgt;go_wp2_with fail
    go_region_held3 (fun V=>V.cell? ⟨r,1,none⟩=some (.int .i64 (Br n:Int))) (go_keep)
     (first|(go_at_call 106;refine(DL _ ((Ad _ _).drew)).mono ?_;rintro e wA ⟨rfl,Cv⟩;have Ag:=Hi ((show Bw w2 wA from((Ad _ w2).drew).trans Cv));clear Cv;have cA:wA.cell? ⟨r,1,none⟩=some (.int .i64 (Br n:Int)):=(by rw[AY _ _ _ _ _ _ (HR.below (HB2.trans (Ag.mono HB2.size))).1];rfl)))
    all_goals
     have BM:=Hi (HB2.trans (Ag.mono HB2.size));have hrf:=HR.below BM.out;have d0:wA.cell? ⟨r,0,none⟩=some v:=cr hrf.1;have df:=Cb _ _ 0 _ _ hrf.1;have Fg:=Hi (BD hrf.1 (AL HR2 (ub Ag) (fun _ _ f=>f)));clear hrf c1;go_wp2_with fail;go_ret;refine⟨by rw[Nl.1,Aa HG.out];rfl,.slice q2 F.length cap2,?_,(A7.of_below (F:=fun k=>k=r) BM).setCell (p:=⟨r,0,none⟩) (.inl rfl) _⟩;rw[Nl.2,Aa HG.out];refine⟨Bh _ _ 0 _ _ _ Fg.1,AL Fg.2 ((A7.refl (fun k=>k=r) wA).setCell (p:=⟨r,0,none⟩) (.inl rfl) _) (fun g hg e=>?_)⟩;rw[e] at hg;exact Ap.ne (Bi Fg.2 hg) ⟨_,_,Fg.1⟩ (by decide) rfl
end
end
namespace Prs
open Go.RowKit Go.Maps
open Fil Man Wal
theorem adx{w:World}{a:Option Addr}{cap:Nat}{l:M}(h:Av w a l)(hl:l.length≤1000000):
  Calls prog 205 #[.slice a l.length cap] w fun e w'=>e=.returned (.bool (decide (BN l)))∧Bw w w':=by
 have HH:=Hi h;clear h;go_enter func205,ntmps205;go_wp2_with fail
 go_loopw [3] (fun i wr=>∃ k:Nat,1≤k∧(k≤l.length∨k=1)∧i=.int .i64 (k:Int)∧BN (l.take k)∧Bw w wr) (fun i _=>l.length -(intOf i).toNat)
 case atStart=>exact⟨1,Ab _,.inr rfl,rfl,by
  cases l with
  |nil=>exact List.Pairwise.nil
  |cons x l=>exact P9 _ _,Ad _ _⟩
 case round=>
  obtain⟨k,hk1,hk,rfl,hs,hb⟩:=hrel;by_cases hlt:k < l.length
  ·obtain⟨p,hix,hp,-⟩:=HH.index cap k hlt;obtain⟨p',azB,hp',-⟩:=HH.index cap (k -1) (by omega);have avV:IntKind.i64.wrap ((k:Int) -1)=((k -1:Nat):Int):=(by rw[CZ _ (by omega)];omega);have c1:=(hp.upd (ub hb) (fun f=>f)).key;have c2:=(hp'.upd (ub hb) (fun f=>f)).key;have HT:=Hi (fun hn=>aaA hs hk1 hlt hn);have HN:=Hi (fun hn=>aaB hk1 hlt hn);have HB:=Hi hb;clear hs hb hp hp';generalize l[k]=x at*;generalize l[k -1]'(by omega)=y at*;by_cases hxy:x.1 < y.1
   ·have hbl:Op.bytesLess x.1 y.1=true:=(by rw[Go.Proofs.bytesLess_eq];simpa using hxy);have lN:=Hi (HN hxy);clear HT HN hxy;go_wp2_with fail;go_region;go_wp2_with fail;go_ret;exact⟨by first|rfl|(rw[Ma lN.out];rfl),HB.drew⟩
   ·have hbl:Op.bytesLess x.1 y.1=false:=(by rw[Go.Proofs.bytesLess_eq];simpa using hxy);have O9:=Hi (HT hxy);clear HT HN hxy;go_wp2_with fail;go_region;go_wp2_with fail;go_roundw
    case rel=>exact⟨k+1,by omega,.inl (by omega),by go_num,O9.out,HB.drew⟩
    case measure=>simp[intOf];omega
  ·have HS:=Hi (show BN l from by
    have:=hs;rwa[ET (by omega)] at this)
   have HB:=Hi hb;have Xr:¬ (k:Int) < (l.length:Int):=(by omega);clear hs hb hlt;go_wp2_with fail;go_ret;exact⟨by first|rfl|(rw[Gs HS.out];rfl),HB⟩
def aod(l:M)(k:Nat)(v:Value):Prop:=∃ S,v=.string (bs (Crc.le 2 l.length++S))∧textsE (flat (l.take k))=some S
theorem aoe{l:M}{k:Nat}{S x y:T}(hk:k < l.length)(h:textsE (flat (l.take k))=some S)(hx:l[k].1=x)(hy:l[k].2=y)(h1:x.length≤65535)(h2:y.length≤65535):textsE (flat (l.take (k+1)))=some (S++(Crc.le 2 x.length++x)++(Crc.le 2 y.length++y)):=by
 have e1:textsE (flat (l.take k)++[x])=some (S++(Crc.le 2 x.length++x)):=by
  rw[lQ h x];unfold CO;rw[Ac h1];rfl
 rw[lT hk,hx,hy,show flat (l.take k)++[x,y]=(flat (l.take k)++[x])++[y] by simp,lQ e1 y];unfold CO;rw[Ac h2];rfl
theorem rput16_w{w:World}{a:Option Addr}{cap:Nat}{l:M}(h:Av w a l)(hs:BN l)(hl:l.length≤60000)(asV:rowLen (flat l)≤1000000000):
  Calls prog 156 #[.slice a l.length cap] w fun e w'=>e=.returned (.tuple #[.string (bs (CK l).1),.int .i64 (CK l).2])∧Bw w w':=by
 have HH:=Hi h;have Pm:=Hi asV;have HS:=Hi hs;have OV:=Hi (show DX l=(textsE (flat l)).map (Crc.le 2 l.length++ ·) from by unfold DX;rw[Ac (by omega)]);have eG:=Hi (show CK l=match DX l with|none=>([],5)|some s=>(s,0) from rfl);generalize CK l=V at*;clear h asV hs;go_enter func156,ntmps156;go_wp2_with fail;refine(YX l.length 2 _ (by omega) (by decide)).mono ?_;rintro e w1⟨rfl,hb⟩;have HB1:=Hi hb;clear hb;go_wp2_with fail
 go_loopw [4,5] (fun v i wr=>∃ (k:Nat),k≤l.length∧i=.int .i64 k∧aod l k v∧Bw w wr) (fun _ i _=>l.length -(intOf i).toNat)
 case atStart=>exact⟨0,by omega,rfl,⟨[],by rw[E8],rfl⟩,HB1⟩
 case round=>
  clear HB1;obtain⟨k,hk,rfl,⟨S,rfl,hS⟩,hb⟩:=hrel;have Ph:=Hi hS;have HB:=Hi hb;clear hS hb;by_cases hlt:k < l.length
  ·obtain⟨q,au8,hq,-⟩:=(HH.below HB).index cap k hlt;have c0:=hq.key;have c1:=hq.val;have hl1:=aaD l (k+1);have hl2:=Pk Ph.out;have hl3:=Pm.out;have hlk:rowLen (flat (l.take (k+1)))=rowLen (flat (l.take k))+(2+l[k].1.length)+(2+l[k].2.length):=by
    rw[lT hlt];have:=aaE (flat (l.take k)) [l[k].1,l[k].2];have e:rowLen [l[k].1,l[k].2]=2+((2+l[k].1.length)+(2+l[k].2.length)):=(by unfold rowLen;simp);omega
   have Eg:=Hi (fun(x y:T) (hx:l[k].1=x) (hy:l[k].2=y)=>aoe hlt Ph hx hy);have ady:=Hi (fun(x y:T) (hx:l[k].1=x) (hy:l[k].2=y) (hf:65535 < x.length∨65535 < y.length)=>show textsE (flat l)=none from hf.elim (fun e=>lS (Xv hlt (by rw[hx];simp)) e) (fun e=>lS (Xv hlt (by rw[hy];simp)) e));obtain⟨x,hx⟩:=ex (l[k].1);obtain⟨y,hy⟩:=ex (l[k].2);have hle:S.length+x.length+y.length≤1000000000:=(by rw[←hx,←hy];omega);have Jh:=Hi (Eg x y hx hy);have Yz:=Hi (ady x y hx hy);rw[hx] at c0;rw[hy] at c1;clear Eg ady hq hx hy hl1 hl2 hl3 hlk;by_cases hx1:x.length≤65535
   ·by_cases hy1:y.length≤65535
    ·have RS:=Hi (Jh hx1 hy1);clear Jh Yz;go_wp2_with fail;refine(Yt x _ hx1).mono ?_;rintro e w3⟨rfl,hb3⟩;have HB3:=Hi (HB.trans (hb3.mono HB.size));have c1:w3.cell? ⟨q.block,q.off+1,none⟩=some (.string (bs y)):=(hb3.cell (p:=⟨q.block,q.off+1,none⟩) (Bz c1)).trans c1;clear hb3;go_wp2_with fail;refine(Yt y _ hy1).mono ?_;rintro e w4⟨rfl,hb4⟩;have Ay:=Hi (HB3.trans (hb4.mono HB3.size));clear hb4;have hcl:∀ z:T,(Crc.le 2 z.length++z).length=2+z.length:=fun z=>by rw[Aj,Crc.Be]
     go_wp2_with fail;go_roundw
     case rel=>exact⟨k+1,by omega,by go_num,⟨_,by first|rfl|simp only[Cw],RS⟩,Ay⟩
     case measure=>simp[intOf];omega
    ·have Dc:=Hi (Yz (.inr (by omega)));have hy2:65535 < y.length:=(by omega);clear Jh Yz;go_wp2_with fail;refine(Yt x _ hx1).mono ?_;rintro e w3⟨rfl,hb3⟩;have HB3:=Hi (HB.trans (hb3.mono HB.size));have c1:w3.cell? ⟨q.block,q.off+1,none⟩=some (.string (bs y)):=(hb3.cell (p:=⟨q.block,q.off+1,none⟩) (Bz c1)).trans c1;clear hb3;go_wp2_with fail;refine(Yu y _ hy2).mono ?_;rintro e w4⟨rfl,rfl⟩;go_wp2_with fail;go_ret2;exact⟨by rw[show V=([],5) from by rw[eG.out,show DX l=none from by rw[OV.out,Dc.out];rfl]];rfl,HB3⟩
   ·have Dc:=Hi (Yz (.inl (by omega)));have hx2:65535 < x.length:=(by omega);clear Jh Yz;by_cases hy1:y.length≤65535
    ·go_wp2_with fail;refine(Yu x _ hx2).mono ?_;rintro e w3⟨rfl,rfl⟩;go_wp2_with fail;refine(Yt y _ hy1).mono ?_;rintro e w4⟨rfl,hb4⟩;have Ay:=Hi (HB.trans (hb4.mono HB.size));clear hb4;go_wp2_with fail;go_ret2;exact⟨by rw[show V=([],5) from by rw[eG.out,show DX l=none from by rw[OV.out,Dc.out];rfl]];rfl,Ay⟩
    ·have hy2:65535 < y.length:=(by omega);go_wp2_with fail;refine(Yu x _ hx2).mono ?_;rintro e w3⟨rfl,rfl⟩;go_wp2_with fail;refine(Yu y _ hy2).mono ?_;rintro e w4⟨rfl,rfl⟩;go_wp2_with fail;go_ret2;exact⟨by rw[show V=([],5) from by rw[eG.out,show DX l=none from by rw[OV.out,Dc.out];rfl]];rfl,HB⟩
  ·obtain rfl:k=l.length:=(by omega);have eH:=Hi (adx (cap:=cap) (HH.below HB) (by omega));rw[Gs HS.out] at eH
   have HT:=Hi (show DX l=some (Crc.le 2 l.length++S) from by
    have:=Ph.out;rw[Ck] at this;rw[OV.out,this];rfl)
   go_wp2_with fail;refine eH.mono ?_;rintro e w4⟨rfl,hb4⟩;have Ay:=Hi (HB.trans (hb4.mono HB.size));clear hb4;go_wp2_with fail;go_ret2;exact⟨by rw[show V=(Crc.le 2 l.length++S,0) from by rw[eG.out,HT.out]];rfl,Ay⟩
def aof(w:World)(s:T)(n:Nat)(sv lv iv:Value)(wr:World):Prop:=∃ (i:Nat) (S:T) (l:M),sv=.string (bs S)∧iv=.int .i64 (i:Int)∧aY w s n i S l lv wr
theorem adz(s:T)(L:M)(hL:F6 s=some L)(w:World)(hs:s.length≤1000000000):Calls prog 202 #[.string (bs s)] w fun e w'=>∃ v,e=.returned (.tuple #[v,.int .i64 0])∧AP w' w.heap.size v L∧Bw w w':=by
 obtain⟨i0,hi0,hz0,hz1,hz2⟩:=Cz LU;have h2:¬ s.length < 2:=fun h=>by unfold F6 at hL;rw[Ac h] at hL;cases hL
 have hc2:∀ W,(Instr.slice 9 (.string (bs s)) none (some (.int .i64 2)) none).run prog W=.ok (.string (bs (s.take 2))) W:=fun W=>Ji prog W 9 underlying9 s 2 (by omega)
 have hcf:∀ W,(Instr.slice 9 (.string (bs s)) (some (.int .i64 2)) none none).run prog W=.ok (.string (bs (s.drop 2))) W:=fun W=>Ik prog W 9 underlying9 s 2 (by omega)
 have hlt:(s.take 2).length=2:=by rw[Aw];omega
 have hv:=Crc.Gg (s.take 2);rw[hlt] at hv;have U0:=Hi (fun(W:World)=>qx (s.take 2) W (by omega));obtain⟨n,hn⟩:=ex (Crc.val (s.take 2));have HRR:=Hi (show some L=(readTs (2*n) (s.drop 2)).bind fun q=>if q.2=[]∧BN (unflat q.1) then some (unflat q.1) else none from by rw[←hL];unfold F6;rw[Aa h2,hn]);rw[hn] at U0 hv;have hnb:n < 65536:=hv;have hsi:¬ (s.length:Int) < 2:=by omega
 have e2:IntKind.i64.wrap (n:Int)=(n:Int):=CZ _ (by omega);clear hn hlt hv hL;go_enter func202,ntmps202;go_wp2_with fail;refine(U0 _).mono ?_;rintro e w1⟨rfl,rfl⟩;go_wp2_with fail
 go_loopw [0,5,6] (fun sv lv iv wr=>aof w s n sv lv iv wr) (fun _ _ iv _=>n -(intOf iv).toNat)
 case atStart=>exact⟨0,s.drop 2,[],rfl,rfl,Ar _,rfl,by rw[BA];omega,by simp[flat],by unfold AP;rw[LQ];exact DJ _ _ _ _,Ad _ _⟩
 case round=>
  obtain⟨i,S,l,rfl,rfl,hst⟩:=hrel;have HST:=Hi hst;have RX:=hst.short;have hle:=hst.le;by_cases hlt:i < n
  ·cases hr:Fu S with
   |none=>
    have:=HRR.out;rw[Ur (j:=2*i) (by omega) hst.read hr] at this;cases this
   |some r=>
    obtain⟨k,n1⟩:=r;obtain⟨_,hn1,_⟩:=RN hr;have hV:Dx S=(k,n1,0):=(by unfold Dx;rw[hr]);have Fa:=Hi (fun(W:World)=>eD S W (by omega));rw[hV] at Fa;have Dn:=Hi (Uq (j:=2*i) (by omega) hst.read hr);have hcut:∀ W,(Instr.slice 9 (.string (bs S)) (some (.int .i64 (n1:Int))) none none).run prog W=.ok (.string (bs (S.drop n1))) W:=fun W=>Ik prog W 9 underlying9 S n1 hn1
    cases hr2:Fu (S.drop n1) with
    |none=>
     have:=HRR.out;rw[Ur (j:=2*i+1) (by omega) Dn hr2] at this;cases this
    |some r2=>
     obtain⟨v,n2⟩:=r2;obtain⟨_,hn2,_⟩:=RN hr2;rw[BA] at hn2;have hV2:Dx (S.drop n1)=(v,n2,0):=(by unfold Dx;rw[hr2]);have Mj:=Hi (fun(W:World)=>eD (S.drop n1) W (by rw[BA];omega));rw[hV2] at Mj;have RY:=Hi (Uq (j:=2*i+1) (by omega) Dn hr2);have akV:∀ W,(Instr.slice 9 (.string (bs S)) (some (.int .i64 ((n1:Int)+(n2:Int)))) none none).run prog W=.ok (.string (bs (S.drop (n1+n2)))) W:=fun W=>by
      have:=Ik prog W 9 underlying9 S (n1+n2) (by omega);rwa[Int.natCast_add] at this
     have hwr:IntKind.i64.wrap ((n1:Int)+(n2:Int))=(n1:Int)+(n2:Int):=CZ _ (by omega);have asV:(n1:Int)+(n2:Int)≤1000000000:=(by omega);have akW:(n1:Int)+(n2:Int)≤(S.length:Int):=(by omega);have akX:((n1:Int)+(n2:Int)).toNat=n1+n2:=(by omega);have Td:=Hi hn1;have Jh:=Hi hn2;obtain⟨qo,co,rfl⟩:=AA hst.row;clear hst hV hr hV2 hr2 hn1 hn2;go_wp2_with fail;refine(Fa _).mono ?_;rintro e w2⟨rfl,rfl⟩;go_wp2_with fail;refine(Mj _).mono ?_;rintro e w3⟨rfl,rfl⟩;have Db:=Hi HST.Ao.size;go_wp2_with (at_builtin;refine wpList_append_own_at _ rfl _ _ 22 rfl w.heap.size 75 i0 _ 2 32 underlying22 hi0 hz0 hz1 hz2 rfl (by decide) _ l.length _ rfl (HST.row.alloc _) ⟨wr.heap.size,0,none⟩ 1 1 [.string (bs k),.string (bs v)] rfl rfl (by intro j u hj;rw[add_plain,CV];exact(CB▸hj)) (by simp[Value.oneCell']) (by unfold maxLen;have:=HST.len;omega) (by have:=HST.len;omega) (by have:=Db.out;simp;omega) ?_;intro v' w4 asJ asx _ hat;obtain⟨gg,cap2,rfl⟩:=ownsRow_succ asJ;have HO:=Hi asJ;have HG:=Hi asx;clear asJ asx hat)
     have Tc:=Hi (show aY w s n (i+1) (S.drop (n1+n2)) (l++[(k,v)]) (.slice (some ⟨gg,0,none⟩) (l.length+1) cap2) w4 from
      ⟨by omega,by rw[Aj,HST.len];rfl,by rw[BA];omega,by
       have:=RY.out;rw[show 2*n -(2*i+1+1)=2*n -2*(i+1) by omega,List.drop_drop] at this;rw[this,l6]
       congr 1
       funext q
       simp[flat],by unfold AP;rw[Aj,NJ];exact HO.out,
       (HST.Ao.alloc HST.Ao.size _).grown HG (by have:=HST.Ao.size;rw[Ai];omega) (fun k e=>CJ HST.row e)⟩)
     go_roundw
     case rel=>
      first
      |exact⟨i+1,S.drop (n1+n2),l++[(k,v)],rfl,by go_num,Tc⟩
      |(repeat apply Exists.intro
        refine⟨?_,rfl⟩;exact⟨i+1,S.drop (n1+n2),l++[(k,v)],rfl,by go_num,Tc⟩)
     case measure=>
      show n -((i:Int)+1).toNat < n -((i:Int)).toNat
      omega
  ·obtain rfl:i=n:=(by omega);have hrs:readTs (2*i) (s.drop 2)=some (flat l,S):=by
    rw[hst.read,Nat.sub_self];simp[readTs]
   have Ry:=HRR.out;rw[hrs] at Ry;simp only[BI] at Ry;rw[aG] at Ry;obtain⟨qo,co,rfl,hqo,hco⟩:=Dl hst.row;have Tf:=Hi (adx (cap:=co) (Av.BU hst.row) (by have:=hst.len;omega));clear hst hrs;by_cases hS:S=[]∧BN l
   ·rw[Ac hS] at Ry;obtain⟨hS1,hS2⟩:=hS;subst hS1;obtain rfl:L=l:=EH Ry;rw[Gs hS2] at Tf;clear hS2 Ry;go_wp2_with fail;refine Tf.mono ?_;rintro e w2⟨rfl,hb⟩;have HR2:=Hi (Bp HST.row hb);have HB:=Hi (HST.Ao.trans (hb.mono HST.Ao.size));clear hb;go_wp2_with fail;exact Dt (v:=.tuple #[.slice qo L.length co,.int .i64 0]) (by simp[results,results202,go_sem]) rfl ⟨_,rfl,HR2,HB⟩
   ·rw[Aa hS] at Ry;cases Ry
end Prs
end Go.Proofs.YtmbbhdebddbhoaaGreat
