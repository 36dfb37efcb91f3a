/- RefPut RefCom RefCommit RPrs -/
import Derived.Test.YtmbbhdebddbhoaaGreatR35
set_option maxHeartbeats 4000000
set_option maxRecDepth 100000
set_option linter.all false
namespace Go.Proofs.YtmbbhdebddbhoaaGreat
open Tryz
section
open Go.RowKit Go.Maps
open Fil Man
section
variable {w w':World}
structure Ec(w W:World)(ov:Value)(m:Nat)(o:M)(c:Aj)(gn:Bool):Prop where
 row:W.ownsRow (w.heap.size+1) 249 2 ov m (Da o)
 Ay:Bw w W
 box:W.heap[w.heap.size]?=some (.cells #[.string (bs c.name),.string (bs c.data),.bool gn] 65)
theorem Ec.drew{W:World}{ov:Value}{m:Nat}{o:M}{c:Aj}{gn:Bool}(h:Ec w W ov m o c gn):Ec w W.drew ov m o c gn:=⟨h.row.drew,h.Ay.drew,h.box⟩
theorem Ec.add{W W2:World}{ov v2:Value}{m:Nat}{o:M}{c:Aj}{gn:Bool}{ob:Obj}{a b:T}(h:Ec w W ov m o c gn)(hg:(W.alloc ob).grownBy W2 ov.ownBlock)(ho:W2.ownsRow (w.heap.size+1) 249 2 v2 (m+1) (Da o++[.string (bs a),.string (bs b)])):Ec w W2 v2 (m+1) (o++[(a,b)]) c gn:=by
 have hlt:=Ai h.box;have hsz:(W.alloc ob).heap.size=W.heap.size+1:=Aq _ _;refine⟨by rw[RY];exact ho,(h.Ay.alloc h.Ay.size ob).grown hg (by omega) (fun j hj=>by have:=DC h.row hj;omega),?_⟩;exact(hg.block w.heap.size (by omega) (row_ne_low h.row (Nat.lt_succ_self w.heap.size))).trans ((heap_alloc_old W ob hlt).trans h.box)
theorem alG(c:Aj)(d:Bool)(p:T×T)(l:M):putL c d (p :: l)=(if d=false∧¬ p.1 < c.name then[(c.name,c.data)] else[])++((if p.1=c.name then[] else[p])++putL c (d || !decide (p.1 < c.name)) l):=rfl
theorem ayi{q:Option Addr}{cap:Nat}{A:M}(c:Aj)(h:Le w 0 (.slice q A.length cap) A)(hu:Up A)(hl:A.length≤1000000):
  Calls prog 177 #[.slice q A.length cap,.agg #[.string (bs c.name),.string (bs c.data),.bool c.gone]] w fun e w'=>∃ v,e=.returned v∧Le w' w.heap.size v (Aj.on A c)∧Bw w w':=by
 obtain⟨i0,Ba,AQ,AU,AV⟩:=Du arY;have HR:=Hi h;have HE:=Hi (alI (c:=c) hu);have Hu:=Hi (Aw w (.cells #[.string (bs c.name),.string (bs c.data),.bool c.gone] 65));have Wi:=Hi (AJ w (.cells #[.string (bs c.name),.string (bs c.data),.bool c.gone] 65));obtain⟨gn,YU⟩:=ex (c.gone);rw[YU] at HE Hu Wi ⊢;clear h hu YU;go_enter func177,ntmps177;go_wp2_with fail
 go_loopw [5,6,7] (fun ov dv i wr=>∃ (k m:Nat) (o:M) (d:Bool),k≤A.length∧o.length=m∧m≤2*k∧i=.int .i64 (k:Int)∧dv=.bool d∧o++putL c d (A.drop k)=putL c gn A∧Ec w wr ov m o c gn)
  (fun _ _ i _=>A.length -(intOf i).toNat)
 case atStart=>exact⟨0,0,[],gn,AB _,rfl,AB _,rfl,rfl,by rw[List.drop_zero];rfl,⟨by rw[PV];exact EI _ _ _ _,Hu,Wi⟩⟩
 case round=>
  obtain⟨k,m,o,d,hk,jL,Mr,rfl,rfl,Fu,AP⟩:=hrel;obtain⟨oq,Ho,rfl⟩:=Bg AP.row;have Gb:=Hi AP;have M9:=Hi jL;clear Hu Wi jL;by_cases hlt:k < A.length
  ·obtain⟨p,Hg,KW,ER⟩:=(Le.index (Bh HR (ub AP.Ay) (fun _ _ f=>f)) hlt)
   have HP:=Hi (fun(W:World) (hW:Bw w W)=>(show W.cell? p=some (.string (bs A[k].1))∧W.cell? ⟨p.block,p.off+1,none⟩=some (.string (bs A[k].2)) from by
    obtain⟨p',qK,aaR,aaS⟩:=(Le.index (Bh HR (ub hW) (fun _ _ f=>f)) hlt);have e:=Hg W;rw[qK W] at e;injection e with e
    injection e with e
    injection e with e
    subst e;exact⟨aaR,aaS⟩))
   obtain⟨b0,b1,b2,_,_,_⟩:=Nw AP.box;have hd:=Qz hlt;rw[hd,alG] at Fu;obtain⟨x1,EE⟩:=ex (A[k].1);obtain⟨x2,E8⟩:=ex (A[k].2);rw[show A[k]=(x1,x2) from Prod.ext EE E8] at Fu;rw[EE] at KW HP;rw[E8] at ER HP;have Jn:=Hi Fu;clear hd EE E8 Fu AP;by_cases h1:x1 < c.name
   ·
    cases d with
    |false=>
     have De:Op.bytesLess x1 c.name=true:=(by rw[Go.Proofs.bytesLess_eq];simpa using h1);have hne:(x1 == c.name)=false:=(by simpa using L6 h1);have HN:=Hi (show(o++[(x1,x2)])++putL c false (A.drop (k+1))=putL c gn A by rw[←Jn.out];simp[h1,L6 h1]);clear h1;go_wp2_with fail;go_region;have BF:=Hi Gb.drew;clear b0 b1 b2 KW ER;generalize wr.drew=W1 at BF ⊢;obtain⟨b0,b1,b2,_,_,_⟩:=Nw BF.box;obtain⟨p0,p1⟩:=HP _ BF.Ay;go_wp2_with fail;go_region;have BJ:=Hi BF.drew;clear b0 b1 b2 p0 p1;generalize W1.drew=W2 at BJ ⊢;obtain⟨b0,b1,b2,_,_,_⟩:=Nw BJ.box;obtain⟨p0,p1⟩:=HP _ BJ.Ay;go_wp2_with (at_builtin;refine wpList_append_own_at _ rfl _ _ 142 rfl (w.heap.size+1) 249 i0 _ 2 32 underlying142 Ba AQ AU AV rfl (by decide) (.slice oq m Ho) m _ rfl (BJ.row.alloc _) ⟨W2.heap.size,0,none⟩ 1 1 [.string (bs x1),.string (bs x2)] rfl rfl (by intro j u hj;rw[add_plain,DF];exact(Dn▸hj)) (by simp[Value.oneCell']) (by unfold maxLen;omega) (by omega) (by rw[Aq];have:=Ai BJ.box;omega) ?_;intro v2 w2 Dc DV _ _;obtain⟨g2,cap2,rfl⟩:=ownsRow_succ Dc;have F3:=Hi (BJ.add DV Dc);clear Dc DV);go_roundw
     case rel=>exact⟨k+1,m+1,o++[(x1,x2)],false,by omega,by simp[M9.out],by omega,by go_num,rfl,HN,F3⟩
     case measure=>simp[intOf];omega
    |true=>
     have De:Op.bytesLess x1 c.name=true:=(by rw[Go.Proofs.bytesLess_eq];simpa using h1);have hne:(x1 == c.name)=false:=(by simpa using L6 h1);have HN:=Hi (show(o++[(x1,x2)])++putL c true (A.drop (k+1))=putL c gn A by rw[←Jn.out];simp[h1,L6 h1]);clear h1;go_wp2_with fail;go_region;have BF:=Hi Gb.drew;clear b0 b1 b2 KW ER;generalize wr.drew=W1 at BF ⊢;obtain⟨b0,b1,b2,_,_,_⟩:=Nw BF.box;obtain⟨p0,p1⟩:=HP _ BF.Ay;go_wp2_with fail;go_region;have BJ:=Hi BF.drew;clear b0 b1 b2 p0 p1;generalize W1.drew=W2 at BJ ⊢;obtain⟨b0,b1,b2,_,_,_⟩:=Nw BJ.box;obtain⟨p0,p1⟩:=HP _ BJ.Ay;go_wp2_with (at_builtin;refine wpList_append_own_at _ rfl _ _ 142 rfl (w.heap.size+1) 249 i0 _ 2 32 underlying142 Ba AQ AU AV rfl (by decide) (.slice oq m Ho) m _ rfl (BJ.row.alloc _) ⟨W2.heap.size,0,none⟩ 1 1 [.string (bs x1),.string (bs x2)] rfl rfl (by intro j u hj;rw[add_plain,DF];exact(Dn▸hj)) (by simp[Value.oneCell']) (by unfold maxLen;omega) (by omega) (by rw[Aq];have:=Ai BJ.box;omega) ?_;intro v2 w2 Dc DV _ _;obtain⟨g2,cap2,rfl⟩:=ownsRow_succ Dc;have F3:=Hi (BJ.add DV Dc);clear Dc DV);go_roundw
     case rel=>exact⟨k+1,m+1,o++[(x1,x2)],true,by omega,by simp[M9.out],by omega,by go_num,rfl,HN,F3⟩
     case measure=>simp[intOf];omega
   ·by_cases h2:x1=c.name
    ·
     cases d with
     |false=>
      have De:Op.bytesLess x1 c.name=false:=(by rw[Go.Proofs.bytesLess_eq];simpa using h1);have hne:(x1 == c.name)=true:=(by simpa using h2);have HN:=Hi (show(o++[(c.name,c.data)])++putL c true (A.drop (k+1))=putL c gn A by rw[←Jn.out];simp[h2,Rf]);clear h1 h2;go_wp2_with fail;go_region;have BF:=Hi Gb.drew;clear b0 b1 b2 KW ER;generalize wr.drew=W1 at BF ⊢;obtain⟨b0,b1,b2,_,_,_⟩:=Nw BF.box;obtain⟨p0,p1⟩:=HP _ BF.Ay;go_wp2_with (at_builtin;refine wpList_append_own_at _ rfl _ _ 142 rfl (w.heap.size+1) 249 i0 _ 2 32 underlying142 Ba AQ AU AV rfl (by decide) (.slice oq m Ho) m _ rfl (BF.row.alloc _) ⟨W1.heap.size,0,none⟩ 1 1 [.string (bs c.name),.string (bs c.data)] rfl rfl (by intro j u hj;rw[add_plain,DF];exact(Dn▸hj)) (by simp[Value.oneCell']) (by unfold maxLen;omega) (by omega) (by rw[Aq];have:=Ai BF.box;omega) ?_;intro v1 w1 Dj Mk _ _;obtain⟨g1,UX,rfl⟩:=ownsRow_succ Dj;have GK:=Hi (BF.add Mk Dj);clear Dj Mk);have BJ:=Hi GK.drew;obtain⟨e0,e1,e2,_,_,_⟩:=Nw GK.box;obtain⟨r0,r1⟩:=HP _ GK.Ay;go_wp2_with fail;go_region;clear b0 b1 b2 p0 p1 e0 e1 e2 r0 r1;generalize w1.drew=W2 at BJ ⊢;obtain⟨b0,b1,b2,_,_,_⟩:=Nw BJ.box;obtain⟨p0,p1⟩:=HP _ BJ.Ay;go_wp2_with fail;go_roundw
      case rel=>exact⟨k+1,m+1,o++[(c.name,c.data)],true,by omega,by simp[M9.out],by omega,by go_num,rfl,HN,BJ⟩
      case measure=>simp[intOf];omega
     |true=>
      have De:Op.bytesLess x1 c.name=false:=(by rw[Go.Proofs.bytesLess_eq];simpa using h1);have hne:(x1 == c.name)=true:=(by simpa using h2);have HN:=Hi (show(o)++putL c true (A.drop (k+1))=putL c gn A by rw[←Jn.out];simp[h2]);clear h1 h2;go_wp2_with fail;go_region;have BF:=Hi Gb.drew;clear b0 b1 b2 KW ER;generalize wr.drew=W1 at BF ⊢;obtain⟨b0,b1,b2,_,_,_⟩:=Nw BF.box;obtain⟨p0,p1⟩:=HP _ BF.Ay;go_wp2_with fail;go_region;have BJ:=Hi BF.drew;clear b0 b1 b2 p0 p1;generalize W1.drew=W2 at BJ ⊢;obtain⟨b0,b1,b2,_,_,_⟩:=Nw BJ.box;obtain⟨p0,p1⟩:=HP _ BJ.Ay;go_wp2_with fail;go_roundw
      case rel=>exact⟨k+1,m,o,true,by omega,by simp[M9.out],by omega,by go_num,rfl,HN,BJ⟩
      case measure=>simp[intOf];omega
    ·
     cases d with
     |false=>
      have De:Op.bytesLess x1 c.name=false:=(by rw[Go.Proofs.bytesLess_eq];simpa using h1);have hne:(x1 == c.name)=false:=(by simpa using h2);have HN:=Hi (show((o++[(c.name,c.data)])++[(x1,x2)])++putL c true (A.drop (k+1))=putL c gn A by rw[←Jn.out];simp[h1,h2]);clear h1 h2;go_wp2_with fail;go_region;have BF:=Hi Gb.drew;clear b0 b1 b2 KW ER;generalize wr.drew=W1 at BF ⊢;obtain⟨b0,b1,b2,_,_,_⟩:=Nw BF.box;obtain⟨p0,p1⟩:=HP _ BF.Ay;go_wp2_with (at_builtin;refine wpList_append_own_at _ rfl _ _ 142 rfl (w.heap.size+1) 249 i0 _ 2 32 underlying142 Ba AQ AU AV rfl (by decide) (.slice oq m Ho) m _ rfl (BF.row.alloc _) ⟨W1.heap.size,0,none⟩ 1 1 [.string (bs c.name),.string (bs c.data)] rfl rfl (by intro j u hj;rw[add_plain,DF];exact(Dn▸hj)) (by simp[Value.oneCell']) (by unfold maxLen;omega) (by omega) (by rw[Aq];have:=Ai BF.box;omega) ?_;intro v1 w1 Dj Mk _ _;obtain⟨g1,UX,rfl⟩:=ownsRow_succ Dj;have GK:=Hi (BF.add Mk Dj);clear Dj Mk);have BJ:=Hi GK.drew;obtain⟨e0,e1,e2,_,_,_⟩:=Nw GK.box;obtain⟨r0,r1⟩:=HP _ GK.Ay;go_wp2_with fail;go_region;clear b0 b1 b2 p0 p1 e0 e1 e2 r0 r1;generalize w1.drew=W2 at BJ ⊢;obtain⟨b0,b1,b2,_,_,_⟩:=Nw BJ.box;obtain⟨p0,p1⟩:=HP _ BJ.Ay
      go_wp2_with (at_builtin;refine wpList_append_own_at _ rfl _ _ 142 rfl (w.heap.size+1) 249 i0 _ 2 32 underlying142 Ba AQ AU AV rfl (by decide) (.slice (some ⟨g1,0,none⟩) (m+1) UX) (m+1) _ rfl (BJ.row.alloc _) ⟨W2.heap.size,0,none⟩ 1 1 [.string (bs x1),.string (bs x2)] rfl rfl (by intro j u hj;rw[add_plain,DF];exact(Dn▸hj)) (by simp[Value.oneCell']) (by unfold maxLen;omega) (by omega) (by rw[Aq];have:=Ai BJ.box;omega) ?_;intro v2 w2 Dc DV _ _;obtain⟨g2,cap2,rfl⟩:=ownsRow_succ Dc;have F3:=Hi (BJ.add DV Dc);clear Dc DV);go_roundw
      case rel=>exact⟨k+1,m+1+1,(o++[(c.name,c.data)])++[(x1,x2)],true,by omega,by simp[M9.out],by omega,by go_num,rfl,HN,F3⟩
      case measure=>simp[intOf];omega
     |true=>
      have De:Op.bytesLess x1 c.name=false:=(by rw[Go.Proofs.bytesLess_eq];simpa using h1);have hne:(x1 == c.name)=false:=(by simpa using h2);have HN:=Hi (show(o++[(x1,x2)])++putL c true (A.drop (k+1))=putL c gn A by rw[←Jn.out];simp[h2]);clear h1 h2;go_wp2_with fail;go_region;have BF:=Hi Gb.drew;clear b0 b1 b2 KW ER;generalize wr.drew=W1 at BF ⊢;obtain⟨b0,b1,b2,_,_,_⟩:=Nw BF.box;obtain⟨p0,p1⟩:=HP _ BF.Ay;go_wp2_with fail;go_region;have BJ:=Hi BF.drew;clear b0 b1 b2 p0 p1;generalize W1.drew=W2 at BJ ⊢;obtain⟨b0,b1,b2,_,_,_⟩:=Nw BJ.box;obtain⟨p0,p1⟩:=HP _ BJ.Ay;go_wp2_with (at_builtin;refine wpList_append_own_at _ rfl _ _ 142 rfl (w.heap.size+1) 249 i0 _ 2 32 underlying142 Ba AQ AU AV rfl (by decide) (.slice oq m Ho) m _ rfl (BJ.row.alloc _) ⟨W2.heap.size,0,none⟩ 1 1 [.string (bs x1),.string (bs x2)] rfl rfl (by intro j u hj;rw[add_plain,DF];exact(Dn▸hj)) (by simp[Value.oneCell']) (by unfold maxLen;omega) (by omega) (by rw[Aq];have:=Ai BJ.box;omega) ?_;intro v2 w2 Dc DV _ _;obtain⟨g2,cap2,rfl⟩:=ownsRow_succ Dc;have F3:=Hi (BJ.add DV Dc);clear Dc DV);go_roundw
      case rel=>exact⟨k+1,m+1,o++[(x1,x2)],true,by omega,by simp[M9.out],by omega,by go_num,rfl,HN,F3⟩
      case measure=>simp[intOf];omega
  ·obtain rfl:k=A.length:=(by omega);rw[List.drop_length] at Fu;obtain⟨b0,b1,b2,_,_,_⟩:=Nw AP.box;clear AP;cases d with
   |false=>
    have HN:=Hi (show o++[(c.name,c.data)]=Aj.on A c by rw[←HE.out,←Fu];rfl);clear Fu;go_wp2_with (at_builtin;refine wpList_append_own_at _ rfl _ _ 142 rfl (w.heap.size+1) 249 i0 _ 2 32 underlying142 Ba AQ AU AV rfl (by decide) (.slice oq m Ho) m _ rfl (Gb.row.alloc _) ⟨wr.heap.size,0,none⟩ 1 1 [.string (bs c.name),.string (bs c.data)] rfl rfl (by intro j u hj;rw[add_plain,DF];exact(Dn▸hj)) (by simp[Value.oneCell']) (by unfold maxLen;omega) (by omega) (by rw[Aq];have:=Ai Gb.box;omega) ?_;intro v0 w0 Mv YT _ _;obtain⟨g0,cap0,rfl⟩:=ownsRow_succ Mv;have Wu:=Hi (Gb.add YT Mv);clear Mv YT);go_ret;refine⟨_,rfl,?_,Wu.Ay⟩;rw[←HN.out];unfold Le;rw[Au,M9.out];exact Le.abZ Wu.row (by omega)
   |true=>
    have HN:=Hi (show o=Aj.on A c by rw[←HE.out,←Fu];exact(EH o).symm);clear Fu;go_wp2_with fail;go_ret;refine⟨_,rfl,?_,Gb.Ay⟩;rw[←HN.out];unfold Le;rw[M9.out];exact Le.abZ Gb.row (by omega)
end
end
section
open Go.RowKit Go.Maps
open Fil Man
section
variable {w w':World}
theorem aA4(A:M)(k:Nat)(h:k < A.length):used (A.take (k+1))=used (A.take k)+8+A[k].1.length+A[k].2.length:=by
 unfold used;rw[Cw h,CF,JH];simp[cost];omega
theorem anK(A:M)(k:Nat):used (A.take k)≤used A:=by
 unfold used;have:((A.take k).map cost).sum+((A.drop k).map cost).sum=(A.map cost).sum:=by rw[←JH,←CF,M4]
 omega
theorem acQ{q:Option Addr}{cap:Nat}{A:M}(h:Le w 0 (.slice q A.length cap) A)(hc:used A≤1000000000):
  Calls prog 106 #[.slice q A.length cap] w fun e w'=>e=.returned (.int .i64 (used A:Nat))∧Bw w w':=by
 have HR:=Hi h;have I9:=Rn A;clear h;go_enter func106,ntmps106;go_wp2_with fail
 go_loopw [3,4] (fun n i wr=>∃ k:Nat,k≤A.length∧i=.int .i64 (k:Int)∧n=.int .i64 (used (A.take k):Nat)∧Bw w wr) (fun _ i _=>A.length -(intOf i).toNat)
 case atStart=>exact⟨0,AB _,rfl,rfl,Af _ _⟩
 case round=>
  obtain⟨k,hk,rfl,rfl,hb⟩:=hrel;have HB:=Hi hb;have hut:=anK A k;by_cases hlt:k < A.length
  ·obtain⟨p,Hg,KW,ER⟩:=Le.index (Bh HR (ub hb) (fun _ _ f=>f)) hlt;have GD:=aA4 A k hlt;have Ep:=anK A (k+1);have F4:=Hi GD;obtain⟨x1,EE⟩:=ex (A[k].1);obtain⟨x2,E8⟩:=ex (A[k].2);rw[EE] at KW;rw[E8] at ER;rw[EE,E8] at F4 GD;obtain⟨U,hU⟩:=ex (used (A.take k));rw[hU] at F4 GD hut ⊢;have Ad:U+8+x1.length+x2.length≤1000000000:=(by omega);clear hb EE E8 hU GD Ep hut;go_wp2_with fail;go_region;all_goals
    go_wp2_with fail;go_roundw
    case rel=>exact⟨k+1,by omega,by go_num,by rw[F4.out];congr 1,HB.drew⟩
    case measure=>simp[intOf];omega
  ·obtain rfl:k=A.length:=(by omega);rw[CY];go_wp2_with fail;go_ret;exact⟨rfl,HB⟩
theorem amz{r cap:Nat}{a:Option Addr}{v:Value}{A:M}{most:Int}{l:List Aj}(h:GL w r v A most)(hu:Up A)(hl:DW w a l)(hA:A.length≤500000)(EB:l.length≤500000):
  Calls prog 105 #[.pointer (some ⟨r,0,none⟩),.slice a l.length cap] w fun e w'=>∃ v',e=.returned v'∧Le w' 0 v' (made A l)∧Bw w w':=by
 have c0:w.cell? ⟨r,0,none⟩=some v:=cr h.1;have HR:=Hi h.2;have HL:=Hi hl;clear h hl;go_enter func105,ntmps105;go_wp2_with fail;clear c0
 go_loopw [5,6] (fun ov i wr=>∃ (k:Nat) (F:M),k≤l.length∧F=made A (l.take k)∧i=.int .i64 (k:Int)∧Le wr 0 ov F∧Bw w wr) (fun _ i _=>l.length -(intOf i).toNat)
 case atStart=>exact⟨0,A,AB _,rfl,rfl,HR,Af _ _⟩
 case round=>
  obtain⟨k,F,hk,hF,rfl,Ah,hb⟩:=hrel;obtain⟨oq,Ho,rfl⟩:=Bg Ah;have HB:=Hi hb;have HW:=Hi Ah;have HF:=Hi hF;have WS:F.length≤1000000:=by
   have:=ac2 A (l.take k);rw[hF];rw[AL] at this;omega
  have hFu:Up F:=by rw[hF];exact hu.made _
  clear Ah hF;by_cases hlt:k < l.length
  ·obtain⟨p,Hg,hp,_⟩:=(HL.below hb).index cap k hlt;obtain⟨p0,p1,p2⟩:=hp.cells;have FK:=Hi (ayi (w:=wr) l[k] HW hFu WS);have Y8:=Hi (show made A (l.take (k+1))=Aj.on (made A (l.take k)) l[k] by rw[Cw hlt,ac3]);generalize l[k]=c at*;clear hb hp hFu;go_wp2_with fail;refine FK.mono ?_;rintro e w2⟨v2,rfl,Cy,A8⟩;have BI:=Hi Cy;have Ag:=Hi (HB.trans (A8.mono HB.size));clear Cy A8;go_wp2_with fail;go_roundw
   case rel=>exact⟨k+1,Aj.on F c,by omega,by rw[Y8.out,HF.out],by go_num,Le.abZ BI (AB _),Ag⟩
   case measure=>simp[intOf];omega
  ·obtain rfl:k=l.length:=(by omega);have HE:=Hi (show F=made A l by rw[HF.out,CY]);clear hb;go_wp2_with fail;go_ret;exact⟨_,rfl,by rw[←HE.out];exact HW.out,HB⟩
theorem get_at{A:M}{k:Nat}{nm:T}(hk:k < A.length)(h:∀ j,(hj:j < A.length)→j < k→A[j].1≠nm)(he:A[k].1=nm):Fil.get A nm=some A[k].2:=by
 unfold Fil.get;rw[List.find?_eq_some_iff_getElem.2 ⟨by simpa using he,k,hk,rfl,fun j hj=>by simpa using h j (by omega) hj⟩];rfl
theorem asG{A:M}{nm:T}(h:∀ j,(hj:j < A.length)→A[j].1≠nm):Fil.get A nm=none:=get_none.2 fun p hp=>by
 obtain⟨j,hj,rfl⟩:=List.getElem_of_mem hp;exact h j hj
theorem am9{r:Nat}{v:Value}{A:M}{most:Int}(h:GL w r v A most)(hA:A.length≤1000000)(nm:T):
  Calls prog 154 #[.pointer (some ⟨r,0,none⟩),.string (bs nm)] w fun e w'=>e=.returned (.tuple #[.string (bs ((Fil.get A nm).getD [])),.bool (Fil.get A nm).isSome])∧Bw w w':=by
 obtain⟨oq,Ho,rfl⟩:=Bg h.2;have HR:=Hi h;clear h;go_enter func154,ntmps154;go_wp2_with fail
 go_loopw [6] (fun i wr=>∃ k:Nat,k≤A.length∧i=.int .i64 (k:Int)∧(∀ j,(hj:j < A.length)→j < k→A[j].1≠nm)∧Bw w wr) (fun i _=>A.length -(intOf i).toNat)
 case atStart=>exact⟨0,AB _,rfl,fun j _ e=>by omega,Af _ _⟩
 case round=>
  obtain⟨k,hk,rfl,AY,hb⟩:=hrel;have Fy:=Hi AY;have HB:=Hi hb;have hr:=HR.below hb;have c0:wr.cell? ⟨r,0,none⟩=some (.slice oq A.length Ho):=cr hr.1;clear AY;by_cases hlt:k < A.length
  ·obtain⟨p,Hg,KW,ER⟩:=Le.index hr.2 hlt;obtain⟨x1,EE⟩:=ex (A[k].1);obtain⟨x2,E8⟩:=ex (A[k].2);rw[EE] at KW;rw[E8] at ER;by_cases he:x1=nm
   ·have HG:=Hi (get_at hlt Fy (EE.trans he));rw[E8] at HG;subst he;clear hr hb EE E8;go_wp2_with fail;go_ret2;exact⟨by rw[HG.out];rfl,HB⟩
   ·have heb:(x1 == nm)=false:=(by simpa using he);have az:=Hi (show A[k].1≠nm by rw[EE];exact he);clear hr hb EE E8;go_wp2_with fail;go_roundw
    case rel=>exact⟨k+1,by omega,by go_num,fun j hj Xb=>by
     by_cases e:j=k
     ·subst e;exact az.out
     ·exact Fy j hj (by omega),HB⟩
    case measure=>simp[intOf];omega
  ·have HG:=Hi (asG (A:=A) (nm:=nm) (fun j hj=>Fy j hj (by omega)));obtain rfl:k=A.length:=(by omega);clear hr hb;go_wp2_with fail;go_ret2;exact⟨by rw[HG.out];rfl,HB⟩
end
end
section
open Go.RowKit Go.Maps
open Fil Man
section
variable {w w':World}
theorem axK{r n cap:Nat}{a:Option Addr}{v:Value}{A:M}{l:List Aj}(h:GL w r v A (C8 n))(hu:Up A)(hl:DW w a l)(hn:n≤16384)(hA:used A≤C8 n)(EB:l.length≤100000)(Cb:∀ c∈l,c.name.length≤maxLen∧c.data.length≤maxLen)(Ue:l.all Aj.may=true→Fx l≤1400000):
  Calls prog 33 #[.pointer (some ⟨r,0,none⟩),.slice a l.length cap] w fun e w'=>e=.returned (.int .i64 (Gu n A l))∧∃ v',GL w' r v' (F9 n A l) (C8 n)∧A7 (fun k=>k=r) w w':=by
 have Im:=ZJ hn;have I9:=Rn A;have GD:=VQ hu l;have HR:=Hi h;have HL:=Hi hl;have FQ:=Hi Cb;clear h hl Cb;go_enter func33,ntmps33;go_wp2_with fail
 go_loopw [5] (fun i wr=>∃ k:Nat,k≤l.length∧i=.int .i64 (k:Int)∧(l.take k).all Aj.may=true∧Bw w wr) (fun i _=>l.length -(intOf i).toNat)
 case atStart=>exact⟨0,AB _,rfl,rfl,Af _ _⟩
 case round=>
  obtain⟨k,hk,rfl,AY,hb⟩:=hrel;have Fy:=Hi AY;have HB:=Hi hb;clear AY;by_cases hlt:k < l.length
  ·obtain⟨p,Hg,hp,_⟩:=(HL.below hb).index cap k hlt;obtain⟨p0,p1,p2⟩:=hp.cells;obtain⟨o1,o2⟩:=FQ _ (Ci hlt);have HM:=Hi (amf l[k].name l[k].data l[k].gone wr o1 o2);obtain⟨mv,DZ⟩:=ex (Aj.may l[k]);rw[show(⟨l[k].name,l[k].data,l[k].gone⟩:Aj)=l[k] from rfl,DZ] at HM;have QL:=Hi DZ;have Ms:=Ci hlt;cases mv with
   |true=>
    have HN:=Hi (show(l.take (k+1)).all Aj.may=true by rw[Cw hlt,List.all_append,Fy.out,Bool.true_and];simp[QL.out]);clear hb hp Ms DZ o1 o2;generalize l[k]=c at*;go_wp2_with fail;refine HM.mono ?_;rintro e w2⟨rfl,A8⟩;have Ag:=Hi (HB.trans (A8.mono HB.size));clear A8;go_wp2_with fail;go_roundw
    case rel=>exact⟨k+1,by omega,by go_num,HN,Ag⟩
    case measure=>simp[intOf];omega
   |false=>
    have Qf:l.all Aj.may=false:=by
     rw[Bool.eq_false_iff];intro e;rw[Nz] at e;rw[e _ Ms] at DZ;cases DZ
    have HC:=Hi (show Gu n A l=2 by unfold Gu;rw[Ab Qf]);have HX:=Hi (show F9 n A l=A by unfold F9;rw[Aa (by rw[Qf];simp)]);clear hb hp Ms DZ o1 o2 Qf;generalize l[k]=c at*;go_wp2_with fail;refine HM.mono ?_;rintro e w2⟨rfl,A8⟩;have Ag:=Hi (HB.trans (A8.mono HB.size));clear A8;go_wp2_with fail;go_ret;exact⟨by rw[HC.out];rfl,v,by rw[HX.out];exact HR.below Ag,A7.of_below Ag⟩
  ·obtain rfl:k=l.length:=(by omega);have AY:=Fy.out;rw[CY] at AY;have hw:=Ue AY;have HW:=Hi (amz (cap:=cap) (HR.below hb) hu (HL.below hb) (by omega) (by omega));have Ru:=Hi AY;clear hb AY Fy;go_wp2_with fail;refine HW.mono ?_;rintro e w2⟨v2,rfl,Cy,A8⟩;obtain⟨q2,cap2,rfl⟩:=Bg Cy;have Ag:=Hi (HB.trans (A8.mono HB.size));have BI:=Hi Cy;have F4:=Hi (fun(W:World) (hW:Bw w2 W)=>acQ (Bh Cy (ub hW) (fun _ _ f=>f)) (by omega));have Fv:=HR.below Ag.out;have c1:w2.cell? ⟨r,1,none⟩=some (.int .i64 (C8 n:Int)):=cr Fv.1;have HRF:=Hi Fv;obtain⟨F,hF⟩:=ex (made A l);rw[hF] at F4 BI ⊢;have Y1:=Hi hF;obtain⟨U,hU⟩:=ex (used F);rw[hU] at F4;rw[hF,hU] at GD;have gV:=Hi hU;clear Cy A8 Fv hU hF;have jh:Gu n A l=if C8 n < U then 4 else 0:=by
    unfold Gu;rw[Aa (by rw[Ru.out];simp),Y1.out,gV.out]
   have jI:F9 n A l=if C8 n < U then A else F:=by
    unfold F9;rw[Y1.out,gV.out];by_cases e:C8 n < U
    ·rw[Ab e,Aa (by omega)]
    ·rw[Aa e,Ab ⟨Ru,by omega⟩]
   have Rx:=Hi (Cc jh jI);clear jh jI I9 hw EB hA Im hlt hk;by_cases Gy:C8 n < U
   ·have Qa:(C8 n:Int) < (U:Int):=(by omega);have HG:=Hi Gy;clear Gy;go_wp2_with fail
    go_region_held3 (fun V=>V.cell? ⟨r,1,none⟩=some (.int .i64 (C8 n:Int))) (go_keep)
     (first|(go_at_call 106;refine(F4 _ ((Af _ _).drew)).mono ?_;rintro e wA ⟨rfl,Dr⟩;have Ao:=Hi (Ag.trans ((show Bw w2 wA from((Af _ w2).drew).trans Dr).mono Ag.size));clear Dr;have cA:wA.cell? ⟨r,1,none⟩=some (.int .i64 (C8 n:Int)):=(by rw[BA _ _ _ _ _ _ (HR.below Ao).1];rfl)))
    all_goals
     go_wp2_with fail;go_ret;exact⟨by rw[Rx.1,Ab HG.out];rfl,v,by rw[Rx.2,Ab HG.out];exact HR.below Ao,A7.of_below Ao⟩
   ·have Qa:¬ (C8 n:Int) < (U:Int):=(by omega);have HG:=Hi Gy;clear Gy;go_wp2_with fail
    go_region_held3 (fun V=>V.cell? ⟨r,1,none⟩=some (.int .i64 (C8 n:Int))) (go_keep)
     (first|(go_at_call 106;refine(F4 _ ((Af _ _).drew)).mono ?_;rintro e wA ⟨rfl,Dr⟩;have Ao:=Hi ((show Bw w2 wA from((Af _ w2).drew).trans Dr));clear Dr;have cA:wA.cell? ⟨r,1,none⟩=some (.int .i64 (C8 n:Int)):=(by rw[BA _ _ _ _ _ _ (HR.below (Ag.trans (Ao.mono Ag.size))).1];rfl)))
    all_goals
     have CL:=Hi (Ag.trans (Ao.mono Ag.size));have Fv:=HR.below CL.out;have d0:wA.cell? ⟨r,0,none⟩=some v:=cr Fv.1;have df:=CJ _ _ 0 _ _ Fv.1;have Hd:=Hi (Cc Fv.1 (Bh BI (ub Ao) (fun _ _ f=>f)));clear Fv c1;go_wp2_with fail;go_ret;refine⟨by rw[Rx.1,Aa HG.out];rfl,.slice q2 F.length cap2,?_,(A7.of_below (F:=fun k=>k=r) CL).setCell (p:=⟨r,0,none⟩) (.inl rfl) _⟩;rw[Rx.2,Aa HG.out];refine⟨BU _ _ 0 _ _ _ Hd.1,Bh Hd.2 ((A7.refl (fun k=>k=r) wA).setCell (p:=⟨r,0,none⟩) (.inl rfl) _) (fun g hg e=>?_)⟩;rw[e] at hg;exact AA.ne (BQ Hd.2 hg) ⟨_,_,Hd.1⟩ (by decide) rfl
end
end
namespace Prs
open Go.RowKit Go.Maps
open Fil Man Wal
theorem amr{w:World}{a:Option Addr}{cap:Nat}{l:M}(h:AO w a l)(hl:l.length≤1000000):
  Calls prog 205 #[.slice a l.length cap] w fun e w'=>e=.returned (.bool (decide (Cr l)))∧Bw w w':=by
 have HH:=Hi h;clear h;go_enter func205,ntmps205;go_wp2_with fail
 go_loopw [3] (fun i wr=>∃ k:Nat,1≤k∧(k≤l.length∨k=1)∧i=.int .i64 (k:Int)∧Cr (l.take k)∧Bw w wr) (fun i _=>l.length -(intOf i).toNat)
 case atStart=>exact⟨1,Ac _,.inr rfl,rfl,by
  cases l with
  |nil=>exact List.Pairwise.nil
  |cons x l=>exact Tf _ _,Af _ _⟩
 case round=>
  obtain⟨k,hk1,hk,rfl,hs,hb⟩:=hrel;by_cases hlt:k < l.length
  ·obtain⟨p,Cu,hp,-⟩:=HH.index cap k hlt;obtain⟨p',aaz,Mw,-⟩:=HH.index cap (k -1) (by omega);have Qj:IntKind.i64.wrap ((k:Int) -1)=((k -1:Nat):Int):=(by rw[Ei _ (by omega)];omega);have c1:=(hp.upd (ub hb) (fun f=>f)).key;have c2:=(Mw.upd (ub hb) (fun f=>f)).key;have HT:=Hi (fun hn=>amX hs hk1 hlt hn);have HN:=Hi (fun hn=>ale hk1 hlt hn);have HB:=Hi hb;clear hs hb hp Mw;generalize l[k]=x at*;generalize l[k -1]'(by omega)=y at*;by_cases Io:x.1 < y.1
   ·have De:Op.bytesLess x.1 y.1=true:=(by rw[Go.Proofs.bytesLess_eq];simpa using Io);have wT:=Hi (HN Io);clear HT HN Io;go_wp2_with fail;go_region;go_wp2_with fail;go_ret;exact⟨by first|rfl|(rw[Pp wT.out];rfl),HB.drew⟩
   ·have De:Op.bytesLess x.1 y.1=false:=(by rw[Go.Proofs.bytesLess_eq];simpa using Io);have TD:=Hi (HT Io);clear HT HN Io;go_wp2_with fail;go_region;go_wp2_with fail;go_roundw
    case rel=>exact⟨k+1,by omega,.inl (by omega),by go_num,TD.out,HB.drew⟩
    case measure=>simp[intOf];omega
  ·have HS:=Hi (show Cr l from by
    have:=hs;rwa[Gn (by omega)] at this)
   have HB:=Hi hb;have jF:¬ (k:Int) < (l.length:Int):=(by omega);clear hs hb hlt;go_wp2_with fail;go_ret;exact⟨by first|rfl|(rw[Kr HS.out];rfl),HB⟩
def apI(l:M)(k:Nat)(v:Value):Prop:=∃ S,v=.string (bs (Crc.le 2 l.length++S))∧textsE (flat (l.take k))=some S
theorem ax4{l:M}{k:Nat}{S x y:T}(hk:k < l.length)(h:textsE (flat (l.take k))=some S)(hx:l[k].1=x)(hy:l[k].2=y)(h1:x.length≤65535)(h2:y.length≤65535):textsE (flat (l.take (k+1)))=some (S++(Crc.le 2 x.length++x)++(Crc.le 2 y.length++y)):=by
 have e1:textsE (flat (l.take k)++[x])=some (S++(Crc.le 2 x.length++x)):=by
  rw[ad8 h x];unfold DJ;rw[Ab h1];rfl
 rw[zw hk,hx,hy,show flat (l.take k)++[x,y]=(flat (l.take k)++[x])++[y] by simp,ad8 e1 y];unfold DJ;rw[Ab h2];rfl
theorem rput16_w{w:World}{a:Option Addr}{cap:Nat}{l:M}(h:AO w a l)(hs:Cr l)(hl:l.length≤60000)(CB:rowLen (flat l)≤1000000000):
  Calls prog 156 #[.slice a l.length cap] w fun e w'=>e=.returned (.tuple #[.string (bs (Dz l).1),.int .i64 (Dz l).2])∧Bw w w':=by
 have HH:=Hi h;have UN:=Hi CB;have HS:=Hi hs;have TB:=Hi (show Fh l=(textsE (flat l)).map (Crc.le 2 l.length++ ·) from by unfold Fh;rw[Ab (by omega)]);have mX:=Hi (show Dz l=match Fh l with|none=>([],5)|some s=>(s,0) from rfl);generalize Dz l=V at*;clear h CB hs;go_enter func156,ntmps156;go_wp2_with fail;refine(sN l.length 2 _ (by omega) (by decide)).mono ?_;rintro e w1⟨rfl,hb⟩;have HB1:=Hi hb;clear hb;go_wp2_with fail
 go_loopw [4,5] (fun v i wr=>∃ (k:Nat),k≤l.length∧i=.int .i64 k∧apI l k v∧Bw w wr) (fun _ i _=>l.length -(intOf i).toNat)
 case atStart=>exact⟨0,by omega,rfl,⟨[],by rw[EH],rfl⟩,HB1⟩
 case round=>
  clear HB1;obtain⟨k,hk,rfl,⟨S,rfl,hS⟩,hb⟩:=hrel;have UM:=Hi hS;have HB:=Hi hb;clear hS hb;by_cases hlt:k < l.length
  ·obtain⟨q,Hg,hq,-⟩:=(HH.below HB).index cap k hlt;have c0:=hq.key;have c1:=hq.val;have F7:=amk l (k+1);have FV:=VP UM.out;have FW:=UN.out;have Ik:rowLen (flat (l.take (k+1)))=rowLen (flat (l.take k))+(2+l[k].1.length)+(2+l[k].2.length):=by
    rw[zw hlt];have:=amj (flat (l.take k)) [l[k].1,l[k].2];have e:rowLen [l[k].1,l[k].2]=2+((2+l[k].1.length)+(2+l[k].2.length)):=(by unfold rowLen;simp);omega
   have EL:=Hi (fun(x y:T) (hx:l[k].1=x) (hy:l[k].2=y)=>ax4 hlt UM hx hy);have adY:=Hi (fun(x y:T) (hx:l[k].1=x) (hy:l[k].2=y) (hf:65535 < x.length∨65535 < y.length)=>show textsE (flat l)=none from hf.elim (fun e=>ad9 (iC hlt (by rw[hx];simp)) e) (fun e=>ad9 (iC hlt (by rw[hy];simp)) e));obtain⟨x,hx⟩:=ex (l[k].1);obtain⟨y,hy⟩:=ex (l[k].2);have hle:S.length+x.length+y.length≤1000000000:=(by rw[←hx,←hy];omega);have MW:=Hi (EL x y hx hy);have fH:=Hi (adY x y hx hy);rw[hx] at c0;rw[hy] at c1;clear EL adY hq hx hy F7 FV FW Ik;by_cases EE:x.length≤65535
   ·by_cases Uh:y.length≤65535
    ·have Ya:=Hi (MW EE Uh);clear MW fH;go_wp2_with fail;refine(l6 x _ EE).mono ?_;rintro e w3⟨rfl,Ak⟩;have Am:=Hi (HB.trans (Ak.mono HB.size));have c1:w3.cell? ⟨q.block,q.off+1,none⟩=some (.string (bs y)):=(Ak.cell (p:=⟨q.block,q.off+1,none⟩) (BS c1)).trans c1;clear Ak;go_wp2_with fail;refine(l6 y _ Uh).mono ?_;rintro e w4⟨rfl,Ar⟩;have AZ:=Hi (Am.trans (Ar.mono Am.size));clear Ar;have BH:∀ z:T,(Crc.le 2 z.length++z).length=2+z.length:=fun z=>by rw[Au,Crc.BK]
     go_wp2_with fail;go_roundw
     case rel=>exact⟨k+1,by omega,by go_num,⟨_,by first|rfl|simp only[Dp],Ya⟩,AZ⟩
     case measure=>simp[intOf];omega
    ·have Eb:=Hi (fH (.inr (by omega)));have kz:65535 < y.length:=(by omega);clear MW fH;go_wp2_with fail;refine(l6 x _ EE).mono ?_;rintro e w3⟨rfl,Ak⟩;have Am:=Hi (HB.trans (Ak.mono HB.size));have c1:w3.cell? ⟨q.block,q.off+1,none⟩=some (.string (bs y)):=(Ak.cell (p:=⟨q.block,q.off+1,none⟩) (BS c1)).trans c1;clear Ak;go_wp2_with fail;refine(kZ y _ kz).mono ?_;rintro e w4⟨rfl,rfl⟩;go_wp2_with fail;go_ret2;exact⟨by rw[show V=([],5) from by rw[mX.out,show Fh l=none from by rw[TB.out,Eb.out];rfl]];rfl,Am⟩
   ·have Eb:=Hi (fH (.inl (by omega)));have E8:65535 < x.length:=(by omega);clear MW fH;by_cases Uh:y.length≤65535
    ·go_wp2_with fail;refine(kZ x _ E8).mono ?_;rintro e w3⟨rfl,rfl⟩;go_wp2_with fail;refine(l6 y _ Uh).mono ?_;rintro e w4⟨rfl,Ar⟩;have AZ:=Hi (HB.trans (Ar.mono HB.size));clear Ar;go_wp2_with fail;go_ret2;exact⟨by rw[show V=([],5) from by rw[mX.out,show Fh l=none from by rw[TB.out,Eb.out];rfl]];rfl,AZ⟩
    ·have kz:65535 < y.length:=(by omega);go_wp2_with fail;refine(kZ x _ E8).mono ?_;rintro e w3⟨rfl,rfl⟩;go_wp2_with fail;refine(kZ y _ kz).mono ?_;rintro e w4⟨rfl,rfl⟩;go_wp2_with fail;go_ret2;exact⟨by rw[show V=([],5) from by rw[mX.out,show Fh l=none from by rw[TB.out,Eb.out];rfl]];rfl,HB⟩
  ·obtain rfl:k=l.length:=(by omega);have nC:=Hi (amr (cap:=cap) (HH.below HB) (by omega));rw[Kr HS.out] at nC
   have HT:=Hi (show Fh l=some (Crc.le 2 l.length++S) from by
    have:=UM.out;rw[CY] at this;rw[TB.out,this];rfl)
   go_wp2_with fail;refine nC.mono ?_;rintro e w4⟨rfl,Ar⟩;have AZ:=Hi (HB.trans (Ar.mono HB.size));clear Ar;go_wp2_with fail;go_ret2;exact⟨by rw[show V=(Crc.le 2 l.length++S,0) from by rw[mX.out,HT.out]];rfl,AZ⟩
def apN(w:World)(s:T)(n:Nat)(sv lv iv:Value)(wr:World):Prop:=∃ (i:Nat) (S:T) (l:M),sv=.string (bs S)∧iv=.int .i64 (i:Int)∧mh w s n i S l lv wr
theorem am8(s:T)(L:M)(hL:GN s=some L)(w:World)(hs:s.length≤1000000000):Calls prog 202 #[.string (bs s)] w fun e w'=>∃ v,e=.returned (.tuple #[v,.int .i64 0])∧Bo w' w.heap.size v L∧Bw w w':=by
 obtain⟨i0,Ba,AQ,AU,AV⟩:=Du Qu;have h2:¬ s.length < 2:=fun h=>by unfold GN at hL;rw[Ab h] at hL;cases hL
 have Gf:∀ W,(Instr.slice 9 (.string (bs s)) none (some (.int .i64 2)) none).run prog W=.ok (.string (bs (s.take 2))) W:=fun W=>Ny prog W 9 underlying9 s 2 (by omega)
 have X3:∀ W,(Instr.slice 9 (.string (bs s)) (some (.int .i64 2)) none none).run prog W=.ok (.string (bs (s.drop 2))) W:=fun W=>LQ prog W 9 underlying9 s 2 (by omega)
 have hlt:(s.take 2).length=2:=by rw[AL];omega
 have hv:=Crc.Ji (s.take 2);rw[hlt] at hv;have Yp:=Hi (fun(W:World)=>ads (s.take 2) W (by omega));obtain⟨n,hn⟩:=ex (Crc.val (s.take 2));have FD:=Hi (show some L=(readTs (2*n) (s.drop 2)).bind fun q=>if q.2=[]∧Cr (unflat q.1) then some (unflat q.1) else none from by rw[←hL];unfold GN;rw[Aa h2,hn]);rw[hn] at Yp hv;have KT:n < 65536:=hv;have hsi:¬ (s.length:Int) < 2:=by omega
 have e2:IntKind.i64.wrap (n:Int)=(n:Int):=Ei _ (by omega);clear hn hlt hv hL;go_enter func202,ntmps202;go_wp2_with fail;refine(Yp _).mono ?_;rintro e w1⟨rfl,rfl⟩;go_wp2_with fail
 go_loopw [0,5,6] (fun sv lv iv wr=>apN w s n sv lv iv wr) (fun _ _ iv _=>n -(intOf iv).toNat)
 case atStart=>exact⟨0,s.drop 2,[],rfl,rfl,AB _,rfl,by rw[Ce];omega,by simp[flat],by unfold Bo;rw[PV];exact EI _ _ _ _,Af _ _⟩
 case round=>
  obtain⟨i,S,l,rfl,rfl,AP⟩:=hrel;have AR:=Hi AP;have YK:=AP.short;have hle:=AP.le;by_cases hlt:i < n
  ·cases hr:Ie S with
   |none=>
    have:=FD.out;rw[dO (j:=2*i) (by omega) AP.read hr] at this;cases this
   |some r=>
    obtain⟨k,n1⟩:=r;obtain⟨_,DI,_⟩:=ZG hr;have hV:EU S=(k,n1,0):=(by unfold EU;rw[hr]);have He:=Hi (fun(W:World)=>tZ S W (by omega));rw[hV] at He;have Ex:=Hi (dP (j:=2*i) (by omega) AP.read hr);have hcut:∀ W,(Instr.slice 9 (.string (bs S)) (some (.int .i64 (n1:Int))) none none).run prog W=.ok (.string (bs (S.drop n1))) W:=fun W=>LQ prog W 9 underlying9 S n1 DI
    cases Cy:Ie (S.drop n1) with
    |none=>
     have:=FD.out;rw[dO (j:=2*i+1) (by omega) Ex Cy] at this;cases this
    |some r2=>
     obtain⟨v,n2⟩:=r2;obtain⟨_,EP,_⟩:=ZG Cy;rw[Ce] at EP;have TU:EU (S.drop n1)=(v,n2,0):=(by unfold EU;rw[Cy]);have QM:=Hi (fun(W:World)=>tZ (S.drop n1) W (by rw[Ce];omega));rw[TU] at QM;have Yg:=Hi (dP (j:=2*i+1) (by omega) Ex Cy);have atQ:∀ W,(Instr.slice 9 (.string (bs S)) (some (.int .i64 ((n1:Int)+(n2:Int)))) none none).run prog W=.ok (.string (bs (S.drop (n1+n2)))) W:=fun W=>by
      have:=LQ prog W 9 underlying9 S (n1+n2) (by omega);rwa[Int.natCast_add] at this
     have Zn:IntKind.i64.wrap ((n1:Int)+(n2:Int))=(n1:Int)+(n2:Int):=Ei _ (by omega);have CB:(n1:Int)+(n2:Int)≤1000000000:=(by omega);have av0:(n1:Int)+(n2:Int)≤(S.length:Int):=(by omega);have av1:((n1:Int)+(n2:Int)).toNat=n1+n2:=(by omega);have Y9:=Hi DI;have MW:=Hi EP;obtain⟨qo,co,rfl⟩:=Bg AP.row;clear AP hV hr TU Cy DI EP;go_wp2_with fail;refine(He _).mono ?_;rintro e w2⟨rfl,rfl⟩;go_wp2_with fail;refine(QM _).mono ?_;rintro e w3⟨rfl,rfl⟩;have EZ:=Hi AR.Ay.size;go_wp2_with (at_builtin;refine wpList_append_own_at _ rfl _ _ 22 rfl w.heap.size 75 i0 _ 2 32 underlying22 Ba AQ AU AV rfl (by decide) _ l.length _ rfl (AR.row.alloc _) ⟨wr.heap.size,0,none⟩ 1 1 [.string (bs k),.string (bs v)] rfl rfl (by intro j u hj;rw[add_plain,DF];exact(Dn▸hj)) (by simp[Value.oneCell']) (by unfold maxLen;have:=AR.len;omega) (by have:=AR.len;omega) (by have:=EZ.out;simp;omega) ?_;intro v' w4 BB Az _ hat;obtain⟨gg,cap2,rfl⟩:=ownsRow_succ BB;have HO:=Hi BB;have HG:=Hi Az;clear BB Az hat)
     have Yd:=Hi (show mh w s n (i+1) (S.drop (n1+n2)) (l++[(k,v)]) (.slice (some ⟨gg,0,none⟩) (l.length+1) cap2) w4 from
      ⟨by omega,by rw[Au,AR.len];rfl,by rw[Ce];omega,by
       have:=Yg.out;rw[show 2*n -(2*i+1+1)=2*n -2*(i+1) by omega,List.drop_drop] at this;rw[this,zu]
       congr 1
       funext q
       simp[flat],by unfold Bo;rw[Au,RY];exact HO.out,
       (AR.Ay.alloc AR.Ay.size _).grown HG (by have:=AR.Ay.size;rw[Aq];omega) (fun k e=>DC AR.row e)⟩)
     go_roundw
     case rel=>
      first
      |exact⟨i+1,S.drop (n1+n2),l++[(k,v)],rfl,by go_num,Yd⟩
      |(repeat apply Exists.intro
        refine⟨?_,rfl⟩;exact⟨i+1,S.drop (n1+n2),l++[(k,v)],rfl,by go_num,Yd⟩)
     case measure=>
      show n -((i:Int)+1).toNat < n -((i:Int)).toNat
      omega
  ·obtain rfl:i=n:=(by omega);have LG:readTs (2*i) (s.drop 2)=some (flat l,S):=by
    rw[AP.read,Nat.sub_self];simp[readTs]
   have WW:=FD.out;rw[LG] at WW;simp only[Cj] at WW;rw[uG] at WW;obtain⟨qo,co,rfl,Zf,YN⟩:=Es AP.row;have XY:=Hi (amr (cap:=co) (AO.CG AP.row) (by have:=AP.len;omega));clear AP LG;by_cases hS:S=[]∧Cr l
   ·rw[Ab hS] at WW;obtain⟨hS1,pX⟩:=hS;subst hS1;obtain rfl:L=l:=G7 WW;rw[Kr pX] at XY;clear pX WW;go_wp2_with fail;refine XY.mono ?_;rintro e w2⟨rfl,hb⟩;have BI:=Hi (C9 AR.row hb);have HB:=Hi (AR.Ay.trans (hb.mono AR.Ay.size));clear hb;go_wp2_with fail;exact El (v:=.tuple #[.slice qo L.length co,.int .i64 0]) (by simp[results,results202,go_sem]) rfl ⟨_,rfl,BI,HB⟩
   ·rw[Aa hS] at WW;cases WW
end Prs
end Go.Proofs.YtmbbhdebddbhoaaGreat
