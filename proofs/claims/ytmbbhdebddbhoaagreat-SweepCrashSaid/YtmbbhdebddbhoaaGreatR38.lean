/- RMem REnt -/
import Derived.Test.YtmbbhdebddbhoaaGreatR36
import Derived.Test.YtmbbhdebddbhoaaGreatR37
set_option maxHeartbeats 4000000
set_option maxRecDepth 100000
set_option linter.all false
namespace Go.Proofs.YtmbbhdebddbhoaaGreat
open Tryz
namespace Hex
open Go.RowKit Go.Maps
open Fil Man Sha
theorem amu(s:ByteArray)(K:IntKind)(k:Nat)(h:k < s.size)(W:World):(Instr.index 9 (.string s) (.int K (k:Int))).run prog W=.ok (.int .u8 ((s[k]'h).toNat:Int)) W:=by
 have h0:(0:Int)≤(k:Int):=Int.natCast_nonneg k;have e:s[k]?=some (s[k]'h):=by rw[getElem?_pos s k h]
 simp only[Instr.index,Gp underlying9,go_sem];simp[h0,e,go_sem]
theorem afS(k:Nat)(h:k < 16)(W:World):(Instr.index 9 (.string { data:=#[48,49,50,51,52,53,54,55,56,57,97,98,99,100,101,102] }) (.int .u8 (k:Int))).run prog W=.ok (.int .u8 ((Gv k).toNat:Int)) W:=by
 have h1:=amu ({ data:=#[48,49,50,51,52,53,54,55,56,57,97,98,99,100,101,102] }:ByteArray) .u8 k h W;rw[yY k h] at h1;exact h1
theorem ama(s:T)(w:World)(hs:s.length≤1000000)(h0:0 < s.length):Calls prog 152 #[.string (bs s)] w fun e w'=>e=.returned (.string (bs (EA s)))∧Bw w w':=by
 obtain⟨i0,Ba,AQ,AU,AV⟩:=Du aU;go_enter func152,ntmps152;go_wp2_with fail
 go_loopw [3,4] (fun o i wr=>∃ (t n:Nat),t≤s.length∧n=2*t∧i=.int .i64 (t:Int)∧wr.ownsRow w.heap.size 5 1 o n (BV (EA (s.take t)))∧Bw w wr) (fun _ i _=>s.length -(intOf i).toNat)
 case atStart=>exact⟨0,0,AB _,rfl,rfl,by rw[GZ,show EA []=[] from rfl,eG];exact EI _ _ _ _,Af _ _⟩
 case round=>
  obtain⟨t,n,ht,hn,rfl,hown,hb⟩:=hrel;obtain⟨oq,Ho,rfl⟩:=Bg hown;have HO:=Hi hown;have HB:=Hi hb;by_cases hlt:t < s.length
  ·have HT:=Hi (show EA (s.take (t+1))=EA (s.take t)++[Gv (s[t].toNat / 16),Gv (s[t].toNat % 16)] from by rw[Cw hlt,aim];simp[EA]);have O7:=s[t].toNat_lt;have V8:s[t].toNat / 16 < 16:=(by omega);have zM:s[t].toNat % 16 < 16:=(by omega);have KT:n≤2000000:=(by omega);have Hg:∀ W,(Instr.index 9 (.string (bs s)) (.int .i64 (t:Int))).run prog W=.ok (.int .u8 (s[t].toNat:Int)) W:=fun W=>amu (bs s) .i64 t (by simpa using hlt) W
   generalize s[t]=x at*;have Ef:IntKind.u8.wrap ((x.toNat:Int) / 16)=(x.toNat:Int) / 16:=(by rw[ao4];omega);have hm1:((x.toNat:Int)).tmod 16=(x.toNat:Int) % 16:=Int.tmod_eq_emod_of_nonneg (by omega);have EE:∀ W,(Instr.index 9 (.string { data:=#[48,49,50,51,52,53,54,55,56,57,97,98,99,100,101,102] }) (.int .u8 ((x.toNat:Int) / 16))).run prog W=.ok (.int .u8 ((Gv (x.toNat / 16)).toNat:Int)) W:=fun W=>afS _ V8 W
   have E8:∀ W,(Instr.index 9 (.string { data:=#[48,49,50,51,52,53,54,55,56,57,97,98,99,100,101,102] }) (.int .u8 ((x.toNat:Int) % 16))).run prog W=.ok (.int .u8 ((Gv (x.toNat % 16)).toNat:Int)) W:=fun W=>afS _ zM W
   have HN:=Hi (Cc hn hlt);clear hown hb hn;go_wp2_with fail;clear hlt;refine ZT ?_
   go_region_law
    ((refine step_append_lies _ (by rfl) _ _ _ (by rfl) w.heap.size 5 i0 _ 1 1 underlying232 Ba AQ AU AV (by rfl) (by omega) (.slice oq n Ho) n (BV (EA (s.take t))) (by rfl) ((HO.alloc _).drew) ⟨wr.heap.size,0,none⟩ 2 2 [.int .u8 ((Gv (x.toNat / 16)).toNat:Int),.int .u8 ((Gv (x.toNat % 16)).toNat:Int)] (by rfl) (by rfl) (World.news_of_block (cs:=#[.int .u8 ((Gv (x.toNat / 16)).toNat:Int),.int .u8 ((Gv (x.toNat % 16)).toNat:Int)]) (t:=5) (fr:=(0,0)) (AJ wr _)) (by intro u hu;simp at hu;rcases hu with rfl|rfl<;>rfl) (by omega) (by unfold maxLen;omega) (by omega) (by rw[show((wr.alloc _).drew).heap.size=wr.heap.size+1 from Aq _ _];have:=HB.size;omega) (wr.heap.size+1) (by simp) ?_;intro gg nU w3 R9 Az hat aj7))
   all_goals
    have Am:=Hi (((HB.alloc HB.size (.cells #[.int .u8 ((Gv (x.toNat / 16)).toNat:Int),.int .u8 ((Gv (x.toNat % 16)).toNat:Int)] 5)).drew).grown Az (by rw[show((wr.alloc (.cells #[.int .u8 ((Gv (x.toNat / 16)).toNat:Int),.int .u8 ((Gv (x.toNat % 16)).toNat:Int)] 5)).drew).heap.size=wr.heap.size+1 from Aq _ _];have:=HB.size;omega) (fun j hj=>tX HO hj));have NL:=Hi R9;clear R9 Az hat;dsimp only[XD];go_wp2_with fail;go_roundw
    case rel=>
     refine⟨t+1,n+2,by have:=HN.out;omega,by have:=HN.out;omega,by go_num,?_,Am⟩;rw[HT.out,ZP,show BV [Gv (x.toNat / 16),Gv (x.toNat % 16)]=[.int .u8 ((Gv (x.toNat / 16)).toNat:Int),.int .u8 ((Gv (x.toNat % 16)).toNat:Int)] by rw[lJ,lJ,eG]];exact NL.out
    case measure=>have:=HN.2;first|(simp[intOf];done)|(simp[intOf];omega)
  ·obtain rfl:t=s.length:=(by omega);rw[CY] at hown;obtain⟨gq,e1⟩:∃ gq,oq=some ⟨gq,0,none⟩:=by
    rcases hown.2 with⟨e0,e1⟩|⟨g,cap,cur,e0,hb,_⟩
    ·omega
    ·injection e0 with e0;exact⟨g,e0⟩
   subst e1;have P7:(EA s).length=n:=(by rw[YR];omega);have U0:=ZK prog wr 232 5 9 underlying232 underlying5 underlying9 gq 0 n Ho (EA s) P7 (fun i hi=>by rw[GJ];exact afn P7 hown i hi);clear hown hb P7 hn;go_wp2_with fail;go_ret;exact⟨rfl,HB⟩
end Hex
namespace Mem
open Go.RowKit Go.Maps
open Wal Fil Man Prs Kp Cm Hex Sha
theorem acF(k:T)(w:World)(hk:k.length≤1000000):Calls prog 73 #[.string (bs k)] w fun e w'=>e=.returned (.string (bs (Ae.nm k)))∧Bw w w':=by
 have hm:({ data:=#[109] }:ByteArray)=bs [109]:=rfl;have hcut:∀ W,(Instr.slice 9 (.string (bs (Eh k))) none (some (.int .i64 8)) none).run prog W=.ok (.string (bs ((Eh k).take 8))) W:=fun W=>Ny prog W 9 underlying9 (Eh k) 8 (by rw[T9];omega)
 have KO:((Eh k).take 8).length=8:=by rw[AL,T9];rfl
 have HH:=Hi (fun(W:World)=>ama ((Eh k).take 8) W (by rw[KO];omega) (by rw[KO];omega));have hhl:(EA ((Eh k).take 8)).length≤16:=by rw[YR,KO];omega
 have HE:=Hi (show[109]++EA ((Eh k).take 8)=Ae.nm k from rfl);generalize EA ((Eh k).take 8)=hx at*;generalize (Eh k).take 8=sk at*;clear KO;go_enter func73,ntmps73;go_wp2_with fail;refine(amq k (by omega) _).mono ?_;rintro e w1⟨rfl,Ad⟩;have HB1:=Hi Ad;clear Ad;go_wp2_with fail;refine(HH _).mono ?_;rintro e w2⟨rfl,A8⟩;have Ag:=Hi (HB1.trans (A8.mono HB1.size));clear A8;go_wp2_with fail;go_ret;exact⟨by rw[←HE.out];rfl,Ag⟩
theorem axO{w:World}{a:Option Addr}{cap:Nat}{l:M}(h:AO w a l)(hs:Cr l)(hl:l.length≤60000)(CB:rowLen (flat l)≤1000000000):
  Calls prog 75 #[.slice a l.length cap] w fun e w'=>e=.returned (.tuple #[.string (bs ((BG l).getD [])),.int .i64 (if(BG l).isSome=true then 0 else 5)])∧Bw w w':=by
 have FK:=Hi (rput16_w (cap:=cap) h hs hl CB);by_cases BO:(BG l).isSome=true
 ·rw[Ab BO];obtain⟨he,hlen⟩:=WI.1 BO;have Tn:=Hi (nX BO);rw[Tn.out];rw[he] at FK;generalize (Dz l).1=s at*;have Sr:decide (65535 < (s.length:Int)+4)=false:=Pp (by omega);have JA:IntKind.i64.wrap ((s.length:Int)+4)=(s.length:Int)+4:=Ei _ (by omega);have Yi:=Hi (fun W=>uh s W (by omega));clear he BO hlen h hs CB Tn;go_enter func75,ntmps75;go_wp2_with fail;refine FK.mono ?_;rintro e w3⟨rfl,Ak⟩;have Am:=Hi Ak;clear Ak;go_wp2_with fail;refine(Yi _).mono ?_;rintro e w4⟨rfl,Ar⟩;have AZ:=Hi (Am.trans (Ar.mono Am.size));clear Ar;go_wp2_with fail;go_ret2;exact⟨rfl,AZ⟩
 ·rw[Aa BO];have hn:(BG l).getD []=[]:=by
   cases hc:BG l with
   |none=>rfl
   |some d=>rw[hc] at BO;simp at BO
  rw[hn];by_cases he:(Dz l).2=0
  ·have hlen:¬ (Dz l).1.length+4≤65535:=fun h=>BO (WI.2 ⟨he,h⟩)
   rw[he] at FK;have Od:=tH l he CB;generalize (Dz l).1=s at*;have Sr:65535 < (s.length:Int)+4:=(by omega);have JA:IntKind.i64.wrap ((s.length:Int)+4)=(s.length:Int)+4:=Ei _ (by omega);clear he BO h hs CB hn;go_enter func75,ntmps75;go_wp2_with fail;refine FK.mono ?_;rintro e w3⟨rfl,Ak⟩;have Am:=Hi Ak;clear Ak;go_wp2_with fail;go_ret2;exact⟨rfl,Am⟩
  ·have Bq:((Dz l).2 == 0)=false:=H9.2 he;generalize Dz l=V at*;clear BO h hs CB hn;go_enter func75,ntmps75;go_wp2_with fail;refine FK.mono ?_;rintro e w3⟨rfl,Ak⟩;have Am:=Hi Ak;clear Ak;go_wp2_with fail;go_ret2;exact⟨rfl,Am⟩
theorem XF{w:World}{base cap k:Nat}{q:Option Addr}{A:M}(h:Bo w base (.slice q A.length cap) A)(hk:k < A.length):
  ∃ p:Addr,(∀ W,(Instr.indexAt 22 (.slice q A.length cap) (.int .i64 (k:Int))).run prog W=.ok (.pointer (some p)) W)∧w.cell? p=some (.string (bs A[k].1))∧w.cell? ⟨p.block,p.off+1,none⟩=some (.string (bs A[k].2)):=by
 obtain⟨p,h1,h2,-⟩:=(AO.CG h).index cap k hk;exact⟨p,h1,h2.key,h2.val⟩
theorem Nv{W:World}{g:Nat}{a b:Value}{t:TypeId}(h:W.heap[g]?=some (.cells #[a,b] t)):W.cell? ⟨g,0,none⟩=some a∧W.cell? ⟨g,1,none⟩=some b:=⟨by rw[BA W g _ _ _ _ h];rfl,by rw[BA W g _ _ _ _ h];rfl⟩
section
variable {w w':World}
structure Yx(w W:World)(ov:Value)(m:Nat)(o:M)(c:Aj)(gn:Bool):Prop where
 row:W.ownsRow (w.heap.size+1) 75 2 ov m (Da o)
 Ay:Bw w W
 box:W.heap[w.heap.size]?=some (.cells #[.string (bs c.name),.string (bs c.data)] 75)
theorem Yx.drew{W:World}{ov:Value}{m:Nat}{o:M}{c:Aj}{gn:Bool}(h:Yx w W ov m o c gn):Yx w W.drew ov m o c gn:=⟨h.row.drew,h.Ay.drew,h.box⟩
theorem Yx.add{W W2:World}{ov v2:Value}{m:Nat}{o:M}{c:Aj}{gn:Bool}{ob:Obj}{a b:T}(h:Yx w W ov m o c gn)(hg:(W.alloc ob).grownBy W2 ov.ownBlock)(ho:W2.ownsRow (w.heap.size+1) 75 2 v2 (m+1) (Da o++[.string (bs a),.string (bs b)])):Yx w W2 v2 (m+1) (o++[(a,b)]) c gn:=by
 have hlt:=Ai h.box;have hsz:(W.alloc ob).heap.size=W.heap.size+1:=Aq _ _;refine⟨by rw[RY];exact ho,(h.Ay.alloc h.Ay.size ob).grown hg (by omega) (fun j hj=>by have:=DC h.row hj;omega),?_⟩;exact(hg.block w.heap.size (by omega) (row_ne_low h.row (Nat.lt_succ_self w.heap.size))).trans ((heap_alloc_old W ob hlt).trans h.box)
theorem ayz{q:Option Addr}{cap:Nat}{A:M}(c:Aj)(hcg:c.gone=false)(h:Bo w 0 (.slice q A.length cap) A)(hu:Up A)(hl:A.length≤1000000):
  Calls prog 76 #[.slice q A.length cap,.agg #[.string (bs c.name),.string (bs c.data)],.bool false] w fun e w'=>∃ v,e=.returned v∧Bo w' w.heap.size v (Aj.on A c)∧Bw w w':=by
 obtain⟨i0,Ba,AQ,AU,AV⟩:=Du Qu;have HR:=Hi h;have HE:=Hi (alI (c:=c) hu);have Hu:=Hi (Aw w (.cells #[.string (bs c.name),.string (bs c.data)] 75));have Wi:=Hi (AJ w (.cells #[.string (bs c.name),.string (bs c.data)] 75));obtain⟨gn,YU⟩:∃ g:Bool,g=false:=⟨_,rfl⟩;rw[hcg,←YU] at HE;rw[←YU];have HGN:=Hi YU;clear h hu YU;go_enter func76,ntmps76;go_wp2_with fail
 go_loopw [7,8,9] (fun ov dv i wr=>∃ (k m:Nat) (o:M) (d:Bool),k≤A.length∧o.length=m∧m≤2*k∧i=.int .i64 (k:Int)∧dv=.bool d∧o++putL c d (A.drop k)=putL c gn A∧Yx w wr ov m o c gn)
  (fun _ _ i _=>A.length -(intOf i).toNat)
 case atStart=>exact⟨0,0,[],gn,AB _,rfl,AB _,rfl,rfl,by rw[List.drop_zero];rfl,⟨by rw[PV];exact EI _ _ _ _,Hu,Wi⟩⟩
 case round=>
  obtain⟨k,m,o,d,hk,jL,Mr,rfl,rfl,Fu,AP⟩:=hrel;obtain⟨oq,Ho,rfl⟩:=Bg AP.row;have Gb:=Hi AP;have M9:=Hi jL;clear Hu Wi jL;by_cases hlt:k < A.length
  ·obtain⟨p,Hg,KW,ER⟩:=(XF (Bh HR (ub AP.Ay) (fun _ _ f=>f)) hlt)
   have HP:=Hi (fun(W:World) (hW:Bw w W)=>(show W.cell? p=some (.string (bs A[k].1))∧W.cell? ⟨p.block,p.off+1,none⟩=some (.string (bs A[k].2)) from by
    obtain⟨p',qK,aaR,aaS⟩:=(XF (Bh HR (ub hW) (fun _ _ f=>f)) hlt);have e:=Hg W;rw[qK W] at e;injection e with e
    injection e with e
    injection e with e
    subst e;exact⟨aaR,aaS⟩))
   obtain⟨b0,b1⟩:=Nv AP.box;have hd:=Qz hlt;rw[hd,alG] at Fu;obtain⟨x1,EE⟩:=ex (A[k].1);obtain⟨x2,E8⟩:=ex (A[k].2);rw[show A[k]=(x1,x2) from Prod.ext EE E8] at Fu;rw[EE] at KW HP;rw[E8] at ER HP;have Jn:=Hi Fu;clear hd EE E8 Fu AP;by_cases h1:x1 < c.name
   ·
    cases d with
    |false=>
     have De:Op.bytesLess x1 c.name=true:=(by rw[Go.Proofs.bytesLess_eq];simpa using h1);have hne:(x1 == c.name)=false:=(by simpa using L6 h1);have HN:=Hi (show(o++[(x1,x2)])++putL c false (A.drop (k+1))=putL c gn A by rw[←Jn.out];simp[h1,L6 h1]);clear h1;go_wp2_with fail;go_region;have BF:=Hi Gb.drew;clear b0 b1 KW ER;generalize wr.drew=W1 at BF ⊢;obtain⟨b0,b1⟩:=Nv BF.box;obtain⟨p0,p1⟩:=HP _ BF.Ay;go_wp2_with fail;go_region;have BJ:=Hi BF.drew;clear b0 b1 p0 p1;generalize W1.drew=W2 at BJ ⊢;obtain⟨b0,b1⟩:=Nv BJ.box;obtain⟨p0,p1⟩:=HP _ BJ.Ay;go_wp2_with (at_builtin;refine wpList_append_own_at _ rfl _ _ 22 rfl (w.heap.size+1) 75 i0 _ 2 32 underlying22 Ba AQ AU AV rfl (by decide) (.slice oq m Ho) m _ rfl (BJ.row.alloc _) ⟨W2.heap.size,0,none⟩ 1 1 [.string (bs x1),.string (bs x2)] rfl rfl (by intro j u hj;rw[add_plain,DF];exact(Dn▸hj)) (by simp[Value.oneCell']) (by unfold maxLen;omega) (by omega) (by rw[Aq];have:=Ai BJ.box;omega) ?_;intro v2 w2 Dc DV _ _;obtain⟨g2,cap2,rfl⟩:=ownsRow_succ Dc;have F3:=Hi (BJ.add DV Dc);clear Dc DV);go_roundw
     case rel=>exact⟨k+1,m+1,o++[(x1,x2)],false,by omega,by simp[M9.out],by omega,by go_num,rfl,HN,F3⟩
     case measure=>simp[intOf];omega
    |true=>
     have De:Op.bytesLess x1 c.name=true:=(by rw[Go.Proofs.bytesLess_eq];simpa using h1);have hne:(x1 == c.name)=false:=(by simpa using L6 h1);have HN:=Hi (show(o++[(x1,x2)])++putL c true (A.drop (k+1))=putL c gn A by rw[←Jn.out];simp[h1,L6 h1]);clear h1;go_wp2_with fail;go_region;have BF:=Hi Gb.drew;clear b0 b1 KW ER;generalize wr.drew=W1 at BF ⊢;obtain⟨b0,b1⟩:=Nv BF.box;obtain⟨p0,p1⟩:=HP _ BF.Ay;go_wp2_with fail;go_region;have BJ:=Hi BF.drew;clear b0 b1 p0 p1;generalize W1.drew=W2 at BJ ⊢;obtain⟨b0,b1⟩:=Nv BJ.box;obtain⟨p0,p1⟩:=HP _ BJ.Ay;go_wp2_with (at_builtin;refine wpList_append_own_at _ rfl _ _ 22 rfl (w.heap.size+1) 75 i0 _ 2 32 underlying22 Ba AQ AU AV rfl (by decide) (.slice oq m Ho) m _ rfl (BJ.row.alloc _) ⟨W2.heap.size,0,none⟩ 1 1 [.string (bs x1),.string (bs x2)] rfl rfl (by intro j u hj;rw[add_plain,DF];exact(Dn▸hj)) (by simp[Value.oneCell']) (by unfold maxLen;omega) (by omega) (by rw[Aq];have:=Ai BJ.box;omega) ?_;intro v2 w2 Dc DV _ _;obtain⟨g2,cap2,rfl⟩:=ownsRow_succ Dc;have F3:=Hi (BJ.add DV Dc);clear Dc DV);go_roundw
     case rel=>exact⟨k+1,m+1,o++[(x1,x2)],true,by omega,by simp[M9.out],by omega,by go_num,rfl,HN,F3⟩
     case measure=>simp[intOf];omega
   ·by_cases h2:x1=c.name
    ·
     cases d with
     |false=>
      have De:Op.bytesLess x1 c.name=false:=(by rw[Go.Proofs.bytesLess_eq];simpa using h1);have hne:(x1 == c.name)=true:=(by simpa using h2);have HN:=Hi (show(o++[(c.name,c.data)])++putL c true (A.drop (k+1))=putL c gn A by rw[←Jn.out];simp[h2,Rf]);clear h1 h2;go_wp2_with fail;go_region;have BF:=Hi Gb.drew;clear b0 b1 KW ER;generalize wr.drew=W1 at BF ⊢;obtain⟨b0,b1⟩:=Nv BF.box;obtain⟨p0,p1⟩:=HP _ BF.Ay;go_wp2_with (at_builtin;refine wpList_append_own_at _ rfl _ _ 22 rfl (w.heap.size+1) 75 i0 _ 2 32 underlying22 Ba AQ AU AV rfl (by decide) (.slice oq m Ho) m _ rfl (BF.row.alloc _) ⟨W1.heap.size,0,none⟩ 1 1 [.string (bs c.name),.string (bs c.data)] rfl rfl (by intro j u hj;rw[add_plain,DF];exact(Dn▸hj)) (by simp[Value.oneCell']) (by unfold maxLen;omega) (by omega) (by rw[Aq];have:=Ai BF.box;omega) ?_;intro v1 w1 Dj Mk _ _;obtain⟨g1,UX,rfl⟩:=ownsRow_succ Dj;have GK:=Hi (BF.add Mk Dj);clear Dj Mk);have BJ:=Hi GK.drew;obtain⟨e0,e1⟩:=Nv GK.box;obtain⟨r0,r1⟩:=HP _ GK.Ay;go_wp2_with fail;go_region;clear b0 b1 p0 p1 e0 e1 r0 r1;generalize w1.drew=W2 at BJ ⊢;obtain⟨b0,b1⟩:=Nv BJ.box;obtain⟨p0,p1⟩:=HP _ BJ.Ay;go_wp2_with fail;go_roundw
      case rel=>exact⟨k+1,m+1,o++[(c.name,c.data)],true,by omega,by simp[M9.out],by omega,by go_num,rfl,HN,BJ⟩
      case measure=>simp[intOf];omega
     |true=>
      have De:Op.bytesLess x1 c.name=false:=(by rw[Go.Proofs.bytesLess_eq];simpa using h1);have hne:(x1 == c.name)=true:=(by simpa using h2);have HN:=Hi (show(o)++putL c true (A.drop (k+1))=putL c gn A by rw[←Jn.out];simp[h2]);clear h1 h2;go_wp2_with fail;go_region;have BF:=Hi Gb.drew;clear b0 b1 KW ER;generalize wr.drew=W1 at BF ⊢;obtain⟨b0,b1⟩:=Nv BF.box;obtain⟨p0,p1⟩:=HP _ BF.Ay;go_wp2_with fail;go_region;have BJ:=Hi BF.drew;clear b0 b1 p0 p1;generalize W1.drew=W2 at BJ ⊢;obtain⟨b0,b1⟩:=Nv BJ.box;obtain⟨p0,p1⟩:=HP _ BJ.Ay;go_wp2_with fail;go_roundw
      case rel=>exact⟨k+1,m,o,true,by omega,by simp[M9.out],by omega,by go_num,rfl,HN,BJ⟩
      case measure=>simp[intOf];omega
    ·
     cases d with
     |false=>
      have De:Op.bytesLess x1 c.name=false:=(by rw[Go.Proofs.bytesLess_eq];simpa using h1);have hne:(x1 == c.name)=false:=(by simpa using h2);have HN:=Hi (show((o++[(c.name,c.data)])++[(x1,x2)])++putL c true (A.drop (k+1))=putL c gn A by rw[←Jn.out];simp[h1,h2]);clear h1 h2;go_wp2_with fail;go_region;have BF:=Hi Gb.drew;clear b0 b1 KW ER;generalize wr.drew=W1 at BF ⊢;obtain⟨b0,b1⟩:=Nv BF.box;obtain⟨p0,p1⟩:=HP _ BF.Ay;go_wp2_with (at_builtin;refine wpList_append_own_at _ rfl _ _ 22 rfl (w.heap.size+1) 75 i0 _ 2 32 underlying22 Ba AQ AU AV rfl (by decide) (.slice oq m Ho) m _ rfl (BF.row.alloc _) ⟨W1.heap.size,0,none⟩ 1 1 [.string (bs c.name),.string (bs c.data)] rfl rfl (by intro j u hj;rw[add_plain,DF];exact(Dn▸hj)) (by simp[Value.oneCell']) (by unfold maxLen;omega) (by omega) (by rw[Aq];have:=Ai BF.box;omega) ?_;intro v1 w1 Dj Mk _ _;obtain⟨g1,UX,rfl⟩:=ownsRow_succ Dj;have GK:=Hi (BF.add Mk Dj);clear Dj Mk);have BJ:=Hi GK.drew;obtain⟨e0,e1⟩:=Nv GK.box;obtain⟨r0,r1⟩:=HP _ GK.Ay;go_wp2_with fail;go_region;clear b0 b1 p0 p1 e0 e1 r0 r1;generalize w1.drew=W2 at BJ ⊢;obtain⟨b0,b1⟩:=Nv BJ.box;obtain⟨p0,p1⟩:=HP _ BJ.Ay
      go_wp2_with (at_builtin;refine wpList_append_own_at _ rfl _ _ 22 rfl (w.heap.size+1) 75 i0 _ 2 32 underlying22 Ba AQ AU AV rfl (by decide) (.slice (some ⟨g1,0,none⟩) (m+1) UX) (m+1) _ rfl (BJ.row.alloc _) ⟨W2.heap.size,0,none⟩ 1 1 [.string (bs x1),.string (bs x2)] rfl rfl (by intro j u hj;rw[add_plain,DF];exact(Dn▸hj)) (by simp[Value.oneCell']) (by unfold maxLen;omega) (by omega) (by rw[Aq];have:=Ai BJ.box;omega) ?_;intro v2 w2 Dc DV _ _;obtain⟨g2,cap2,rfl⟩:=ownsRow_succ Dc;have F3:=Hi (BJ.add DV Dc);clear Dc DV);go_roundw
      case rel=>exact⟨k+1,m+1+1,(o++[(c.name,c.data)])++[(x1,x2)],true,by omega,by simp[M9.out],by omega,by go_num,rfl,HN,F3⟩
      case measure=>simp[intOf];omega
     |true=>
      have De:Op.bytesLess x1 c.name=false:=(by rw[Go.Proofs.bytesLess_eq];simpa using h1);have hne:(x1 == c.name)=false:=(by simpa using h2);have HN:=Hi (show(o++[(x1,x2)])++putL c true (A.drop (k+1))=putL c gn A by rw[←Jn.out];simp[h2]);clear h1 h2;go_wp2_with fail;go_region;have BF:=Hi Gb.drew;clear b0 b1 KW ER;generalize wr.drew=W1 at BF ⊢;obtain⟨b0,b1⟩:=Nv BF.box;obtain⟨p0,p1⟩:=HP _ BF.Ay;go_wp2_with fail;go_region;have BJ:=Hi BF.drew;clear b0 b1 p0 p1;generalize W1.drew=W2 at BJ ⊢;obtain⟨b0,b1⟩:=Nv BJ.box;obtain⟨p0,p1⟩:=HP _ BJ.Ay;go_wp2_with (at_builtin;refine wpList_append_own_at _ rfl _ _ 22 rfl (w.heap.size+1) 75 i0 _ 2 32 underlying22 Ba AQ AU AV rfl (by decide) (.slice oq m Ho) m _ rfl (BJ.row.alloc _) ⟨W2.heap.size,0,none⟩ 1 1 [.string (bs x1),.string (bs x2)] rfl rfl (by intro j u hj;rw[add_plain,DF];exact(Dn▸hj)) (by simp[Value.oneCell']) (by unfold maxLen;omega) (by omega) (by rw[Aq];have:=Ai BJ.box;omega) ?_;intro v2 w2 Dc DV _ _;obtain⟨g2,cap2,rfl⟩:=ownsRow_succ Dc;have F3:=Hi (BJ.add DV Dc);clear Dc DV);go_roundw
      case rel=>exact⟨k+1,m+1,o++[(x1,x2)],true,by omega,by simp[M9.out],by omega,by go_num,rfl,HN,F3⟩
      case measure=>simp[intOf];omega
  ·obtain rfl:k=A.length:=(by omega);rw[List.drop_length] at Fu;obtain⟨b0,b1⟩:=Nv AP.box;clear AP;cases d with
   |false=>
    have HN:=Hi (show o++[(c.name,c.data)]=Aj.on A c by rw[←HE.out,←Fu];rfl);clear Fu;go_wp2_with (at_builtin;refine wpList_append_own_at _ rfl _ _ 22 rfl (w.heap.size+1) 75 i0 _ 2 32 underlying22 Ba AQ AU AV rfl (by decide) (.slice oq m Ho) m _ rfl (Gb.row.alloc _) ⟨wr.heap.size,0,none⟩ 1 1 [.string (bs c.name),.string (bs c.data)] rfl rfl (by intro j u hj;rw[add_plain,DF];exact(Dn▸hj)) (by simp[Value.oneCell']) (by unfold maxLen;omega) (by omega) (by rw[Aq];have:=Ai Gb.box;omega) ?_;intro v0 w0 Mv YT _ _;obtain⟨g0,cap0,rfl⟩:=ownsRow_succ Mv;have Wu:=Hi (Gb.add YT Mv);clear Mv YT);go_ret;refine⟨_,rfl,?_,Wu.Ay⟩;rw[←HN.out];unfold Bo;rw[Au,M9.out];exact E9 Wu.row (by omega)
   |true=>
    have HN:=Hi (show o=Aj.on A c by rw[←HE.out,←Fu];exact(EH o).symm);clear Fu;go_wp2_with fail;go_ret;refine⟨_,rfl,?_,Gb.Ay⟩;rw[←HN.out];unfold Bo;rw[M9.out];exact E9 Gb.row (by omega)
end
end Mem
section
open Go.RowKit Go.Maps
theorem tkU{P:Program}{ops:Array Oper}{Q:Exit→Act→World→Prop}{md:Region.Mode}{S:World→Prop}(i:Nat)(oi:Oper){fuel:Nat}{listed:Array Bool}{a:Act}{w:World}(hS:S w)(h:wpAnyH P md ops Q S fuel (listed.setIfInBounds i true) (a.put oi.dst undef) w)(hi:ops[i]?=some oi:=by rfl)(hs:Region.noSelect ops=true:=by kernel_rfl)(hf:Region.free md ops listed i=true:=by kernel_rfl)(hr:(Region.ready md ops listed).contains i=true:=by kernel_rfl)(hQ:∀ c a w,Q (.panic c) (a.put oi.dst undef) w→Q (.panic c) a w:=by exact fun _ _ _ h=>h)(hw:Region.wanted oi (yielded ops a.tmps)=false:=by rfl):wpAnyH P md ops Q S (fuel+1) listed a w:=
 wpAnyH_take hi hs hf hr hQ (Or.inr ⟨hw,rfl⟩) hS h
end
namespace Mem
open Go.RowKit Go.Maps
open Wal Fil Man Prs Kp Cm Hex Sha
def xZ(w:World)(q:Option Addr)(cap:Nat)(l:M)(i:Value)(wr:World):Prop:=∃ k:Nat,k≤l.length∧i=.int .i64 k∧Bw w wr∧Bo wr w.heap.size (.slice q l.length cap) l
theorem ay3(name data:T)(l:M)(h:Ae.Df name data=some l)(w:World)(hd:data.length≤1000000):Calls prog 155 #[.string (bs name),.string (bs data)] w fun e w'=>∃ q cap,e=.returned (.tuple #[.slice q l.length cap,.bool true])∧Bo w' w.heap.size (.slice q l.length cap) l∧(q=none→cap=0)∧Bw w w':=by
 have Nq:=(dQ h).2;obtain⟨hne,E5,Jw,s,Gh,Jz⟩:=Pj h;have jM:Crc.Er data=(s,0):=by rw[Jz];exact Crc.acg s
 have Cz:s.length≤1000000:=by
  have:data.length=s.length+4:=by rw[Jz];unfold Crc.EW;rw[Au,Crc.BK]
  omega
 have HO:=Hi (amg data w (by omega));rw[jM] at HO;have HG:=Hi (fun(W:World)=>am8 s l (p8 Gh (Cr.Qt E5)) W (by omega));have IC:=Hi (fun p hp=>(Jw p hp).1);have Ey:=Hi E5;have QP:=Hi Nq;have hlz:((l.length:Int) == 0)=false:=H9.2 (fun e=>hne (Ld.1 (by omega)));have EB:l.length≤65535:=(dQ h).1;clear h jM Gh Jz E5 Jw hne Nq;go_enter func155,ntmps155;go_wp2_with fail;refine HO.mono ?_;rintro e w1⟨rfl,Ad⟩;have HB1:=Hi Ad;clear Ad;go_wp2_with fail;refine(HG _).mono ?_;rintro e w2⟨v,rfl,Cy,A8⟩;obtain⟨q,cap,rfl,hq,hc⟩:=Es Cy;have BI:=Hi (E9 Cy HB1.size);have Ag:=Hi (HB1.trans (A8.mono HB1.size));have HQ:=Hi hq;clear Cy A8 hq hc;go_wp2_with fail
 go_loopw [9] (fun i wr=>xZ w q cap l i wr) (fun i _=>l.length -(intOf i).toNat)
 case atStart=>exact⟨0,AB _,rfl,Ag,BI⟩
 case round=>
  obtain⟨k,Db,rfl,hb,hr⟩:=hrel;have HB:=Hi hb;have HR:=Hi hr;clear hb hr Ag BI;by_cases hlt:k < l.length
  ·obtain⟨a,Cu,c0,-⟩:=XF HR hlt;have hk1:=(QP _ (Ci hlt)).1;have Ki:=IC _ (Ci hlt);by_cases hk0:k=0
   ·subst hk0;generalize l[0]=x at*;have HN:=Hi (fun(W:World)=>acF x.1 W (by omega));rw[Ki] at HN;have YW:∀ W,(Instr.indexAt 22 (.slice q l.length cap) (.int .i64 0)).run prog W=.ok (.pointer (some a)) W:=Cu;have HC:=Hi (fun(V:World) (hb:Bw wr V)=>(hb.cell (BS c0)).trans c0);clear Cu c0 Ki;go_wp2_with fail;have HS:=Hi (fun(V:World) (hb:Bw wr V)=>(show(fun V:World=>V.cell? a=some (.string (bs x.1))) V from HC V hb));refine wp_region_held (S:=(fun V:World=>V.cell? a=some (.string (bs x.1)))) (by kernel_rfl) ?_;have BR:=Hi ((Af wr.heap.size wr).drew);refine tkH 0 ⟨some 35,.move (.tmp 8),22,"ref.go:44",#[],none⟩ (HS _ BR) ?_;try simp only[Act.put,np]
    refine tkH 1 ⟨some 36,.move (.tmp 9),3,"ref.go:44",#[],none⟩ (HS _ BR) ?_;try simp only[Act.put,np]
    refine tkH 2 ⟨some 37,.indexAddr 22 (.tmp 35) (.tmp 36),0,"ref.go:44",#[⟨0,.data⟩,⟨1,.data⟩],none⟩ (HS _ BR) ?_;try simp only[Act.put,np]
    refine tkH 3 ⟨some 38,.fieldAddr 75 (.tmp 37) 0,0,"ref.go:44",#[⟨2,.data⟩],none⟩ (HS _ BR) ?_;try simp only[Act.put,np]
    refine tkH 4 ⟨some 39,.load 9 (.tmp 38),9,"ref.go:44",#[⟨3,.data⟩],none⟩ (HS _ BR) ?_;try simp only[Act.put,np]
    refine tkH 6 ⟨some 41,.move (.tmp 0),9,"ref.go:44",#[],none⟩ (HS _ BR) ?_;try simp only[Act.put,np]
    refine LW (i:=5) (o:=⟨some 40,.call ⟨.value (.func 73),#[.tmp 39],#[9]⟩,9,"ref.go:44",#[⟨4,.data⟩],none⟩) (by kernel_rfl) rfl (fun K1 Mj=>?_);go_simp;refine(HN _).mono ?_;rintro e wA⟨rfl,Dr⟩;have Ao:=Hi (show Bw wr wA from BR.trans (Dr.mono (Ac _)));clear Dr;refine Mj _ _ (HS _ Ao) ?_;try simp only[Act.put,np]
    refine tkH 7 ⟨some 42,.binOp .neq 9 (.tmp 40) (.tmp 41) 9,4,"ref.go:44",#[⟨5,.data⟩,⟨6,.data⟩],none⟩ (HS _ Ao) ?_;try simp only[Act.put,np]
    refine tkH 8 ⟨some 43,.move (.tmp 42),4,"ref.go:44",#[⟨7,.data⟩,⟨5,.chain⟩],none⟩ (HS _ Ao) ?_;try simp only[Act.put,np]
    refine tkH 9 ⟨some 44,.move (.tmp 9),3,"ref.go:44",#[⟨8,.guard⟩],some (8,false)⟩ (HS _ Ao) ?_;try simp only[Act.put,np]
    refine tkH 10 ⟨some 45,.binOp .gtr 3 (.tmp 44) (.const (.int .i64 0)) 3,4,"ref.go:44",#[⟨9,.data⟩,⟨8,.guard⟩],some (8,false)⟩ (HS _ Ao) ?_;try simp only[Act.put,np]
    refine tkH 11 ⟨some 46,.move (.tmp 45),4,"ref.go:44",#[⟨10,.data⟩,⟨8,.chain⟩,⟨8,.guard⟩],some (8,false)⟩ (HS _ Ao) ?_;try simp only[Act.put,np]
    refine tkU 12 ⟨some 47,.move (.tmp 8),22,"ref.go:44",#[⟨11,.guard⟩],some (11,true)⟩ (HS _ Ao) ?_;try simp only[Act.put,np]
    refine tkU 13 ⟨some 48,.move (.tmp 9),3,"ref.go:44",#[⟨11,.guard⟩],some (11,true)⟩ (HS _ Ao) ?_;try simp only[Act.put,np]
    refine tkU 14 ⟨some 49,.binOp .sub 3 (.tmp 48) (.const (.int .i64 1)) 3,3,"ref.go:44",#[⟨13,.data⟩,⟨11,.guard⟩],some (11,true)⟩ (HS _ Ao) ?_;try simp only[Act.put,np]
    refine tkU 15 ⟨some 50,.indexAddr 22 (.tmp 47) (.tmp 49),0,"ref.go:44",#[⟨12,.data⟩,⟨14,.data⟩,⟨11,.guard⟩],some (11,true)⟩ (HS _ Ao) ?_;try simp only[Act.put,np]
    refine tkU 16 ⟨some 51,.fieldAddr 75 (.tmp 50) 0,0,"ref.go:44",#[⟨15,.data⟩,⟨11,.guard⟩],some (11,true)⟩ (HS _ Ao) ?_;try simp only[Act.put,np]
    refine tkU 17 ⟨some 52,.load 9 (.tmp 51),9,"ref.go:44",#[⟨16,.data⟩,⟨11,.guard⟩],some (11,true)⟩ (HS _ Ao) ?_;try simp only[Act.put,np]
    refine tkU 18 ⟨some 53,.move (.tmp 8),22,"ref.go:44",#[⟨11,.guard⟩],some (11,true)⟩ (HS _ Ao) ?_;try simp only[Act.put,np]
    refine tkU 19 ⟨some 54,.move (.tmp 9),3,"ref.go:44",#[⟨11,.guard⟩],some (11,true)⟩ (HS _ Ao) ?_;try simp only[Act.put,np]
    refine tkU 20 ⟨some 55,.indexAddr 22 (.tmp 53) (.tmp 54),0,"ref.go:44",#[⟨18,.data⟩,⟨19,.data⟩,⟨11,.guard⟩],some (11,true)⟩ (HS _ Ao) ?_;try simp only[Act.put,np]
    refine tkU 21 ⟨some 56,.fieldAddr 75 (.tmp 55) 0,0,"ref.go:44",#[⟨20,.data⟩,⟨11,.guard⟩],some (11,true)⟩ (HS _ Ao) ?_;try simp only[Act.put,np]
    refine tkU 22 ⟨some 57,.load 9 (.tmp 56),9,"ref.go:44",#[⟨21,.data⟩,⟨11,.guard⟩],some (11,true)⟩ (HS _ Ao) ?_;try simp only[Act.put,np]
    refine tkU 23 ⟨some 58,.binOp .eql 9 (.tmp 52) (.tmp 57) 9,4,"ref.go:44",#[⟨17,.data⟩,⟨22,.data⟩,⟨11,.guard⟩],some (11,true)⟩ (HS _ Ao) ?_;try simp only[Act.put,np]
    refine tkH 24 ⟨some 59,.pick (.tmp 46) (.tmp 58) (.const (.bool false)),4,"ref.go:44",#[⟨11,.data⟩,⟨23,.data⟩,⟨8,.guard⟩],some (8,false)⟩ (HS _ Ao) ?_;try simp only[Act.put,np]
    refine tkH 25 ⟨some 60,.pick (.tmp 43) (.const (.bool true)) (.tmp 59),4,"ref.go:44",#[⟨8,.data⟩,⟨24,.data⟩],none⟩ (HS _ Ao) ?_;try simp only[Act.put,np]
    refine wpAnyH_done (by kernel_rfl) ?_ _;clear Mj K1;have CU:=Hi (show xZ w q cap l (.int .i64 1) wA from⟨1,by omega,rfl,HB.trans (Ao.mono HB.size),C9 HR Ao⟩);go_wp2_with fail;go_roundw
    case rel=>exact CU.out
    case measure=>show l.length -(1:Int).toNat < l.length -(0:Int).toNat;omega
   ·obtain⟨a',aaz,c1,-⟩:=XF HR (show k -1 < l.length by omega);have Qj:IntKind.i64.wrap ((k:Int) -1)=((k -1:Nat):Int):=(by rw[Ei _ (by omega)];omega);have Gy:(0:Int) < (k:Int):=(by omega);have Sr:0 < k:=(by omega);have hne:((l[k -1]'(by omega)).1 == l[k].1)=false:=by
     have h1:=List.pairwise_iff_getElem.1 Ey (k -1) k (by omega) hlt (by omega);exact H9.2 (fun e=>by rw[e] at h1;exact Rf _ h1)
    obtain⟨y,hy⟩:=ex (l[k -1]'(by omega));obtain⟨x,hx⟩:=ex (l[k]);rw[hy] at c1 hne;rw[hx] at c0 hk1 Ki hne;have HN:=Hi (fun(W:World)=>acF x.1 W (by omega));rw[Ki] at HN;have HC:=Hi (fun(V:World) (hb:Bw wr V)=>Cc ((hb.cell (BS c0)).trans c0) ((hb.cell (BS c1)).trans c1));clear c0 c1 Ki hx hy;go_wp2_with fail;have HS:=Hi (fun(V:World) (hb:Bw wr V)=>(show(fun V:World=>V.cell? a=some (.string (bs x.1))∧V.cell? a'=some (.string (bs y.1))) V from HC V hb));refine wp_region_held (S:=(fun V:World=>V.cell? a=some (.string (bs x.1))∧V.cell? a'=some (.string (bs y.1)))) (by kernel_rfl) ?_;have BR:=Hi ((Af wr.heap.size wr).drew);refine tkH 0 ⟨some 35,.move (.tmp 8),22,"ref.go:44",#[],none⟩ (HS _ BR) ?_;try simp only[Act.put,np]
    refine tkH 1 ⟨some 36,.move (.tmp 9),3,"ref.go:44",#[],none⟩ (HS _ BR) ?_;try simp only[Act.put,np]
    refine tkH 2 ⟨some 37,.indexAddr 22 (.tmp 35) (.tmp 36),0,"ref.go:44",#[⟨0,.data⟩,⟨1,.data⟩],none⟩ (HS _ BR) ?_;try simp only[Act.put,np]
    refine tkH 3 ⟨some 38,.fieldAddr 75 (.tmp 37) 0,0,"ref.go:44",#[⟨2,.data⟩],none⟩ (HS _ BR) ?_;try simp only[Act.put,np]
    refine tkH 4 ⟨some 39,.load 9 (.tmp 38),9,"ref.go:44",#[⟨3,.data⟩],none⟩ (HS _ BR) ?_;try simp only[Act.put,np]
    refine tkH 6 ⟨some 41,.move (.tmp 0),9,"ref.go:44",#[],none⟩ (HS _ BR) ?_;try simp only[Act.put,np]
    refine LW (i:=5) (o:=⟨some 40,.call ⟨.value (.func 73),#[.tmp 39],#[9]⟩,9,"ref.go:44",#[⟨4,.data⟩],none⟩) (by kernel_rfl) rfl (fun K1 Mj=>?_);go_simp;refine(HN _).mono ?_;rintro e wA⟨rfl,Dr⟩;have Ao:=Hi (show Bw wr wA from BR.trans (Dr.mono (Ac _)));clear Dr;refine Mj _ _ (HS _ Ao) ?_;try simp only[Act.put,np]
    refine tkH 7 ⟨some 42,.binOp .neq 9 (.tmp 40) (.tmp 41) 9,4,"ref.go:44",#[⟨5,.data⟩,⟨6,.data⟩],none⟩ (HS _ Ao) ?_;try simp only[Act.put,np]
    refine tkH 8 ⟨some 43,.move (.tmp 42),4,"ref.go:44",#[⟨7,.data⟩,⟨5,.chain⟩],none⟩ (HS _ Ao) ?_;try simp only[Act.put,np]
    refine tkH 9 ⟨some 44,.move (.tmp 9),3,"ref.go:44",#[⟨8,.guard⟩],some (8,false)⟩ (HS _ Ao) ?_;try simp only[Act.put,np]
    refine tkH 10 ⟨some 45,.binOp .gtr 3 (.tmp 44) (.const (.int .i64 0)) 3,4,"ref.go:44",#[⟨9,.data⟩,⟨8,.guard⟩],some (8,false)⟩ (HS _ Ao) ?_;try simp only[Act.put,np]
    refine tkH 11 ⟨some 46,.move (.tmp 45),4,"ref.go:44",#[⟨10,.data⟩,⟨8,.chain⟩,⟨8,.guard⟩],some (8,false)⟩ (HS _ Ao) ?_;try simp only[Act.put,np]
    refine tkH 12 ⟨some 47,.move (.tmp 8),22,"ref.go:44",#[⟨11,.guard⟩],some (11,true)⟩ (HS _ Ao) ?_;try simp only[Act.put,np]
    refine tkH 13 ⟨some 48,.move (.tmp 9),3,"ref.go:44",#[⟨11,.guard⟩],some (11,true)⟩ (HS _ Ao) ?_;try simp only[Act.put,np]
    refine tkH 14 ⟨some 49,.binOp .sub 3 (.tmp 48) (.const (.int .i64 1)) 3,3,"ref.go:44",#[⟨13,.data⟩,⟨11,.guard⟩],some (11,true)⟩ (HS _ Ao) ?_;try simp only[Act.put,np]
    refine tkH 15 ⟨some 50,.indexAddr 22 (.tmp 47) (.tmp 49),0,"ref.go:44",#[⟨12,.data⟩,⟨14,.data⟩,⟨11,.guard⟩],some (11,true)⟩ (HS _ Ao) ?_;try simp only[Act.put,np]
    refine tkH 16 ⟨some 51,.fieldAddr 75 (.tmp 50) 0,0,"ref.go:44",#[⟨15,.data⟩,⟨11,.guard⟩],some (11,true)⟩ (HS _ Ao) ?_;try simp only[Act.put,np]
    refine tkH 17 ⟨some 52,.load 9 (.tmp 51),9,"ref.go:44",#[⟨16,.data⟩,⟨11,.guard⟩],some (11,true)⟩ (HS _ Ao) ?_;try simp only[Act.put,np]
    refine tkH 18 ⟨some 53,.move (.tmp 8),22,"ref.go:44",#[⟨11,.guard⟩],some (11,true)⟩ (HS _ Ao) ?_;try simp only[Act.put,np]
    refine tkH 19 ⟨some 54,.move (.tmp 9),3,"ref.go:44",#[⟨11,.guard⟩],some (11,true)⟩ (HS _ Ao) ?_;try simp only[Act.put,np]
    refine tkH 20 ⟨some 55,.indexAddr 22 (.tmp 53) (.tmp 54),0,"ref.go:44",#[⟨18,.data⟩,⟨19,.data⟩,⟨11,.guard⟩],some (11,true)⟩ (HS _ Ao) ?_;try simp only[Act.put,np]
    refine tkH 21 ⟨some 56,.fieldAddr 75 (.tmp 55) 0,0,"ref.go:44",#[⟨20,.data⟩,⟨11,.guard⟩],some (11,true)⟩ (HS _ Ao) ?_;try simp only[Act.put,np]
    refine tkH 22 ⟨some 57,.load 9 (.tmp 56),9,"ref.go:44",#[⟨21,.data⟩,⟨11,.guard⟩],some (11,true)⟩ (HS _ Ao) ?_;try simp only[Act.put,np]
    refine tkH 23 ⟨some 58,.binOp .eql 9 (.tmp 52) (.tmp 57) 9,4,"ref.go:44",#[⟨17,.data⟩,⟨22,.data⟩,⟨11,.guard⟩],some (11,true)⟩ (HS _ Ao) ?_;try simp only[Act.put,np]
    refine tkH 24 ⟨some 59,.pick (.tmp 46) (.tmp 58) (.const (.bool false)),4,"ref.go:44",#[⟨11,.data⟩,⟨23,.data⟩,⟨8,.guard⟩],some (8,false)⟩ (HS _ Ao) ?_;try simp only[Act.put,np]
    refine tkH 25 ⟨some 60,.pick (.tmp 43) (.const (.bool true)) (.tmp 59),4,"ref.go:44",#[⟨8,.data⟩,⟨24,.data⟩],none⟩ (HS _ Ao) ?_;try simp only[Act.put,np]
    refine wpAnyH_done (by kernel_rfl) ?_ _;clear Mj K1;have CU:=Hi (show xZ w q cap l (.int .i64 ((k:Int)+1)) wA from⟨k+1,by omega,by go_num,HB.trans (Ao.mono HB.size),C9 HR Ao⟩);go_wp2_with fail;go_roundw
    case rel=>exact CU.out
    case measure=>
     show l.length -((k:Int)+1).toNat < l.length -((k:Int)).toNat
     omega
  ·obtain rfl:k=l.length:=(by omega);go_wp2_with fail;go_ret2;exact⟨q,cap,rfl,HR,HQ,HB⟩
end Mem
end Go.Proofs.YtmbbhdebddbhoaaGreat
