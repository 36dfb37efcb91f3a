/- RefSha RefBlk RefSum -/
import Derived.Test.YtmbbhdebddbhoaaGreatR20
set_option maxHeartbeats 4000000
set_option maxRecDepth 100000
set_option linter.all false
namespace Go.Proofs.YtmbbhdebddbhoaaGreat
open Tryz hiding t1 t2
section
open Go.RowKit
open Sha
theorem ayk(x:Int)(n:Nat)(h0:0 < n)(hn:n < 32)(w:World):
  Calls prog 251 #[.int .u32 x,.int .i64 n] w fun e w'=>e=.returned (.int .u32 (Hq x n))∧w'=w:=by
 have h1:(n:Int) < 32:=by omega
 have h2:(0:Int) < n:=by omega
 go_enter func251,ntmps251;go_wp2_with fail;go_ret;exact⟨rfl,rfl⟩
theorem uf(x:Int)(n:Int)(h0:0 < n)(hn:n < 32)(w:World):
  Calls prog 251 #[.int .u32 x,.int .i64 n] w fun e w'=>e=.returned (.int .u32 (Hq x n.toNat))∧w'=w:=by
 obtain⟨m,rfl⟩:=Int.eq_ofNat_of_zero_le (Int.le_of_lt h0);exact ayk x m (by omega) (by omega) w
theorem azE(w:World):(Instr.makeSlice 270 (.int .i64 64) (.int .i64 64)).run prog w=.ok (.slice (some ⟨w.heap.size,0,none⟩) 64 64) (w.alloc (.cells (Bb (zeros 64)) 268)):=by
 have YV:(prog.info? 268).map (fun i=>(i.zero,i.size,i.bytes))=some (some (.int .u32 0),1,4):=by kernel_rfl
 obtain⟨i0,hi,AQ,AU,AV⟩:=Du YV;have hrun:=run_make (P:=prog) w 270 268 i0 _ underlying270 hi AQ .i64 .i64 64 64 (by omega) (Int.le_refl _) (by rw[AV];omega) (by omega);rw[AU] at hrun;have e:madeCells (Value.int .u32 0).cells ((64:Int).toNat*1)=Bb (zeros 64):=by unfold Bb zeros;kernel_rfl
 rw[e] at hrun;exact hrun
theorem Lc{cap g:Nat}(n k:Nat)(hk:k < n)(W:World):(Instr.indexAt 270 (.slice (some ⟨g,0,none⟩) n cap) (.int .i64 (k:Int))).run prog W=.ok (.pointer (some ⟨g,k,none⟩)) W:=by
 have h:=Hr prog 270 268 underlying270 1 (by kernel_rfl) ⟨g,0,none⟩ n cap k hk W;rw[add_plain,Nat.mul_one] at h;exact h
theorem ayD(b:List UInt8)(hb:b.length=64)(w:World):
  Calls prog 250 #[.string (bs b)] w fun e w'=>∃ g,e=.returned (.slice (some ⟨g,0,none⟩) 64 64)∧w.heap.size≤g∧w'.heap[g]?=some (.cells (Bb (wsTo b 48)) 268)∧Bw w w':=by
 have Il:=azE w;go_enter func250,ntmps250;go_wp2_with fail
 go_loopw [4] (fun i wr=>∃ k:Nat,k≤16∧i=.int .i64 k∧Bw w wr∧wr.heap[w.heap.size]?=some (.cells (Bb (S9 b k)) 268)) (fun i _=>16 -(intOf i).toNat)
 case atStart=>exact⟨0,by omega,rfl,(Af _ _).alloc (Ac _) _,AJ _ _⟩
 case round=>
  obtain⟨k,hk,rfl,D7,Ah⟩:=hrel;have HB:=Hi D7;have HR:=Hi Ah;by_cases hlt:k < 16
  ·have FE:wr.cell? ⟨w.heap.size,k,none⟩=some (.int .u32 ((S9 b k)[k]'(by rw[bg _ _ (by omega)];omega))):=by
    rw[BA _ _ _ _ _ _ Ah,Rm _ _ (by rw[bg _ _ (by omega)];omega)]
   have hfz:=CJ _ _ k _ _ Ah;generalize (S9 b k)[k]'(by rw[bg _ _ (by omega)];omega)=x0 at FE;have i1:=XI b (4*k) (by omega) (4*(k:Int)) (by omega);have i2:=XI b (4*k+1) (by omega) (4*(k:Int)+1) (by omega);have i3:=XI b (4*k+2) (by omega) (4*(k:Int)+2) (by omega);have i4:=XI b (4*k+3) (by omega) (4*(k:Int)+3) (by omega);have Cu:=fun W=>Lc (g:=w.heap.size) (cap:=64) 64 k (by omega) W
   clear D7 Ah;go_wp2_with fail;go_region;go_wp2_with fail;go_roundw
   case rel=>exact⟨k+1,by omega,by go_num,((HB.setCell (p:=⟨w.heap.size,k,none⟩) (Ac _) _).drew),by
    have h:=BU wr w.heap.size k _ _ (.int .u32 (be b k)) HR;rw[uE,agB b k (by omega)] at h;exact h⟩
   case measure=>simp[intOf];omega
  ·obtain rfl:k=16:=(by omega);clear D7 Ah;go_wp2_with fail
   go_loopw [5] (fun i wr=>∃ k:Nat,k≤48∧i=.int .i64 ((16+k:Nat):Int)∧Bw w wr∧wr.heap[w.heap.size]?=some (.cells (Bb (wsTo b k++zeros (48 -k))) 268)) (fun i _=>64 -(intOf i).toNat)
   case atStart=>exact⟨0,by omega,rfl,HB,HR⟩
   case round=>
    clear HB HR;obtain⟨k,hk,rfl,D7,Ah⟩:=hrel;have HB:=Hi D7;have HR:=Hi Ah;clear D7 Ah;by_cases hlt:k < 48
    ·have hlen:=ZU b k
     have KP:=Hi (fun(V:World) (h:V.heap[w.heap.size]?=some (.cells (Bb (wsTo b k++zeros (48 -k))) 268))=>(show(∀ j,j < 16+k→V.cell? ⟨w.heap.size,j,none⟩=some (.int .u32 ((wsTo b k).getD j 0)))∧(∃ v0,V.cell? ⟨w.heap.size,16+k,none⟩=some v0)∧V.frozen? ⟨w.heap.size,16+k,none⟩=false from by
      have hl:(wsTo b k++zeros (48 -k)).length=64:=(by rw[Au,hlen];unfold zeros;simp;omega);refine⟨fun j hj=>?_,⟨_,(BA _ _ _ _ _ _ h).trans (Rm _ _ (by omega))⟩,CJ _ _ _ _ _ h⟩;rw[BA _ _ _ _ _ _ h,Rm _ _ (by omega),Rp (by omega),GY,Cn (by omega)];rfl))
     have AR:=Hi (show(wsTo b k++zeros (48 -k)).set (16+k) (Zz (wsTo b k) (16+k))=wsTo b (k+1)++zeros (48 -(k+1)) from by
      have e:=abW (wsTo b k) (48 -(k+1)) (Zz (wsTo b k) (16+k));rw[hlen,show 48 -(k+1)+1=48 -k by omega] at e;exact e)
     unfold Zz at AR;obtain⟨t,ht⟩:=ex (16+k);obtain⟨IU,V8⟩:=ex (t -16);obtain⟨Ql,iI⟩:=ex (t -15);obtain⟨j7,h7⟩:=ex (t -7);obtain⟨j2,h2⟩:=ex (t -2);rw[ht] at KP AR ⊢;rw[V8,iI,h7,h2] at AR;have e16:(t:Int) -16=(IU:Int):=(by omega);have e15:(t:Int) -15=(Ql:Int):=(by omega);have e7:(t:Int) -7=(j7:Int):=(by omega);have e2:(t:Int) -2=(j2:Int):=(by omega);have b0:(t:Int) < 64:=(by omega);have QI:=Hi (show t+1=16+(k+1)∧k < 48 from by omega);obtain⟨hc,⟨v0,hcz⟩,hfz⟩:=KP _ HR.out;have c16:=hc IU (by omega);have c15:=hc Ql (by omega);have c7:=hc j7 (by omega);have c2:=hc j2 (by omega);have aAE:=fun W=>Lc (g:=w.heap.size) (cap:=64) 64 IU (by omega) W
     have aAC:=fun W=>Lc (g:=w.heap.size) (cap:=64) 64 Ql (by omega) W
     have x7i:=fun W=>Lc (g:=w.heap.size) (cap:=64) 64 j7 (by omega) W
     have x2i:=fun W=>Lc (g:=w.heap.size) (cap:=64) 64 j2 (by omega) W
     have xti:=fun W=>Lc (g:=w.heap.size) (cap:=64) 64 t (by omega) W
     have aAF:=aAE;have aAD:=aAC;have x7k:=x7i;have x2k:=x2i;rw[←e16] at aAF;rw[←e15] at aAD;rw[←e7] at x7k;rw[←e2] at x2k;have b16:(IU:Int) < 64:=(by omega);have b15:(Ql:Int) < 64:=(by omega);have b7:(j7:Int) < 64:=(by omega);have b2:(j2:Int) < 64:=(by omega);have w16:IntKind.i64.wrap (IU:Int)=(IU:Int):=(by rw[IntKind.wrap];simp[IntKind.bits,IntKind.signed];omega);have w15:IntKind.i64.wrap (Ql:Int)=(Ql:Int):=(by rw[IntKind.wrap];simp[IntKind.bits,IntKind.signed];omega);have w7:IntKind.i64.wrap (j7:Int)=(j7:Int):=(by rw[IntKind.wrap];simp[IntKind.bits,IntKind.signed];omega);have w2:IntKind.i64.wrap (j2:Int)=(j2:Int):=(by rw[IntKind.wrap];simp[IntKind.bits,IntKind.signed];omega);clear hc hlen ht V8 iI h7 h2 hlt hk;obtain⟨VS,dz⟩:=ex ((wsTo b k).getD IU 0);obtain⟨Uu,kg⟩:=ex ((wsTo b k).getD Ql 0);obtain⟨x7,Uf⟩:=ex ((wsTo b k).getD j7 0);obtain⟨x2,E8⟩:=ex ((wsTo b k).getD j2 0);rw[kg] at c15 AR;rw[E8] at c2 AR;rw[dz] at c16 AR;rw[Uf] at c7 AR;clear dz kg Uf E8;go_wp2_with fail
     go_region_held3 (fun V=>V.cell? ⟨w.heap.size,Ql,none⟩=some (.int .u32 Uu)) (go_keep)
      (first|(go_at_call 251;refine(uf Uu _ (by decide) (by decide) _).mono ?_;rintro e wA ⟨rfl,rfl⟩))
     go_wp2_with fail
     go_region_held3 (fun V=>V.cell? ⟨w.heap.size,j2,none⟩=some (.int .u32 x2)) (go_keep)
      (first|(go_at_call 251;refine(uf x2 _ (by decide) (by decide) _).mono ?_;rintro e wA ⟨rfl,rfl⟩))
     go_wp2_with fail;go_region;go_wp2_with fail;refine⟨?_,?measure⟩
     ·repeat apply Exists.intro
      refine⟨?rel,rfl⟩
      case rel=>
       refine⟨k+1,by have:=QI.out;omega,by have:=QI.1;go_num,?_,?_⟩
       ·exact(((HB.setCell (p:=⟨w.heap.size,t,none⟩) (Ac _) _).drew).drew).drew
       ·have h:=BU wr w.heap.size t _ _ (.int .u32 ((sig x2 17 19 10+x7+sig Uu 7 18 3+VS) % 4294967296)) HR.out;have e2:(wsTo b k++zeros (48 -k)).set t ((sig x2 17 19 10+x7+sig Uu 7 18 3+VS) % 4294967296)=wsTo b (k+1)++zeros (48 -(k+1)):=by
         rw[show(sig x2 17 19 10+x7+sig Uu 7 18 3+VS) % 4294967296=(((VS+sig Uu 7 18 3) % 4294967296+x7) % 4294967296+sig x2 17 19 10) % 4294967296 by omega];exact AR.out
        rw[uE,e2] at h;exact h
     show 64 -((t:Int)+1).toNat < 64 -(t:Int).toNat
     omega
    ·obtain rfl:k=48:=(by omega);clear hlt;go_wp2_with fail;go_ret;have h:=HR.out;rw[show 48 -48=0 from rfl,show zeros 0=[] from rfl,EH] at h;exact⟨w.heap.size,rfl,Ac _,h,HB⟩
end
section
open Go.RowKit Go.Maps
open Sha
def Me(w:World)(g:Nat)(l:List Int):Prop:=∀ i,i < l.length→w.cell? ⟨g,i,none⟩=some (.int .u32 (l.getD i 0))
theorem Me.below{w w':World}{g:Nat}{l:List Int}(h:Me w g l)(hb:Bw w w'):Me w' g l:=fun i hi=>by
 have:=h i hi;exact(hb.cell (BS this)).trans this
theorem uP{w:World}{g:Nat}{l:List Int}{t:TypeId}(h:w.heap[g]?=some (.cells (Bb l) t)):Me w g l:=fun i hi=>by
 rw[BA _ _ _ _ _ _ h,Rm _ _ hi,GY,Cn hi];rfl
theorem azD:(prog.info? 268).map (fun i=>(i.zero,i.size,i.bytes))=some (some (.int .u32 0),1,4):=by kernel_rfl
def Qx(l:List Int):List Value:=l.map fun x=>.int .u32 x
theorem anX{w:World}{base g n cap:Nat}{l:List Int}(h:w.ownsRow base 268 1 (.slice (some ⟨g,0,none⟩) n cap) n (Qx l)):Me w g l:=fun i hi=>by
 have hc:=h.cells (g:=g) rfl;have:=hc i (.int .u32 l[i]) (by unfold Qx;rw[IX,Cn hi];rfl);rw[add_plain] at this;rw[this,GY,Cn hi];rfl
theorem tX{w:World}{base:Nat}{e:TypeId}{size:Nat}{v:Value}{n:Nat}{xs:List Value}(h:w.ownsRow base e size v n xs){b:Nat}(hb:v.ownBlock=some b):base≤b:=by
 rcases h.2 with⟨rfl,_⟩|⟨g,cap,cur,rfl,GR,_⟩
 ·simp[Value.ownBlock] at hb
 ·simp[Value.ownBlock] at hb;omega
theorem aze(h V:List Int)(k:Nat)(hk:k < 8):(sumTo h V 8).take (k+1)=(sumTo h V 8).take k++[(h.getD k 0+V.getD k 0) % 4294967296]:=by
 have hl:k < (sumTo h V 8).length:=by rw[lC];exact hk
 rw[Cw hl];have:=ad3 h V 8 k hk;rw[Ab hk,GY,Cn hl,Option.getD_some] at this;rw[this]
theorem azn(a s c k w:Int):((a+s+c+k) % 4294967296+w) % 4294967296=((((a+s) % 4294967296+c) % 4294967296+k) % 4294967296+w) % 4294967296:=by omega
theorem wrap32(x:Int):IntKind.u32.wrap x=x % 4294967296:=by simp[IntKind.wrap,IntKind.bits,IntKind.signed]
theorem axJ{w:World}{gh gk ch' yL:Nat}{h:List Int}(b:List UInt8)(hb:b.length=64)(hh:h.length=8)(H:Me w gh h)(K:Me w gk FI):
  Calls prog 234 #[.slice (some ⟨gh,0,none⟩) 8 ch',.slice (some ⟨gk,0,none⟩) 64 yL,.string (bs b)] w fun e w'=>∃ g c,e=.returned (.slice (some ⟨g,0,none⟩) 8 c)∧w.heap.size≤g∧Me w' g (OE h b)∧Bw w w':=by
 obtain⟨i0,Ba,AQ,AU,AV⟩:=Du azD;have HH:=Hi H;have HK:=Hi K;clear H K;go_enter func234,ntmps234;go_wp2_with fail;refine(ayD b hb _).mono ?_;rintro e w1⟨gw,rfl,hgw,hw,Ad⟩;have HW:=Hi (uP hw);have HB1:=Hi Ad;have Wj:=Hi (HH.below Ad);clear hw Ad;have Xh:∀ j u,(Qx h)[j]?=some u→w1.cell? ((⟨gh,0,none⟩:Addr).add j)=some u:=fun j u hu=>by
  have hj:j < h.length:=by
   have:=(Uw.1 hu).1;simpa[Qx] using this
  rw[add_plain,Wj j hj];unfold Qx at hu;rw[IX,Cn hj] at hu;rw[GY,Cn hj];exact hu
 go_wp2_with (at_builtin;refine wpList_append_own_at w1 rfl _ _ 270 rfl w1.heap.size 268 i0 _ 1 4 underlying270 Ba AQ AU AV rfl (by decide) (.slice none 0 0) 0 [] rfl (EI _ _ _ _) ⟨gh,0,none⟩ 8 ch' (Qx h) rfl (by simp[Qx,hh]) Xh (by intro u hu;unfold Qx at hu;obtain⟨x,_,rfl⟩:=Bz.1 hu;rfl) (by unfold maxLen;omega) (by omega) (Ac _) ?_;intro v2 w2 Dc DV _ _;rw[Eu,GJ] at Dc;obtain⟨g2,cap2,rfl⟩:=ownsRow_succ Dc;have Wx:=Hi (anX Dc);have Ag:=Hi ((Af _ w1).grown DV (Ac _) (fun j e=>by cases e));clear Dc DV);have QS:=Hi (HW.below Ag);have NI:=Hi (Wj.below Ag);have IB:=Hi ((HK.below HB1).below Ag);have fo:=Hi (HB1.trans (Ag.mono HB1.size));have Gi:=fun t=>ami (W:=wsTo b 48) hh t
 clear Xh HW Wj HB1 Ag HH HK
 go_loopw [8,9] (fun v i wr=>∃ (t gv cv:Nat),t≤64∧i=.int .i64 (t:Int)∧v=.slice (some ⟨gv,0,none⟩) 8 cv∧Me wr gv (rounds (wsTo b 48) h t)∧Bw w2 wr)
  (fun _ i _=>64 -(intOf i).toNat)
 case atStart=>exact⟨0,g2,cap2,by omega,rfl,rfl,Wx,Af _ _⟩
 case round=>
  obtain⟨t,gv,cv',ht,rfl,rfl,hv,A8⟩:=hrel;have HV:=Hi hv;have HB:=Hi A8;clear Wx;by_cases hlt:t < 64
  ·have hl:=Gi t;obtain⟨V,OL⟩:=ex (rounds (wsTo b 48) h t);rw[OL] at hv hl;have hRt:=Hi (show rounds (wsTo b 48) h (t+1)=turn V (FI.getD t 0) ((wsTo b 48).getD t 0) by show turn (rounds (wsTo b 48) h t) _ _=_;rw[OL]);have c0:=hv 0 (by omega);have c1:=hv 1 (by omega);have c2:=hv 2 (by omega);have c3:=hv 3 (by omega);have c4:=hv 4 (by omega);have c5:=hv 5 (by omega);have c6:=hv 6 (by omega);have c7:=hv 7 (by omega);have ck:=(IB.below A8) t (by show t < 64;exact hlt);have cw:=(QS.below A8) t (by rw[ZU];omega);unfold turn t1 t2 at hRt;obtain⟨x0,Rb⟩:=ex (V.getD 0 0);obtain⟨x1,EE⟩:=ex (V.getD 1 0);obtain⟨x2,E8⟩:=ex (V.getD 2 0);obtain⟨x3,hx3⟩:=ex (V.getD 3 0);obtain⟨x4,hx4⟩:=ex (V.getD 4 0);obtain⟨x5,dA⟩:=ex (V.getD 5 0);obtain⟨x6,dB⟩:=ex (V.getD 6 0);obtain⟨x7,Uf⟩:=ex (V.getD 7 0);obtain⟨xk,ku⟩:=ex (FI.getD t 0);obtain⟨xw,Xv⟩:=ex ((wsTo b 48).getD t 0);rw[Rb,EE,E8,hx3,hx4,dA,dB,Uf,ku,Xv] at hRt;rw[Rb] at c0;rw[EE] at c1;rw[E8] at c2;rw[hx3] at c3;rw[hx4] at c4;rw[dA] at c5;rw[dB] at c6;rw[Uf] at c7;rw[ku] at ck;rw[Xv] at cw;have i0:=fun W=>Lc (g:=gv) (cap:=cv') 8 0 (by omega) W
   have i1:=fun W=>Lc (g:=gv) (cap:=cv') 8 1 (by omega) W
   have i2:=fun W=>Lc (g:=gv) (cap:=cv') 8 2 (by omega) W
   have i3:=fun W=>Lc (g:=gv) (cap:=cv') 8 3 (by omega) W
   have i4:=fun W=>Lc (g:=gv) (cap:=cv') 8 4 (by omega) W
   have i5:=fun W=>Lc (g:=gv) (cap:=cv') 8 5 (by omega) W
   have i6:=fun W=>Lc (g:=gv) (cap:=cv') 8 6 (by omega) W
   have i7:=fun W=>Lc (g:=gv) (cap:=cv') 8 7 (by omega) W
   have ik:=fun W=>Lc (g:=gk) (cap:=yL) 64 t hlt W
   have iw:=fun W=>Lc (g:=gw) (cap:=64) 64 t hlt W
   have hti:(t:Int) < 64:=(by omega);clear hv OL Rb EE E8 hx3 hx4 dA dB Uf ku Xv hl HV Gi;go_wp2_with fail
   go_region_held3 (fun V=>V.cell? ⟨gv,4,none⟩=some (.int .u32 x4)) (go_keep)
    (first|(go_at_call 251;refine(uf x4 _ (by decide) (by decide) _).mono ?_;rintro e wA ⟨rfl,rfl⟩))
   go_wp2_with fail
   go_region_held3 (fun V=>V.cell? ⟨gv,0,none⟩=some (.int .u32 x0)) (go_keep)
    (first|(go_at_call 251;refine(uf x0 _ (by decide) (by decide) _).mono ?_;rintro e wA ⟨rfl,rfl⟩))
   go_wp2_with fail
   go_region_held3 (fun V=>V.cell? ⟨gv,4,none⟩=some (.int .u32 x4)∧V.cell? ⟨gv,5,none⟩=some (.int .u32 x5)∧V.cell? ⟨gv,6,none⟩=some (.int .u32 x6)∧V.cell? ⟨gv,7,none⟩=some (.int .u32 x7)∧V.cell? ⟨gk,t,none⟩=some (.int .u32 xk)∧V.cell? ⟨gw,t,none⟩=some (.int .u32 xw)) (go_keep) (fail)
   simp only[wrap32,show(if IntKind.u32.signed=true then(-1:Int) else IntKind.u32.max)=IntKind.u32.max from rfl];obtain⟨T1,bD⟩:=ex (((((x7+bits .xor .u32 (bits .xor .u32 (Hq x4 6) (Hq x4 11)) (Hq x4 25)) % 4294967296+bits .xor .u32 (bits .and .u32 x4 x5) (bits .and .u32 (bits .xor .u32 IntKind.u32.max x4) x6)) % 4294967296+xk) % 4294967296+xw) % 4294967296);rw[bD];have GK:=Hi bD;clear bD c7 ck cw ik iw i7;go_wp2_with fail
   go_region_held3 (fun V=>V.cell? ⟨gv,0,none⟩=some (.int .u32 x0)∧V.cell? ⟨gv,1,none⟩=some (.int .u32 x1)∧V.cell? ⟨gv,2,none⟩=some (.int .u32 x2)) (go_keep) (fail)
   simp only[wrap32];obtain⟨T2,Vb⟩:=ex ((bits .xor .u32 (bits .xor .u32 (Hq x0 2) (Hq x0 13)) (Hq x0 22)+bits .xor .u32 (bits .xor .u32 (bits .and .u32 x0 x1) (bits .and .u32 x0 x2)) (bits .and .u32 x1 x2)) % 4294967296);rw[Vb];have F3:=Hi Vb;clear Vb;go_wp2_with fail
   go_region_held3 (fun V=>V.cell? ⟨gv,0,none⟩=some (.int .u32 x0)∧V.cell? ⟨gv,1,none⟩=some (.int .u32 x1)∧V.cell? ⟨gv,2,none⟩=some (.int .u32 x2)∧V.cell? ⟨gv,3,none⟩=some (.int .u32 x3)∧V.cell? ⟨gv,4,none⟩=some (.int .u32 x4)∧V.cell? ⟨gv,5,none⟩=some (.int .u32 x5)∧V.cell? ⟨gv,6,none⟩=some (.int .u32 x6)) (go_keep) (fail)
   simp only[wrap32];have Zi:=hRt.out;rw[azn,GK.out,F3.out] at Zi;have HRT:=Hi Zi;clear Zi c0 c1 c2 c3 c4 c5 c6 i0 i1 i2 i3 i4 i5 i6;go_wp2_with fail;go_roundw
   case rel=>
    refine⟨t+1,wr.heap.size,8,by omega,by go_num,rfl,?_,?_⟩
    ·rw[HRT.out];refine uP (t:=268) ?_;rw[←eB];exact AJ wr _
    ·exact(((((HB.alloc HB.size _).drew).drew).drew).drew).drew
   case measure=>simp[intOf];omega
  ·obtain rfl:t=64:=(by omega);clear hv A8;have hVl:=Gi 64;obtain⟨V,OL⟩:=ex (rounds (wsTo b 48) h 64);rw[OL] at HV hVl;have HVE:=Hi OL;clear OL Gi;have hH:=NI.below HB.out;have HHR:=Hi hH;have HHB:=Hi HB.out;clear hH;go_wp2_with fail;obtain⟨R,hR⟩:=ex (wr.heap.size);have hRL:w2.heap.size≤R:=(by rw[←hR];exact HB.size);have HKH:=Hi (fun(W:World) (hW:Below R wr W)=>(show Me W gh h∧Me W gv V from by rw[←hR] at hW;exact⟨HHR.below hW,HV.below hW⟩))
   go_loopw [14,15] (fun o i wo=>∃ (k:Nat),k≤8∧i=.int .i64 (k:Int)∧wo.ownsRow R 268 1 o k (Qx ((sumTo h V 8).take k))∧Bw w2 wo∧Below R wr wo∧R≤wo.heap.size)
    (fun _ i _=>8 -(intOf i).toNat)
   case atStart=>exact⟨0,by omega,rfl,EI _ _ _ _,HB,Af _ _,by omega⟩
   case round=>
    obtain⟨k,hk,rfl,hown,Vk,qy,hRs⟩:=hrel;obtain⟨oq,Ho,rfl⟩:=Bg hown;have HO:=Hi hown;have fB:=Hi Vk;have VY:=Hi qy;by_cases hlt:k < 8
    ·have ch:=(HKH _ qy).1 k (by omega);have cv:=(HKH _ qy).2 k (by omega);have ih:=fun W=>Lc (g:=gh) (cap:=ch') 8 k hlt W
     have iv:=fun W=>Lc (g:=gv) (cap:=cv') 8 k hlt W
     obtain⟨xh,hxh⟩:=ex (h.getD k 0);obtain⟨xv,VF⟩:=ex (V.getD k 0);rw[hxh] at ch;rw[VF] at cv;have HX:=Hi (Cc hxh VF);have qO:(k:Int) < 8:=(by omega);have hso:=Vk.size;clear hown Vk qy hxh VF;go_wp2_with fail
     go_region_law
      ((refine step_append_lies _ (by rfl) _ _ _ (by rfl) R 268 i0 _ 1 4 underlying270 Ba AQ AU AV (by rfl) (by omega) (.slice oq k Ho) k (Qx ((sumTo h V 8).take k)) (by rfl) ((HO.alloc _).drew) ⟨wr.heap.size,0,none⟩ 1 1 [.int .u32 (IntKind.u32.wrap (xh+xv))] (by rfl) (by rfl) (World.news_of_block (cs:=#[.int .u32 (IntKind.u32.wrap (xh+xv))]) (t:=268) (fr:=(0,0)) (AJ wr _)) (by intro u hu;simp at hu;subst hu;rfl) (by omega) (by unfold maxLen;omega) (by omega) (by rw[show((wr.alloc _).drew).heap.size=wr.heap.size+1 from Aq _ _];omega) (wr.heap.size+1) (by simp) ?_;intro gg nU w3 R9 Az hat aj7))
     all_goals
      have UO:=Hi ((((fB.alloc fB.size (.cells #[.int .u32 (IntKind.u32.wrap (xh+xv))] 268)).drew)).grown Az (Ap hRL (Ap hRs (Nat.le_of_lt (by rw[show((wr.alloc (.cells #[.int .u32 (IntKind.u32.wrap (xh+xv))] 268)).drew).heap.size=wr.heap.size+1 from Aq _ _];omega)))) (fun j hj=>Ap hRL (tX HO hj)));have Ov:=Hi ((((VY.alloc hRs (.cells #[.int .u32 (IntKind.u32.wrap (xh+xv))] 268)).drew)).grown Az (Ap hRs (Nat.le_of_lt (by rw[show((wr.alloc (.cells #[.int .u32 (IntKind.u32.wrap (xh+xv))] 268)).drew).heap.size=wr.heap.size+1 from Aq _ _];omega))) (fun j hj=>tX HO hj));have NL:=Hi R9;have hs3:=Az.size;rw[show((wr.alloc (.cells #[.int .u32 (IntKind.u32.wrap (xh+xv))] 268)).drew).heap.size=wr.heap.size+1 from Aq _ _] at hs3;clear R9 Az hat ch cv;go_wp2_with fail;go_roundw
      case rel=>
       repeat apply Exists.intro
       refine⟨?ay2,rfl⟩
       case ay2=>
        refine⟨k+1,by omega,by go_num,?_,UO,Ov,by omega⟩;rw[aze h V k hlt,HX.1,HX.2,show Qx ((sumTo h V 8).take k++[(xh+xv) % 4294967296])=Qx ((sumTo h V 8).take k)++[.int .u32 ((xh+xv) % 4294967296)] by unfold Qx;rw[CF];rfl,←wrap32];exact NL.out
      case measure=>first|(simp[intOf];done)|(simp[intOf];omega)
    ·obtain rfl:k=8:=(by omega);go_wp2_with fail;go_ret;obtain⟨gq,agX,e1,hbq,_⟩:∃ gq agX,(Value.slice oq 8 Ho)=.slice (some ⟨gq,0,none⟩) 8 agX∧R≤gq∧True:=by
      rcases hown.2 with⟨e0,e1⟩|⟨g,cap,cur,e0,hb,_⟩
      ·cases e1
      ·exact⟨g,cap,e0,hb,trivial⟩
     injection e1 with e1 _ e2
     subst e1 e2;refine⟨gq,Ho,rfl,by have:=fo.size;omega,?_,fo.trans (Vk.mono fo.size)⟩;have e3:(sumTo h V 8).take 8=OE h b:=by
      rw[Gn (by rw[lC];exact Ac 8),←HVE.out];rfl
     rw[e3] at hown;exact anX hown
end
namespace Sha
open Go.RowKit
theorem agq(h:List Int)(a b:List UInt8)(m:Nat)(ha:a.length=64*m):∀ k,feed h (a++b) (m+k)=feed (feed h a m) b k:=by
 have h0:∀ j,j≤m→feed h (a++b) j=feed h a j:=by
  intro j
  induction j with
  |zero=>intro _;rfl
  |succ j ih=>
   intro hj
   show OE (feed h (a++b) j) (((a++b).drop (64*j)).take 64)=OE (feed h a j) ((a.drop (64*j)).take 64)
   rw[ih (by omega),List.drop_append_of_le_length (by omega),List.take_append_of_le_length (by rw[Ce];omega)]
 intro k
 induction k with
 |zero=>exact h0 m (Ac _)
 |succ k ih=>
  show OE (feed h (a++b) (m+k)) (((a++b).drop (64*(m+k))).take 64)=OE (feed (feed h a m) b k) ((b.drop (64*k)).take 64)
  rw[ih,show 64*(m+k)=a.length+64*k by rw[ha];omega,List.drop_append]
  congr 2
  rw[List.drop_of_length_le (by omega),Eu,show a.length+64*k -a.length=64*k by omega]
def Pg(s:List UInt8):List UInt8:=(s++[128])++List.replicate (zf (s.length+1)) 0++JZ (8*s.length) 8
theorem ack(s:List UInt8):Pg s=s.take (64*(s.length / 64))++L8 (leftOf s) s.length:=by
 have e:zf ((leftOf s).length+1)=zf (s.length+1):=by
  unfold leftOf zf;rw[Ce];omega
 unfold Pg L8;rw[e];unfold leftOf;simp only[←Dp];rw[M4]
theorem afd(v j:Nat):(JZ v j).length=j:=by unfold JZ;simp
theorem alo(s:List UInt8):(Pg s).length=s.length+1+zf (s.length+1)+8:=by
 unfold Pg;simp[afd];omega
theorem ax6(s:List UInt8):∃ k,(Pg s).length=64*k∧feed Lv (Pg s) k=TM (TM Lv s) (L8 (leftOf s) s.length):=by
 have hl:=alo s;have hz:=ady (s.length+1);obtain⟨k,hk⟩:∃ k,(Pg s).length=64*k:=⟨(Pg s).length / 64,by rw[hl];omega⟩;have ht:(s.take (64*(s.length / 64))).length=64*(s.length / 64):=by rw[AL];omega
 have hp:(L8 (leftOf s) s.length).length=64*(k -s.length / 64):=by
  have:=congrArg List.length (ack s);rw[Au,ht,hk] at this;omega
 have hm:s.length / 64≤k:=by
  have:=congrArg List.length (ack s);rw[Au,ht,hk] at this;omega
 refine⟨k,hk,?_⟩;have h1:=agq Lv (s.take (64*(s.length / 64))) (L8 (leftOf s) s.length) (s.length / 64) ht (k -s.length / 64);rw[←ack,show s.length / 64+(k -s.length / 64)=k by omega] at h1;rw[h1];unfold TM;rw[hp,Nat.mul_div_cancel_left _ (by decide)]
 congr 1
 have h2:=agq Lv (s.take (64*(s.length / 64))) (s.drop (64*(s.length / 64))) (s.length / 64) ht 0;rw[M4] at h2;exact h2.symm
theorem azc(s:List UInt8)(k:Nat)(h:feed Lv (Pg s) k=TM (TM Lv s) (L8 (leftOf s) s.length)):Pf (feed Lv (Pg s) k) 8=Eh s:=by
 rw[h];rfl
theorem arT(h:List Int)(s:List UInt8)(hh:h.length=8):∀ k,(feed h s k).length=8
 |0=>hh
 |_+1=>aq8 _ _
end Sha
section
open Go.RowKit Go.Maps
open Sha
theorem azB(w:World):
  Calls prog 199 #[] w fun e w'=>∃ g gh,e=.returned (.tuple #[.slice (some ⟨g,0,none⟩) 64 64,.slice (some ⟨gh,0,none⟩) 8 8])∧Me w' g FI∧Me w' gh Lv∧Bw w w':=by
 have HC:=Hi akm;go_enter func199,ntmps199;go_wp2_with fail;rw[HC.out];go_ret2;refine⟨w.heap.size,w.heap.size+1,rfl,(uP (t:=268) (AJ _ _)).below ((Af _ _).alloc (Ac _) _),uP (t:=268) ?_,((Af _ _).alloc (Ac _) _).alloc ((Af _ _).alloc (Ac _) (.cells (Bb FI) 268)).size _⟩;rw[eB];have h:=AJ (w.alloc (.cells (Bb FI) 268)) (.cells (Bb Lv) 268);rw[Aq] at h;exact h
def apJ(l:List UInt8)(m:Nat)(v:Value):Prop:=∃ j,j≤m∧v=.string (bs (l++List.replicate j 0))
def acZ(v:Value):Nat:=match v with| .string s=>s.size|_=>0
theorem ayf(s:List UInt8)(w:World)(hs:s.length≤100000000):
  Calls prog 233 #[.string (bs s)] w fun e w'=>e=.returned (.string (bs (Pg s)))∧Bw w w':=by
 have II:({ data:=#[128] }:ByteArray)=bs [128]:=rfl;have Ue:IntKind.u64.wrap ((s.length:Int)*8)=(s.length:Int)*8:=IntWalk.u64_in _ (by omega);have Qk:IntKind.u64.wrap (s.length:Int)=(s.length:Int):=IntWalk.u64_in _ (by omega);go_enter func233,ntmps233;go_wp2_with fail;obtain⟨l,hl⟩:=ex (s++[128]);have EB:l.length=s.length+1:=by rw[←hl];simp
 obtain⟨m,hm⟩:=ex (zf (s.length+1));have hme:∀ j,j < m→(l.length+j) % 64≠56:=fun j hj=>by rw[EB];exact ao6 _ _ (by omega)
 have hmz:(l.length+m) % 64=56:=by rw[EB,←hm];exact ady _
 have SA:m < 64:=by rw[←hm];exact adz _
 have HME:=Hi hme;have HMZ:=Hi hmz;have HP:=Hi (show Pg s=(l++List.replicate m 0)++JZ (8*s.length) 8 by unfold Pg;rw[hl,hm]);have NK:=Hi EB;rw[hl];clear hme hmz hl hm EB II Ue Qk
 go_loop [0] (fun v=>apJ l m v) (fun v=>l.length+m -acZ v)
 case atStart=>exact⟨0,AB _,by simp⟩
 case round=>
  obtain⟨j,hj,rfl⟩:=hrel;have Nr:(l++List.replicate j (0:UInt8)).length=l.length+j:=by simp
  have Gg:l++List.replicate j (0:UInt8)++[0]=l++List.replicate (j+1) 0:=by rw[Dp,←List.replicate_succ']
  have Mc:=Hi Nr;have EL:=Hi Gg;have O7:=NK.out;by_cases hlt:j < m
  ·have hne:=HME j hlt;rw[←Nr] at hne;have Zl:(l++List.replicate j (0:UInt8)).length≤100000100:=(by rw[Nr];omega);clear Nr Gg O7;generalize l++List.replicate j (0:UInt8)=t at*;have Ad:((t.length:Int) % 64 == 56)=false:=(by rw[H9];omega);have A8:((t.length:Int) % 64 != 56)=true:=(by rw[bne_iff_ne];omega);have hz:({ data:=#[0] }:ByteArray)=bs [0]:=rfl;clear hne;go_wp2_with fail
   go_round
   case rel=>exact⟨j+1,hlt,by rw[EL.out]⟩
   case measure=>
    have h1:acZ (.string (bs t))=l.length+j:=Mc.out;have h2:acZ (.string (bs (t++[0])))=l.length+j+1:=(by show(t++[0]).length=_;rw[Au,Mc.out];rfl);rw[h1,h2];omega
  ·obtain rfl:j=m:=(by omega);have hz:=HMZ.out;rw[←Nr] at hz;have Zl:(l++List.replicate j (0:UInt8)).length≤100000100:=(by rw[Nr];omega);clear Nr Gg O7;generalize l++List.replicate j (0:UInt8)=t at*;have Ad:((t.length:Int) % 64 == 56)=true:=(by rw[beq_iff_eq];omega);have A8:((t.length:Int) % 64 != 56)=false:=(by rw[bne_eq_false_iff_eq];omega);clear hz EL Mc;go_wp2_with fail;have JS:=Hi (show((s.length:Int)*8)=((8*s.length:Nat):Int) by omega);rw[JS.out];obtain⟨v,hv⟩:=ex (8*s.length);have hvb:v≤800000000:=(by omega);rw[hv] at HP ⊢;clear hv JS
   go_loopw [0,4] (fun a i wr=>∃ k:Nat,k≤8∧i=.int .i64 (7 -(k:Int))∧a=.string (bs (t++JZ v k))∧Bw w wr) (fun _ i _=>(intOf i+1).toNat)
   case atStart=>exact⟨0,by omega,rfl,by rw[show JZ v 0=[] from rfl,EH],Af _ _⟩
   case round=>
    obtain⟨k,hk,rfl,rfl,D7⟩:=hrel;have HB:=Hi D7;by_cases hlt:k < 8
    ·obtain⟨e,he⟩:∃ e:Nat,56 -8*k=e:=⟨_,rfl⟩;obtain⟨q,hq⟩:∃ q:Nat,7 -k=q:=⟨_,rfl⟩;have hqi:7 -(k:Int)=(q:Int):=(by omega);have hei:8*(q:Int)=(e:Int):=(by omega);have Zj:=afe v k;rw[he] at Zj;have au0:(e:Int)≤56:=(by omega);have Ze:(q:Int)≤7:=(by omega);have hwe:IntKind.u64.wrap (e:Int)=(e:Int):=IntWalk.u64_in _ (by omega);have VF:((UInt8.ofNat (v / 2 ^ e)).toNat:Int)=(v:Int) / 2 ^ e % 256:=by
      rw[XO,Int.natCast_emod,Int.natCast_ediv,Int.natCast_pow];rfl
     have U0:=acP prog wr 232 5 9 5 underlying232 underlying5 underlying9 ((v:Int) / 2 ^ e % 256) (UInt8.ofNat (v / 2 ^ e)) VF;have De:(t++JZ v k).length≤100000200:=(by rw[Au,afd];omega);have Ll:=Hi (show t++JZ v k++[UInt8.ofNat (v / 2 ^ e)]=t++JZ v (k+1) by rw[Zj,Dp]);have HQ:=Hi (Cc hq hlt);rw[hqi];clear Zj he hqi hq hlt hk VF D7;generalize t++JZ v k=u at*;generalize UInt8.ofNat (v / 2 ^ e)=x at*;go_wp2_with fail;go_roundw
     case rel=>
      refine⟨k+1,HQ.2,?_,by rw[Ll.out],HB.alloc HB.size _⟩;have:=HQ.out
      show Value.int .i64 ((q:Int) -1)=_
      congr 1
      omega
     case measure=>have:=HQ.out;first|(simp[intOf];done)|(simp[intOf];omega)
    ·obtain rfl:k=8:=(by omega);clear hlt hk D7;go_wp2_with fail;go_ret;exact⟨by rw[HP.out];rfl,HB⟩
end
section
open Go.RowKit Go.Maps
open Sha
theorem azF:(prog.info? 5).map (fun i=>(i.zero,i.size,i.bytes))=some (some (.int .u8 0),1,1):=by kernel_rfl
theorem ao4(x:Int):IntKind.u8.wrap x=x % 256:=by simp[IntKind.wrap,IntKind.bits,IntKind.signed]
theorem aAg(x:Int):BV (w4 x)=[.int .u8 (x / 16777216 % 256),.int .u8 (x / 65536 % 256),.int .u8 (x / 256 % 256),.int .u8 (x % 256)]:=by
 have hb:∀ y:Int,((UInt8.ofNat (y % 256).toNat).toNat:Int)=y % 256:=fun y=>by rw[XO];omega
 unfold w4;simp only[lJ,eG,hb]
theorem afn{w:World}{base g n cap:Nat}{l:List UInt8}(_:l.length=n)(h:w.ownsRow base 5 1 (.slice (some ⟨g,0,none⟩) n cap) n (BV l))(i:Nat)(hi:i < l.length):w.cell? ⟨g,i,none⟩=some (.int .u8 (l[i].toNat:Int)):=by
 have hc:=h.cells (g:=g) rfl;have:=hc i (.int .u8 (l[i].toNat:Int)) (lK l i hi);rwa[add_plain] at this
theorem ayn{w:World}{gh gk:Nat}(s:List UInt8)(hs:s.length≤10000000)(K:Me w gk FI)(H:Me w gh Lv):
  Calls prog 200 #[.string (bs s),.slice (some ⟨gk,0,none⟩) 64 64,.slice (some ⟨gh,0,none⟩) 8 8] w fun e w'=>e=.returned (.string (bs (Eh s)))∧Bw w w':=by
 obtain⟨k,hk,hf⟩:=ax6 s;have gQ:=Hi (azc s k hf);have Kg:k≤1000000:=by
  have h1:=alo s;have h2:=adz (s.length+1);omega
 have aen:=Hi (ayf s w (by omega));obtain⟨P,hP⟩:=ex (Pg s);rw[hP] at hk gQ aen;have HK:=Hi K;have HH:=Hi H;have M7:=Hi (arT Lv P rfl);obtain⟨i0,Ba,AQ,AU,AV⟩:=Du azF;clear hf hP K H;go_enter func200,ntmps200;go_wp2_with fail;refine aen.mono ?_;rintro e w1⟨rfl,Ad⟩;have HB1:=Hi Ad;have Ty:=Hi (HK.below Ad);have Wj:=Hi (HH.below Ad);clear Ad HK HH;go_wp2_with fail
 go_loopw [2,7] (fun hv i wr=>∃ (j g c:Nat),j≤k∧i=.int .i64 (64*(j:Int))∧hv=.slice (some ⟨g,0,none⟩) 8 c∧Me wr g (feed Lv P j)∧Bw w1 wr) (fun _ i _=>64*k -(intOf i).toNat)
 case atStart=>exact⟨0,gh,8,by omega,rfl,rfl,Wj,Af _ _⟩
 case round=>
  obtain⟨j,g,c,hj,rfl,rfl,hw,hb⟩:=hrel;have HW:=Hi hw;have HB:=Hi hb;clear hw hb;by_cases hlt:j < k
  ·have hcut:∀ W,(Instr.slice 9 (.string (bs P)) (some (.int .i64 (64*(j:Int)))) (some (.int .i64 (64*(j:Int)+64))) none).run prog W=.ok (.string (bs ((P.drop (64*j)).take 64))) W:=fun W=>by
    have:=dW prog W 9 underlying9 P (64*j) (64*j+64) (by omega) (by omega);rw[show((64*j:Nat):Int)=64*(j:Int) by omega,show((64*j+64:Nat):Int)=64*(j:Int)+64 by omega] at this;rw[this,List.drop_take,show 64*j+64 -64*j=64 by omega]
   have De:((P.drop (64*j)).take 64).length=64:=(by rw[AL,Ce];omega);have QE:=Hi (axJ (w:=wr) (gh:=g) (gk:=gk) (ch':=c) (yL:=64) ((P.drop (64*j)).take 64) De (M7 j) HW (Ty.below HB));have Y1:=Hi (show feed Lv P (j+1)=OE (feed Lv P j) ((P.drop (64*j)).take 64) from rfl);have hlP:64*(j:Int) < (P.length:Int):=(by omega);clear De;generalize (P.drop (64*j)).take 64=X at*;go_wp2_with fail;refine QE.mono ?_;rintro e w2⟨g2,c2,rfl,_,Ns,A8⟩;have QS:=Hi Ns;have Ag:=Hi (HB.trans (A8.mono HB.size));clear Ns A8;go_wp2_with fail;go_roundw
   case rel=>exact⟨j+1,g2,c2,by omega,by first|(congr 1;done)|(congr 1;omega),rfl,by rw[Y1.out];exact QS.out,Ag⟩
   case measure=>first|(simp[intOf];done)|(simp[intOf];omega)
  ·obtain rfl:j=k:=(by omega);have hlP:¬ 64*(j:Int) < (P.length:Int):=(by omega);obtain⟨F,hF⟩:=ex (feed Lv P j);have WS:F.length=8:=(by rw[←hF];exact M7 j);rw[hF] at HW gQ;clear hF;have HA:=Hi (HB1.trans (HB.mono HB1.size));go_wp2_with fail;have HFl:=Hi WS;clear WS hlP hlt hk;obtain⟨R,hR⟩:=ex (wr.heap.size);have HWW:=Hi (fun(W:World) (hW:Below R wr W)=>(show Me W g F from by rw[←hR] at hW;exact HW.below hW));have UL:=Hi (fun(W:World) (hW:Below R wr W)=>(show Bw w W from by rw[←hR] at hW;exact HA.trans (hW.mono HA.size)))
   go_loopw [8,9] (fun o i wo=>∃ (t n:Nat),t≤8∧n=4*t∧i=.int .i64 (t:Int)∧wo.ownsRow R 5 1 o n (BV (Pf F t))∧Below R wr wo∧R≤wo.heap.size) (fun _ i _=>8 -(intOf i).toNat)
   case atStart=>exact⟨0,0,by omega,rfl,rfl,by rw[show Pf F 0=[] from rfl,eG];exact EI _ _ _ _,Af _ _,by omega⟩
   case round=>
    obtain⟨t,n,ht,hn,rfl,hown,Vk,hso⟩:=hrel;obtain⟨oq,Ho,rfl⟩:=Bg hown;have HO:=Hi hown;have fB:=Hi Vk;by_cases hlt:t < 8
    ·have ch:=(HWW _ Vk) t (by rw[HFl.out];exact hlt);have ih:=fun W=>Lc (g:=g) (cap:=c) 8 t hlt W
     have PI:=Hi (alm F t);obtain⟨x,hx⟩:=ex (F.getD t 0);rw[hx] at ch PI;have hti:(t:Int) < 8:=(by omega);have HN:=Hi (Cc hn hlt);have KT:n≤32:=(by omega);clear hown Vk hx hn hlt ht;go_wp2_with fail
     go_region_law
      ((refine step_append_lies _ (by rfl) _ _ _ (by rfl) R 5 i0 _ 1 1 underlying232 Ba AQ AU AV (by rfl) (by omega) (.slice oq n Ho) n (BV (Pf F t)) (by rfl) ((HO.alloc _).drew) ⟨wr.heap.size,0,none⟩ 4 4 [.int .u8 (IntKind.u8.wrap (x / 16777216)),.int .u8 (IntKind.u8.wrap (x / 65536)),.int .u8 (IntKind.u8.wrap (x / 256)),.int .u8 (IntKind.u8.wrap x)] (by rfl) (by rfl) (World.news_of_block (cs:=#[.int .u8 (IntKind.u8.wrap (x / 16777216)),.int .u8 (IntKind.u8.wrap (x / 65536)),.int .u8 (IntKind.u8.wrap (x / 256)),.int .u8 (IntKind.u8.wrap x)]) (t:=5) (fr:=(0,0)) (AJ wr _)) (by intro u hu;simp at hu;rcases hu with rfl|rfl|rfl|rfl<;>rfl) (by omega) (by unfold maxLen;omega) (by omega) (by rw[show((wr.alloc _).drew).heap.size=wr.heap.size+1 from Aq _ _];omega) (wr.heap.size+1) (by simp) ?_;intro gg nU w3 R9 Az hat aj7))
     all_goals
      have UO:=Hi ((((fB.alloc hso (.cells #[.int .u8 (IntKind.u8.wrap (x / 16777216)),.int .u8 (IntKind.u8.wrap (x / 65536)),.int .u8 (IntKind.u8.wrap (x / 256)),.int .u8 (IntKind.u8.wrap x)] 5)).drew)).grown Az (Ap hso (Nat.le_of_lt (by rw[show((wr.alloc (.cells #[.int .u8 (IntKind.u8.wrap (x / 16777216)),.int .u8 (IntKind.u8.wrap (x / 65536)),.int .u8 (IntKind.u8.wrap (x / 256)),.int .u8 (IntKind.u8.wrap x)] 5)).drew).heap.size=wr.heap.size+1 from Aq _ _];omega))) (fun j hj=>tX HO hj));have NL:=Hi R9;have Hy:=Hi (show R≤w3.heap.size from by have:=Az.size;rw[show((wr.alloc (.cells #[.int .u8 (IntKind.u8.wrap (x / 16777216)),.int .u8 (IntKind.u8.wrap (x / 65536)),.int .u8 (IntKind.u8.wrap (x / 256)),.int .u8 (IntKind.u8.wrap x)] 5)).drew).heap.size=wr.heap.size+1 from Aq _ _] at this;omega);clear R9 Az hat ch;go_wp2_with fail;go_roundw
      case rel=>
       refine⟨t+1,n+4,HN.2,by have:=HN.1;omega,by go_num,?_,UO,Hy⟩;rw[PI.out,ZP,aAg];simp only[←ao4];exact NL.out
      case measure=>have:=HN.2;first|(simp[intOf];done)|(simp[intOf];omega)
    ·obtain rfl:t=8:=(by omega);have auI:n=32:=(by omega);subst auI;obtain⟨gq,e1⟩:∃ gq,oq=some ⟨gq,0,none⟩:=by
      rcases hown.2 with⟨e0,e1⟩|⟨g,cap,cur,e0,hb,_⟩
      ·cases e1
      ·injection e0 with e0;exact⟨g,e0⟩
     subst e1;have P7:(Pf F 8).length=32:=acj F 8;have U0:=ZK prog wr 232 5 9 underlying232 underlying5 underlying9 gq 0 32 Ho (Pf F 8) P7 (fun i hi=>by rw[GJ];exact afn P7 hown i hi);rw[gQ.out] at U0;clear hown Vk P7;go_wp2_with fail;go_ret;exact⟨rfl,UL _ fB⟩
theorem amq(s:List UInt8)(hs:s.length≤10000000)(w:World):
  Calls prog 153 #[.string (bs s)] w fun e w'=>e=.returned (.string (bs (Eh s)))∧Bw w w':=by
 go_enter func153,ntmps153;go_wp2_with fail;refine(azB _).mono ?_;rintro e w1⟨g,gh,rfl,hk,hh,hb⟩;have HK:=Hi hk;have HH:=Hi hh;have HB:=Hi hb;clear hk hh hb;go_wp2_with fail;refine(ayn s hs HK HH).mono ?_;rintro e w2⟨rfl,A8⟩;have Ag:=Hi (HB.trans (A8.mono HB.size));clear A8;go_wp2_with fail;go_ret;exact⟨rfl,Ag⟩
end
end Go.Proofs.YtmbbhdebddbhoaaGreat
