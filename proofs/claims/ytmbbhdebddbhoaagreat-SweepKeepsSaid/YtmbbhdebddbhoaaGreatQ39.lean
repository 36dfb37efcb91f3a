/- RefSha RefBlk RefSum -/
import Derived.Test.YtmbbhdebddbhoaaGreatQ20
set_option maxHeartbeats 4000000
set_option maxRecDepth 100000
set_option linter.all false
namespace Go.Proofs.YtmbbhdebddbhoaaGreat
open Tryz hiding t1 t2
section
open Go.RowKit
open Sha
theorem aog(x:Int)(n:Nat)(h0:0 < n)(hn:n < 32)(w:World):
  Calls prog 251 #[.int .u32 x,.int .i64 n] w fun e w'=>e=.returned (.int .u32 (Ff x n))∧w'=w:=by
 have h1:(n:Int) < 32:=by omega
 have h2:(0:Int) < n:=by omega
 go_enter func251,ntmps251;go_wp2_with fail;go_ret;exact⟨rfl,rfl⟩
theorem eO(x:Int)(n:Int)(h0:0 < n)(hn:n < 32)(w:World):
  Calls prog 251 #[.int .u32 x,.int .i64 n] w fun e w'=>e=.returned (.int .u32 (Ff x n.toNat))∧w'=w:=by
 obtain⟨m,rfl⟩:=Int.eq_ofNat_of_zero_le (Int.le_of_lt h0);exact aog x m (by omega) (by omega) w
theorem aoh(w:World):(Instr.makeSlice 270 (.int .i64 64) (.int .i64 64)).run prog w=.ok (.slice (some ⟨w.heap.size,0,none⟩) 64 64) (w.alloc (.cells (AB (zeros 64)) 268)):=by
 have axw:(prog.info? 268).map (fun i=>(i.zero,i.size,i.bytes))=some (some (.int .u32 0),1,4):=by kernel_rfl
 obtain⟨i0,hi,hz0,hz1,hz2⟩:=Cz axw;have hrun:=run_make (P:=prog) w 270 268 i0 _ underlying270 hi hz0 .i64 .i64 64 64 (by omega) (Int.le_refl _) (by rw[hz2];omega) (by omega);rw[hz1] at hrun;have e:madeCells (Value.int .u32 0).cells ((64:Int).toNat*1)=AB (zeros 64):=by unfold AB zeros;kernel_rfl
 rw[e] at hrun;exact hrun
theorem Ig{cap g:Nat}(n k:Nat)(hk:k < n)(W:World):(Instr.indexAt 270 (.slice (some ⟨g,0,none⟩) n cap) (.int .i64 (k:Int))).run prog W=.ok (.pointer (some ⟨g,k,none⟩)) W:=by
 have h:=Fw prog 270 268 underlying270 1 (by kernel_rfl) ⟨g,0,none⟩ n cap k hk W;rw[add_plain,Nat.mul_one] at h;exact h
theorem aoi(b:List UInt8)(hb:b.length=64)(w:World):
  Calls prog 250 #[.string (bs b)] w fun e w'=>∃ g,e=.returned (.slice (some ⟨g,0,none⟩) 64 64)∧w.heap.size≤g∧w'.heap[g]?=some (.cells (AB (wsTo b 48)) 268)∧Bw w w':=by
 have hmk:=aoh w;go_enter func250,ntmps250;go_wp2_with fail
 go_loopw [4] (fun i wr=>∃ k:Nat,k≤16∧i=.int .i64 k∧Bw w wr∧wr.heap[w.heap.size]?=some (.cells (AB (NG b k)) 268)) (fun i _=>16 -(intOf i).toNat)
 case atStart=>exact⟨0,by omega,rfl,(Ad _ _).alloc (Ab _) _,Aq _ _⟩
 case round=>
  obtain⟨k,hk,rfl,hbw,ast⟩:=hrel;have HB:=Hi hbw;have HR:=Hi ast;by_cases hlt:k < 16
  ·have atE:wr.cell? ⟨w.heap.size,k,none⟩=some (.int .u32 ((NG b k)[k]'(by rw[UQ _ _ (by omega)];omega))):=by
    rw[AY _ _ _ _ _ _ ast,MC _ _ (by rw[UQ _ _ (by omega)];omega)]
   have hfz:=Cb _ _ k _ _ ast;generalize (NG b k)[k]'(by rw[UQ _ _ (by omega)];omega)=x0 at atE;have i1:=QZ b (4*k) (by omega) (4*(k:Int)) (by omega);have i2:=QZ b (4*k+1) (by omega) (4*(k:Int)+1) (by omega);have i3:=QZ b (4*k+2) (by omega) (4*(k:Int)+2) (by omega);have i4:=QZ b (4*k+3) (by omega) (4*(k:Int)+3) (by omega);have hix:=fun W=>Ig (g:=w.heap.size) (cap:=64) 64 k (by omega) W
   clear hbw ast;go_wp2_with fail;go_region;go_wp2_with fail;go_roundw
   case rel=>exact⟨k+1,by omega,by go_num,((HB.setCell (p:=⟨w.heap.size,k,none⟩) (Ab _) _).drew),by
    have h:=Bh wr w.heap.size k _ _ (.int .u32 (be b k)) HR;rw[ah,yR b k (by omega)] at h;exact h⟩
   case measure=>simp[intOf];omega
  ·obtain rfl:k=16:=(by omega);clear hbw ast;go_wp2_with fail
   go_loopw [5] (fun i wr=>∃ k:Nat,k≤48∧i=.int .i64 ((16+k:Nat):Int)∧Bw w wr∧wr.heap[w.heap.size]?=some (.cells (AB (wsTo b k++zeros (48 -k))) 268)) (fun i _=>64 -(intOf i).toNat)
   case atStart=>exact⟨0,by omega,rfl,HB,HR⟩
   case round=>
    clear HB HR;obtain⟨k,hk,rfl,hbw,ast⟩:=hrel;have HB:=Hi hbw;have HR:=Hi ast;clear hbw ast;by_cases hlt:k < 48
    ·have hlen:=SF b k
     have KP:=Hi (fun(V:World) (h:V.heap[w.heap.size]?=some (.cells (AB (wsTo b k++zeros (48 -k))) 268))=>(show(∀ j,j < 16+k→V.cell? ⟨w.heap.size,j,none⟩=some (.int .u32 ((wsTo b k).getD j 0)))∧(∃ v0,V.cell? ⟨w.heap.size,16+k,none⟩=some v0)∧V.frozen? ⟨w.heap.size,16+k,none⟩=false from by
      have hl:(wsTo b k++zeros (48 -k)).length=64:=(by rw[Aj,hlen];unfold zeros;simp;omega);refine⟨fun j hj=>?_,⟨_,(AY _ _ _ _ _ _ h).trans (MC _ _ (by omega))⟩,Cb _ _ _ _ _ h⟩;rw[AY _ _ _ _ _ _ h,MC _ _ (by omega),O3 (by omega),FK,BP (by omega)];rfl))
     have HST:=Hi (show(wsTo b k++zeros (48 -k)).set (16+k) (SE (wsTo b k) (16+k))=wsTo b (k+1)++zeros (48 -(k+1)) from by
      have e:=kE (wsTo b k) (48 -(k+1)) (SE (wsTo b k) (16+k));rw[hlen,show 48 -(k+1)+1=48 -k by omega] at e;exact e)
     unfold SE at HST;obtain⟨t,ht⟩:=ex (16+k);obtain⟨G8,h16⟩:=ex (t -16);obtain⟨LJ,X9⟩:=ex (t -15);obtain⟨j7,h7⟩:=ex (t -7);obtain⟨j2,h2⟩:=ex (t -2);rw[ht] at KP HST ⊢;rw[h16,X9,h7,h2] at HST;have e16:(t:Int) -16=(G8:Int):=(by omega);have e15:(t:Int) -15=(LJ:Int):=(by omega);have e7:(t:Int) -7=(j7:Int):=(by omega);have e2:(t:Int) -2=(j2:Int):=(by omega);have b0:(t:Int) < 64:=(by omega);have Mm:=Hi (show t+1=16+(k+1)∧k < 48 from by omega);obtain⟨hc,⟨v0,hcz⟩,hfz⟩:=KP _ HR.out;have c16:=hc G8 (by omega);have c15:=hc LJ (by omega);have c7:=hc j7 (by omega);have c2:=hc j2 (by omega);have aoj:=fun W=>Ig (g:=w.heap.size) (cap:=64) 64 G8 (by omega) W
     have aok:=fun W=>Ig (g:=w.heap.size) (cap:=64) 64 LJ (by omega) W
     have x7i:=fun W=>Ig (g:=w.heap.size) (cap:=64) 64 j7 (by omega) W
     have x2i:=fun W=>Ig (g:=w.heap.size) (cap:=64) 64 j2 (by omega) W
     have xti:=fun W=>Ig (g:=w.heap.size) (cap:=64) 64 t (by omega) W
     have aon:=aoj;have aoo:=aok;have x7k:=x7i;have x2k:=x2i;rw[←e16] at aon;rw[←e15] at aoo;rw[←e7] at x7k;rw[←e2] at x2k;have b16:(G8:Int) < 64:=(by omega);have b15:(LJ:Int) < 64:=(by omega);have b7:(j7:Int) < 64:=(by omega);have b2:(j2:Int) < 64:=(by omega);have w16:IntKind.i64.wrap (G8:Int)=(G8:Int):=(by rw[IntKind.wrap];simp[IntKind.bits,IntKind.signed];omega);have w15:IntKind.i64.wrap (LJ:Int)=(LJ:Int):=(by rw[IntKind.wrap];simp[IntKind.bits,IntKind.signed];omega);have w7:IntKind.i64.wrap (j7:Int)=(j7:Int):=(by rw[IntKind.wrap];simp[IntKind.bits,IntKind.signed];omega);have w2:IntKind.i64.wrap (j2:Int)=(j2:Int):=(by rw[IntKind.wrap];simp[IntKind.bits,IntKind.signed];omega);clear hc hlen ht h16 X9 h7 h2 hlt hk;obtain⟨PK,ayb⟩:=ex ((wsTo b k).getD G8 0);obtain⟨OA,Xa⟩:=ex ((wsTo b k).getD LJ 0);obtain⟨x7,hx7⟩:=ex ((wsTo b k).getD j7 0);obtain⟨x2,hx2⟩:=ex ((wsTo b k).getD j2 0);rw[Xa] at c15 HST;rw[hx2] at c2 HST;rw[ayb] at c16 HST;rw[hx7] at c7 HST;clear ayb Xa hx7 hx2;go_wp2_with fail
     go_region_held3 (fun V=>V.cell? ⟨w.heap.size,LJ,none⟩=some (.int .u32 OA)) (go_keep)
      (first|(go_at_call 251;refine(eO OA _ (by decide) (by decide) _).mono ?_;rintro e wA ⟨rfl,rfl⟩))
     go_wp2_with fail
     go_region_held3 (fun V=>V.cell? ⟨w.heap.size,j2,none⟩=some (.int .u32 x2)) (go_keep)
      (first|(go_at_call 251;refine(eO x2 _ (by decide) (by decide) _).mono ?_;rintro e wA ⟨rfl,rfl⟩))
     go_wp2_with fail;go_region;go_wp2_with fail;refine⟨?_,?measure⟩
     ·repeat apply Exists.intro
      refine⟨?rel,rfl⟩
      case rel=>
       refine⟨k+1,by have:=Mm.out;omega,by have:=Mm.1;go_num,?_,?_⟩
       ·exact(((HB.setCell (p:=⟨w.heap.size,t,none⟩) (Ab _) _).drew).drew).drew
       ·have h:=Bh wr w.heap.size t _ _ (.int .u32 ((sig x2 17 19 10+x7+sig OA 7 18 3+PK) % 4294967296)) HR.out;have e2:(wsTo b k++zeros (48 -k)).set t ((sig x2 17 19 10+x7+sig OA 7 18 3+PK) % 4294967296)=wsTo b (k+1)++zeros (48 -(k+1)):=by
         rw[show(sig x2 17 19 10+x7+sig OA 7 18 3+PK) % 4294967296=(((PK+sig OA 7 18 3) % 4294967296+x7) % 4294967296+sig x2 17 19 10) % 4294967296 by omega];exact HST.out
        rw[ah,e2] at h;exact h
     show 64 -((t:Int)+1).toNat < 64 -(t:Int).toNat
     omega
    ·obtain rfl:k=48:=(by omega);clear hlt;go_wp2_with fail;go_ret;have h:=HR.out;rw[show 48 -48=0 from rfl,show zeros 0=[] from rfl,E8] at h;exact⟨w.heap.size,rfl,Ab _,h,HB⟩
end
section
open Go.RowKit Go.Maps
open Sha
def J9(w:World)(g:Nat)(l:List Int):Prop:=∀ i,i < l.length→w.cell? ⟨g,i,none⟩=some (.int .u32 (l.getD i 0))
theorem J9.below{w w':World}{g:Nat}{l:List Int}(h:J9 w g l)(hb:Bw w w'):J9 w' g l:=fun i hi=>by
 have:=h i hi;exact(hb.cell (Bz this)).trans this
theorem eP{w:World}{g:Nat}{l:List Int}{t:TypeId}(h:w.heap[g]?=some (.cells (AB l) t)):J9 w g l:=fun i hi=>by
 rw[AY _ _ _ _ _ _ h,MC _ _ hi,FK,BP hi];rfl
theorem aor:(prog.info? 268).map (fun i=>(i.zero,i.size,i.bytes))=some (some (.int .u32 0),1,4):=by kernel_rfl
def M9(l:List Int):List Value:=l.map fun x=>.int .u32 x
theorem adA{w:World}{base g n cap:Nat}{l:List Int}(h:w.ownsRow base 268 1 (.slice (some ⟨g,0,none⟩) n cap) n (M9 l)):J9 w g l:=fun i hi=>by
 have hc:=h.cells (g:=g) rfl;have:=hc i (.int .u32 l[i]) (by unfold M9;rw[Gt,BP hi];rfl);rw[add_plain] at this;rw[this,FK,BP hi];rfl
theorem eQ{w:World}{base:Nat}{e:TypeId}{size:Nat}{v:Value}{n:Nat}{xs:List Value}(h:w.ownsRow base e size v n xs){b:Nat}(hb:v.ownBlock=some b):base≤b:=by
 rcases h.2 with⟨rfl,_⟩|⟨g,cap,cur,rfl,hbb,_⟩
 ·simp[Value.ownBlock] at hb
 ·simp[Value.ownBlock] at hb;omega
theorem aos(h V:List Int)(k:Nat)(hk:k < 8):(sumTo h V 8).take (k+1)=(sumTo h V 8).take k++[(h.getD k 0+V.getD k 0) % 4294967296]:=by
 have hl:k < (sumTo h V 8).length:=by rw[Xb];exact hk
 rw[BS hl];have:=kG h V 8 k hk;rw[Ac hk,FK,BP hl,Option.getD_some] at this;rw[this]
theorem aot(a s c k w:Int):((a+s+c+k) % 4294967296+w) % 4294967296=((((a+s) % 4294967296+c) % 4294967296+k) % 4294967296+w) % 4294967296:=by omega
theorem wrap32(x:Int):IntKind.u32.wrap x=x % 4294967296:=by simp[IntKind.wrap,IntKind.bits,IntKind.signed]
theorem aou{w:World}{gh gk ch' qB:Nat}{h:List Int}(b:List UInt8)(hb:b.length=64)(hh:h.length=8)(H:J9 w gh h)(K:J9 w gk Ej):
  Calls prog 234 #[.slice (some ⟨gh,0,none⟩) 8 ch',.slice (some ⟨gk,0,none⟩) 64 qB,.string (bs b)] w fun e w'=>∃ g c,e=.returned (.slice (some ⟨g,0,none⟩) 8 c)∧w.heap.size≤g∧J9 w' g (KJ h b)∧Bw w w':=by
 obtain⟨i0,hi0,hz0,hz1,hz2⟩:=Cz aor;have HH:=Hi H;have HK:=Hi K;clear H K;go_enter func234,ntmps234;go_wp2_with fail;refine(aoi b hb _).mono ?_;rintro e w1⟨gw,rfl,hgw,hw,hb1⟩;have HW:=Hi (eP hw);have HB1:=Hi hb1;have Rx:=Hi (HH.below hb1);clear hw hb1;have axa:∀ j u,(M9 h)[j]?=some u→w1.cell? ((⟨gh,0,none⟩:Addr).add j)=some u:=fun j u hu=>by
  have hj:j < h.length:=by
   have:=(Ql.1 hu).1;simpa[M9] using this
  rw[add_plain,Rx j hj];unfold M9 at hu;rw[Gt,BP hj] at hu;rw[FK,BP hj];exact hu
 go_wp2_with (at_builtin;refine wpList_append_own_at w1 rfl _ _ 270 rfl w1.heap.size 268 i0 _ 1 4 underlying270 hi0 hz0 hz1 hz2 rfl (by decide) (.slice none 0 0) 0 [] rfl (DJ _ _ _ _) ⟨gh,0,none⟩ 8 ch' (M9 h) rfl (by simp[M9,hh]) axa (by intro u hu;unfold M9 at hu;obtain⟨x,_,rfl⟩:=AV.1 hu;rfl) (by unfold maxLen;omega) (by omega) (Ab _) ?_;intro v2 w2 ho2 hg2 _ _;rw[DI,Fs] at ho2;obtain⟨g2,cap2,rfl⟩:=ownsRow_succ ho2;have Ri:=Hi (adA ho2);have HB2:=Hi ((Ad _ w1).grown hg2 (Ab _) (fun j e=>by cases e));clear ho2 hg2);have HW2:=Hi (HW.below HB2);have JV:=Hi (Rx.below HB2);have Gn:=Hi ((HK.below HB1).below HB2);have HA2:=Hi (HB1.trans (HB2.mono HB1.size));have hrl:=fun t=>yX (W:=wsTo b 48) hh t
 clear axa HW Rx HB1 HB2 HH HK
 go_loopw [8,9] (fun v i wr=>∃ (t gv cv:Nat),t≤64∧i=.int .i64 (t:Int)∧v=.slice (some ⟨gv,0,none⟩) 8 cv∧J9 wr gv (rounds (wsTo b 48) h t)∧Bw w2 wr)
  (fun _ i _=>64 -(intOf i).toNat)
 case atStart=>exact⟨0,g2,cap2,by omega,rfl,rfl,Ri,Ad _ _⟩
 case round=>
  obtain⟨t,gv,cv',ht,rfl,rfl,hv,hb2⟩:=hrel;have HV:=Hi hv;have HB:=Hi hb2;clear Ri;by_cases hlt:t < 64
  ·have hl:=hrl t;obtain⟨V,KL⟩:=ex (rounds (wsTo b 48) h t);rw[KL] at hv hl;have qC:=Hi (show rounds (wsTo b 48) h (t+1)=turn V (Ej.getD t 0) ((wsTo b 48).getD t 0) by show turn (rounds (wsTo b 48) h t) _ _=_;rw[KL]);have c0:=hv 0 (by omega);have c1:=hv 1 (by omega);have c2:=hv 2 (by omega);have c3:=hv 3 (by omega);have c4:=hv 4 (by omega);have c5:=hv 5 (by omega);have c6:=hv 6 (by omega);have c7:=hv 7 (by omega);have ck:=(Gn.below hb2) t (by show t < 64;exact hlt);have cw:=(HW2.below hb2) t (by rw[SF];omega);unfold turn t1 t2 at qC;obtain⟨x0,hx0⟩:=ex (V.getD 0 0);obtain⟨x1,hx1⟩:=ex (V.getD 1 0);obtain⟨x2,hx2⟩:=ex (V.getD 2 0);obtain⟨x3,hx3⟩:=ex (V.getD 3 0);obtain⟨x4,hx4⟩:=ex (V.getD 4 0);obtain⟨x5,hx5⟩:=ex (V.getD 5 0);obtain⟨x6,hx6⟩:=ex (V.getD 6 0);obtain⟨x7,hx7⟩:=ex (V.getD 7 0);obtain⟨xk,hxk⟩:=ex (Ej.getD t 0);obtain⟨xw,QS⟩:=ex ((wsTo b 48).getD t 0);rw[hx0,hx1,hx2,hx3,hx4,hx5,hx6,hx7,hxk,QS] at qC;rw[hx0] at c0;rw[hx1] at c1;rw[hx2] at c2;rw[hx3] at c3;rw[hx4] at c4;rw[hx5] at c5;rw[hx6] at c6;rw[hx7] at c7;rw[hxk] at ck;rw[QS] at cw;have i0:=fun W=>Ig (g:=gv) (cap:=cv') 8 0 (by omega) W
   have i1:=fun W=>Ig (g:=gv) (cap:=cv') 8 1 (by omega) W
   have i2:=fun W=>Ig (g:=gv) (cap:=cv') 8 2 (by omega) W
   have i3:=fun W=>Ig (g:=gv) (cap:=cv') 8 3 (by omega) W
   have i4:=fun W=>Ig (g:=gv) (cap:=cv') 8 4 (by omega) W
   have i5:=fun W=>Ig (g:=gv) (cap:=cv') 8 5 (by omega) W
   have i6:=fun W=>Ig (g:=gv) (cap:=cv') 8 6 (by omega) W
   have i7:=fun W=>Ig (g:=gv) (cap:=cv') 8 7 (by omega) W
   have ik:=fun W=>Ig (g:=gk) (cap:=qB) 64 t hlt W
   have iw:=fun W=>Ig (g:=gw) (cap:=64) 64 t hlt W
   have hti:(t:Int) < 64:=(by omega);clear hv KL hx0 hx1 hx2 hx3 hx4 hx5 hx6 hx7 hxk QS hl HV hrl;go_wp2_with fail
   go_region_held3 (fun V=>V.cell? ⟨gv,4,none⟩=some (.int .u32 x4)) (go_keep)
    (first|(go_at_call 251;refine(eO x4 _ (by decide) (by decide) _).mono ?_;rintro e wA ⟨rfl,rfl⟩))
   go_wp2_with fail
   go_region_held3 (fun V=>V.cell? ⟨gv,0,none⟩=some (.int .u32 x0)) (go_keep)
    (first|(go_at_call 251;refine(eO x0 _ (by decide) (by decide) _).mono ?_;rintro e wA ⟨rfl,rfl⟩))
   go_wp2_with fail
   go_region_held3 (fun V=>V.cell? ⟨gv,4,none⟩=some (.int .u32 x4)∧V.cell? ⟨gv,5,none⟩=some (.int .u32 x5)∧V.cell? ⟨gv,6,none⟩=some (.int .u32 x6)∧V.cell? ⟨gv,7,none⟩=some (.int .u32 x7)∧V.cell? ⟨gk,t,none⟩=some (.int .u32 xk)∧V.cell? ⟨gw,t,none⟩=some (.int .u32 xw)) (go_keep) (fail)
   simp only[wrap32,show(if IntKind.u32.signed=true then(-1:Int) else IntKind.u32.max)=IntKind.u32.max from rfl];obtain⟨T1,hT1⟩:=ex (((((x7+bits .xor .u32 (bits .xor .u32 (Ff x4 6) (Ff x4 11)) (Ff x4 25)) % 4294967296+bits .xor .u32 (bits .and .u32 x4 x5) (bits .and .u32 (bits .xor .u32 IntKind.u32.max x4) x6)) % 4294967296+xk) % 4294967296+xw) % 4294967296);rw[hT1];have HT1:=Hi hT1;clear hT1 c7 ck cw ik iw i7;go_wp2_with fail
   go_region_held3 (fun V=>V.cell? ⟨gv,0,none⟩=some (.int .u32 x0)∧V.cell? ⟨gv,1,none⟩=some (.int .u32 x1)∧V.cell? ⟨gv,2,none⟩=some (.int .u32 x2)) (go_keep) (fail)
   simp only[wrap32];obtain⟨T2,PL⟩:=ex ((bits .xor .u32 (bits .xor .u32 (Ff x0 2) (Ff x0 13)) (Ff x0 22)+bits .xor .u32 (bits .xor .u32 (bits .and .u32 x0 x1) (bits .and .u32 x0 x2)) (bits .and .u32 x1 x2)) % 4294967296);rw[PL];have HT2:=Hi PL;clear PL;go_wp2_with fail
   go_region_held3 (fun V=>V.cell? ⟨gv,0,none⟩=some (.int .u32 x0)∧V.cell? ⟨gv,1,none⟩=some (.int .u32 x1)∧V.cell? ⟨gv,2,none⟩=some (.int .u32 x2)∧V.cell? ⟨gv,3,none⟩=some (.int .u32 x3)∧V.cell? ⟨gv,4,none⟩=some (.int .u32 x4)∧V.cell? ⟨gv,5,none⟩=some (.int .u32 x5)∧V.cell? ⟨gv,6,none⟩=some (.int .u32 x6)) (go_keep) (fail)
   simp only[wrap32];have hrt:=qC.out;rw[aot,HT1.out,HT2.out] at hrt;have HRT:=Hi hrt;clear hrt c0 c1 c2 c3 c4 c5 c6 i0 i1 i2 i3 i4 i5 i6;go_wp2_with fail;go_roundw
   case rel=>
    refine⟨t+1,wr.heap.size,8,by omega,by go_num,rfl,?_,?_⟩
    ·rw[HRT.out];refine eP (t:=268) ?_;rw[←UT];exact Aq wr _
    ·exact(((((HB.alloc HB.size _).drew).drew).drew).drew).drew
   case measure=>simp[intOf];omega
  ·obtain rfl:t=64:=(by omega);clear hv hb2;have hVl:=hrl 64;obtain⟨V,KL⟩:=ex (rounds (wsTo b 48) h 64);rw[KL] at HV hVl;have HVE:=Hi KL;clear KL hrl;have hH:=JV.below HB.out;have HHR:=Hi hH;have HHB:=Hi HB.out;clear hH;go_wp2_with fail;obtain⟨R,hR⟩:=ex (wr.heap.size);have hRL:w2.heap.size≤R:=(by rw[←hR];exact HB.size);have HKH:=Hi (fun(W:World) (hW:Below R wr W)=>(show J9 W gh h∧J9 W gv V from by rw[←hR] at hW;exact⟨HHR.below hW,HV.below hW⟩))
   go_loopw [14,15] (fun o i wo=>∃ (k:Nat),k≤8∧i=.int .i64 (k:Int)∧wo.ownsRow R 268 1 o k (M9 ((sumTo h V 8).take k))∧Bw w2 wo∧Below R wr wo∧R≤wo.heap.size)
    (fun _ i _=>8 -(intOf i).toNat)
   case atStart=>exact⟨0,by omega,rfl,DJ _ _ _ _,HB,Ad _ _,by omega⟩
   case round=>
    obtain⟨k,hk,rfl,hown,Qh,hbr,hRs⟩:=hrel;obtain⟨oq,Fj,rfl⟩:=AA hown;have HO:=Hi hown;have YA:=Hi Qh;have QJ:=Hi hbr;by_cases hlt:k < 8
    ·have ch:=(HKH _ hbr).1 k (by omega);have cv:=(HKH _ hbr).2 k (by omega);have ih:=fun W=>Ig (g:=gh) (cap:=ch') 8 k hlt W
     have iv:=fun W=>Ig (g:=gv) (cap:=cv') 8 k hlt W
     obtain⟨xh,hxh⟩:=ex (h.getD k 0);obtain⟨xv,hxv⟩:=ex (V.getD k 0);rw[hxh] at ch;rw[hxv] at cv;have HX:=Hi (BD hxh hxv);have hki:(k:Int) < 8:=(by omega);have hso:=Qh.size;clear hown Qh hbr hxh hxv;go_wp2_with fail
     go_region_law
      ((refine step_append_lies _ (by rfl) _ _ _ (by rfl) R 268 i0 _ 1 4 underlying270 hi0 hz0 hz1 hz2 (by rfl) (by omega) (.slice oq k Fj) k (M9 ((sumTo h V 8).take k)) (by rfl) ((HO.alloc _).drew) ⟨wr.heap.size,0,none⟩ 1 1 [.int .u32 (IntKind.u32.wrap (xh+xv))] (by rfl) (by rfl) (World.news_of_block (cs:=#[.int .u32 (IntKind.u32.wrap (xh+xv))]) (t:=268) (fr:=(0,0)) (Aq wr _)) (by intro u hu;simp at hu;subst hu;rfl) (by omega) (by unfold maxLen;omega) (by omega) (by rw[show((wr.alloc _).drew).heap.size=wr.heap.size+1 from Ai _ _];omega) (wr.heap.size+1) (by simp) ?_;intro gg bR w3 aw3 asx hat aAR))
     all_goals
      have HW3:=Hi ((((YA.alloc YA.size (.cells #[.int .u32 (IntKind.u32.wrap (xh+xv))] 268)).drew)).grown asx (Ah hRL (Ah hRs (Nat.le_of_lt (by rw[show((wr.alloc (.cells #[.int .u32 (IntKind.u32.wrap (xh+xv))] 268)).drew).heap.size=wr.heap.size+1 from Ai _ _];omega)))) (fun j hj=>Ah hRL (eQ HO hj)));have HR3:=Hi ((((QJ.alloc hRs (.cells #[.int .u32 (IntKind.u32.wrap (xh+xv))] 268)).drew)).grown asx (Ah hRs (Nat.le_of_lt (by rw[show((wr.alloc (.cells #[.int .u32 (IntKind.u32.wrap (xh+xv))] 268)).drew).heap.size=wr.heap.size+1 from Ai _ _];omega))) (fun j hj=>eQ HO hj));have K7:=Hi aw3;have hs3:=asx.size;rw[show((wr.alloc (.cells #[.int .u32 (IntKind.u32.wrap (xh+xv))] 268)).drew).heap.size=wr.heap.size+1 from Ai _ _] at hs3;clear aw3 asx hat ch cv;go_wp2_with fail;go_roundw
      case rel=>
       repeat apply Exists.intro
       refine⟨?aoz,rfl⟩
       case aoz=>
        refine⟨k+1,by omega,by go_num,?_,HW3,HR3,by omega⟩;rw[aos h V k hlt,HX.1,HX.2,show M9 ((sumTo h V 8).take k++[(xh+xv) % 4294967296])=M9 ((sumTo h V 8).take k)++[.int .u32 ((xh+xv) % 4294967296)] by unfold M9;rw[C8];rfl,←wrap32];exact K7.out
      case measure=>first|(simp[intOf];done)|(simp[intOf];omega)
    ·obtain rfl:k=8:=(by omega);go_wp2_with fail;go_ret;obtain⟨gq,adD,e1,hbq,_⟩:∃ gq adD,(Value.slice oq 8 Fj)=.slice (some ⟨gq,0,none⟩) 8 adD∧R≤gq∧True:=by
      rcases hown.2 with⟨e0,e1⟩|⟨g,cap,cur,e0,hb,_⟩
      ·cases e1
      ·exact⟨g,cap,e0,hb,trivial⟩
     injection e1 with e1 _ e2
     subst e1 e2;refine⟨gq,Fj,rfl,by have:=HA2.size;omega,?_,HA2.trans (Qh.mono HA2.size)⟩;have e3:(sumTo h V 8).take 8=KJ h b:=by
      rw[ET (by rw[Xb];exact Ab 8),←HVE.out];rfl
     rw[e3] at hown;exact adA hown
end
namespace Sha
open Go.RowKit
theorem adE(h:List Int)(a b:List UInt8)(m:Nat)(ha:a.length=64*m):∀ k,feed h (a++b) (m+k)=feed (feed h a m) b k:=by
 have h0:∀ j,j≤m→feed h (a++b) j=feed h a j:=by
  intro j
  induction j with
  |zero=>intro _;rfl
  |succ j ih=>
   intro hj
   show KJ (feed h (a++b) j) (((a++b).drop (64*j)).take 64)=KJ (feed h a j) ((a.drop (64*j)).take 64)
   rw[ih (by omega),List.drop_append_of_le_length (by omega),List.take_append_of_le_length (by rw[BA];omega)]
 intro k
 induction k with
 |zero=>exact h0 m (Ab _)
 |succ k ih=>
  show KJ (feed h (a++b) (m+k)) (((a++b).drop (64*(m+k))).take 64)=KJ (feed (feed h a m) b k) ((b.drop (64*k)).take 64)
  rw[ih,show 64*(m+k)=a.length+64*k by rw[ha];omega,List.drop_append]
  congr 2
  rw[List.drop_of_length_le (by omega),DI,show a.length+64*k -a.length=64*k by omega]
def L8(s:List UInt8):List UInt8:=(s++[128])++List.replicate (zf (s.length+1)) 0++Hf (8*s.length) 8
theorem qE(s:List UInt8):L8 s=s.take (64*(s.length / 64))++I6 (leftOf s) s.length:=by
 have e:zf ((leftOf s).length+1)=zf (s.length+1):=by
  unfold leftOf zf;rw[BA];omega
 unfold L8 I6;rw[e];unfold leftOf;simp only[←Cw];rw[Ja]
theorem adF(v j:Nat):(Hf v j).length=j:=by unfold Hf;simp
theorem adG(s:List UInt8):(L8 s).length=s.length+1+zf (s.length+1)+8:=by
 unfold L8;simp[adF];omega
theorem aoA(s:List UInt8):∃ k,(L8 s).length=64*k∧feed Ir (L8 s) k=OD (OD Ir s) (I6 (leftOf s) s.length):=by
 have hl:=adG s;have hz:=kP (s.length+1);obtain⟨k,hk⟩:∃ k,(L8 s).length=64*k:=⟨(L8 s).length / 64,by rw[hl];omega⟩;have ht:(s.take (64*(s.length / 64))).length=64*(s.length / 64):=by rw[Aw];omega
 have hp:(I6 (leftOf s) s.length).length=64*(k -s.length / 64):=by
  have:=congrArg List.length (qE s);rw[Aj,ht,hk] at this;omega
 have hm:s.length / 64≤k:=by
  have:=congrArg List.length (qE s);rw[Aj,ht,hk] at this;omega
 refine⟨k,hk,?_⟩;have h1:=adE Ir (s.take (64*(s.length / 64))) (I6 (leftOf s) s.length) (s.length / 64) ht (k -s.length / 64);rw[←qE,show s.length / 64+(k -s.length / 64)=k by omega] at h1;rw[h1];unfold OD;rw[hp,Nat.mul_div_cancel_left _ (by decide)]
 congr 1
 have h2:=adE Ir (s.take (64*(s.length / 64))) (s.drop (64*(s.length / 64))) (s.length / 64) ht 0;rw[Ja] at h2;exact h2.symm
theorem aoB(s:List UInt8)(k:Nat)(h:feed Ir (L8 s) k=OD (OD Ir s) (I6 (leftOf s) s.length)):KO (feed Ir (L8 s) k) 8=De s:=by
 rw[h];rfl
theorem aoC(h:List Int)(s:List UInt8)(hh:h.length=8):∀ k,(feed h s k).length=8
 |0=>hh
 |_+1=>ajV _ _
end Sha
section
open Go.RowKit Go.Maps
open Sha
theorem aoD(w:World):
  Calls prog 199 #[] w fun e w'=>∃ g gh,e=.returned (.tuple #[.slice (some ⟨g,0,none⟩) 64 64,.slice (some ⟨gh,0,none⟩) 8 8])∧J9 w' g Ej∧J9 w' gh Ir∧Bw w w':=by
 have HC:=Hi yV;go_enter func199,ntmps199;go_wp2_with fail;rw[HC.out];go_ret2;refine⟨w.heap.size,w.heap.size+1,rfl,(eP (t:=268) (Aq _ _)).below ((Ad _ _).alloc (Ab _) _),eP (t:=268) ?_,((Ad _ _).alloc (Ab _) _).alloc ((Ad _ _).alloc (Ab _) (.cells (AB Ej) 268)).size _⟩;rw[UT];have h:=Aq (w.alloc (.cells (AB Ej) 268)) (.cells (AB Ir) 268);rw[Ai] at h;exact h
def aoE(l:List UInt8)(m:Nat)(v:Value):Prop:=∃ j,j≤m∧v=.string (bs (l++List.replicate j 0))
def qF(v:Value):Nat:=match v with| .string s=>s.size|_=>0
theorem aoF(s:List UInt8)(w:World)(hs:s.length≤100000000):
  Calls prog 233 #[.string (bs s)] w fun e w'=>e=.returned (.string (bs (L8 s)))∧Bw w w':=by
 have G7:({ data:=#[128] }:ByteArray)=bs [128]:=rfl;have P5:IntKind.u64.wrap ((s.length:Int)*8)=(s.length:Int)*8:=IntWalk.u64_in _ (by omega);have hwl:IntKind.u64.wrap (s.length:Int)=(s.length:Int):=IntWalk.u64_in _ (by omega);go_enter func233,ntmps233;go_wp2_with fail;obtain⟨l,hl⟩:=ex (s++[128]);have hll:l.length=s.length+1:=by rw[←hl];simp
 obtain⟨m,hm⟩:=ex (zf (s.length+1));have hme:∀ j,j < m→(l.length+j) % 64≠56:=fun j hj=>by rw[hll];exact zy _ _ (by omega)
 have hmz:(l.length+m) % 64=56:=by rw[hll,←hm];exact kP _
 have hmb:m < 64:=by rw[←hm];exact kQ _
 have HME:=Hi hme;have HMZ:=Hi hmz;have HP:=Hi (show L8 s=(l++List.replicate m 0)++Hf (8*s.length) 8 by unfold L8;rw[hl,hm]);have JF:=Hi hll;rw[hl];clear hme hmz hl hm hll G7 P5 hwl
 go_loop [0] (fun v=>aoE l m v) (fun v=>l.length+m -qF v)
 case atStart=>exact⟨0,Ar _,by simp⟩
 case round=>
  obtain⟨j,hj,rfl⟩:=hrel;have htl:(l++List.replicate j (0:UInt8)).length=l.length+j:=by simp
  have hnx:l++List.replicate j (0:UInt8)++[0]=l++List.replicate (j+1) 0:=by rw[Cw,←List.replicate_succ']
  have IV:=Hi htl;have Eg:=Hi hnx;have hlb:=JF.out;by_cases hlt:j < m
  ·have hne:=HME j hlt;rw[←htl] at hne;have htb:(l++List.replicate j (0:UInt8)).length≤100000100:=(by rw[htl];omega);clear htl hnx hlb;generalize l++List.replicate j (0:UInt8)=t at*;have hb1:((t.length:Int) % 64 == 56)=false:=(by rw[Fq];omega);have hb2:((t.length:Int) % 64 != 56)=true:=(by rw[bne_iff_ne];omega);have hz:({ data:=#[0] }:ByteArray)=bs [0]:=rfl;clear hne;go_wp2_with fail
   go_round
   case rel=>exact⟨j+1,hlt,by rw[Eg.out]⟩
   case measure=>
    have h1:qF (.string (bs t))=l.length+j:=IV.out;have h2:qF (.string (bs (t++[0])))=l.length+j+1:=(by show(t++[0]).length=_;rw[Aj,IV.out];rfl);rw[h1,h2];omega
  ·obtain rfl:j=m:=(by omega);have hz:=HMZ.out;rw[←htl] at hz;have htb:(l++List.replicate j (0:UInt8)).length≤100000100:=(by rw[htl];omega);clear htl hnx hlb;generalize l++List.replicate j (0:UInt8)=t at*;have hb1:((t.length:Int) % 64 == 56)=true:=(by rw[beq_iff_eq];omega);have hb2:((t.length:Int) % 64 != 56)=false:=(by rw[bne_eq_false_iff_eq];omega);clear hz Eg IV;go_wp2_with fail;have GV:=Hi (show((s.length:Int)*8)=((8*s.length:Nat):Int) by omega);rw[GV.out];obtain⟨v,hv⟩:=ex (8*s.length);have hvb:v≤800000000:=(by omega);rw[hv] at HP ⊢;clear hv GV
   go_loopw [0,4] (fun a i wr=>∃ k:Nat,k≤8∧i=.int .i64 (7 -(k:Int))∧a=.string (bs (t++Hf v k))∧Bw w wr) (fun _ i _=>(intOf i+1).toNat)
   case atStart=>exact⟨0,by omega,rfl,by rw[show Hf v 0=[] from rfl,E8],Ad _ _⟩
   case round=>
    obtain⟨k,hk,rfl,rfl,hbw⟩:=hrel;have HB:=Hi hbw;by_cases hlt:k < 8
    ·obtain⟨e,he⟩:∃ e:Nat,56 -8*k=e:=⟨_,rfl⟩;obtain⟨q,hq⟩:∃ q:Nat,7 -k=q:=⟨_,rfl⟩;have hqi:7 -(k:Int)=(q:Int):=(by omega);have zC:8*(q:Int)=(e:Int):=(by omega);have axI:=zz v k;rw[he] at axI;have ak9:(e:Int)≤56:=(by omega);have Tw:(q:Int)≤7:=(by omega);have hwe:IntKind.u64.wrap (e:Int)=(e:Int):=IntWalk.u64_in _ (by omega);have hxv:((UInt8.ofNat (v / 2 ^ e)).toNat:Int)=(v:Int) / 2 ^ e % 256:=by
      rw[Qo,Int.natCast_emod,Int.natCast_ediv,Int.natCast_pow];rfl
     have hcv:=fJ prog wr 232 5 9 5 underlying232 underlying5 underlying9 ((v:Int) / 2 ^ e % 256) (UInt8.ofNat (v / 2 ^ e)) hxv;have hbl:(t++Hf v k).length≤100000200:=(by rw[Aj,adF];omega);have II:=Hi (show t++Hf v k++[UInt8.ofNat (v / 2 ^ e)]=t++Hf v (k+1) by rw[axI,Cw]);have HQ:=Hi (BD hq hlt);rw[hqi];clear axI he hqi hq hlt hk hxv hbw;generalize t++Hf v k=u at*;generalize UInt8.ofNat (v / 2 ^ e)=x at*;go_wp2_with fail;go_roundw
     case rel=>
      refine⟨k+1,HQ.2,?_,by rw[II.out],HB.alloc HB.size _⟩;have:=HQ.out
      show Value.int .i64 ((q:Int) -1)=_
      congr 1
      omega
     case measure=>have:=HQ.out;first|(simp[intOf];done)|(simp[intOf];omega)
    ·obtain rfl:k=8:=(by omega);clear hlt hk hbw;go_wp2_with fail;go_ret;exact⟨by rw[HP.out];rfl,HB⟩
end
section
open Go.RowKit Go.Maps
open Sha
theorem aoI:(prog.info? 5).map (fun i=>(i.zero,i.size,i.bytes))=some (some (.int .u8 0),1,1):=by kernel_rfl
theorem adH(x:Int):IntKind.u8.wrap x=x % 256:=by simp[IntKind.wrap,IntKind.bits,IntKind.signed]
theorem aoJ(x:Int):Bn (w4 x)=[.int .u8 (x / 16777216 % 256),.int .u8 (x / 65536 % 256),.int .u8 (x / 256 % 256),.int .u8 (x % 256)]:=by
 have hb:∀ y:Int,((UInt8.ofNat (y % 256).toNat).toNat:Int)=y % 256:=fun y=>by rw[Qo];omega
 unfold w4;simp only[Wo,Uh,hb]
theorem adI{w:World}{base g n cap:Nat}{l:List UInt8}(_:l.length=n)(h:w.ownsRow base 5 1 (.slice (some ⟨g,0,none⟩) n cap) n (Bn l))(i:Nat)(hi:i < l.length):w.cell? ⟨g,i,none⟩=some (.int .u8 (l[i].toNat:Int)):=by
 have hc:=h.cells (g:=g) rfl;have:=hc i (.int .u8 (l[i].toNat:Int)) (Wm l i hi);rwa[add_plain] at this
theorem aoK{w:World}{gh gk:Nat}(s:List UInt8)(hs:s.length≤10000000)(K:J9 w gk Ej)(H:J9 w gh Ir):
  Calls prog 200 #[.string (bs s),.slice (some ⟨gk,0,none⟩) 64 64,.slice (some ⟨gh,0,none⟩) 8 8] w fun e w'=>e=.returned (.string (bs (De s)))∧Bw w w':=by
 obtain⟨k,hk,hf⟩:=aoA s;have Yl:=Hi (aoB s k hf);have hkb:k≤1000000:=by
  have h1:=adG s;have h2:=kQ (s.length+1);omega
 have adJ:=Hi (aoF s w (by omega));obtain⟨P,hP⟩:=ex (L8 s);rw[hP] at hk Yl adJ;have HK:=Hi K;have HH:=Hi H;have IQ:=Hi (aoC Ir P rfl);obtain⟨i0,hi0,hz0,hz1,hz2⟩:=Cz aoI;clear hf hP K H;go_enter func200,ntmps200;go_wp2_with fail;refine adJ.mono ?_;rintro e w1⟨rfl,hb1⟩;have HB1:=Hi hb1;have Oj:=Hi (HK.below hb1);have Rx:=Hi (HH.below hb1);clear hb1 HK HH;go_wp2_with fail
 go_loopw [2,7] (fun hv i wr=>∃ (j g c:Nat),j≤k∧i=.int .i64 (64*(j:Int))∧hv=.slice (some ⟨g,0,none⟩) 8 c∧J9 wr g (feed Ir P j)∧Bw w1 wr) (fun _ i _=>64*k -(intOf i).toNat)
 case atStart=>exact⟨0,gh,8,by omega,rfl,rfl,Rx,Ad _ _⟩
 case round=>
  obtain⟨j,g,c,hj,rfl,rfl,hw,hb⟩:=hrel;have HW:=Hi hw;have HB:=Hi hb;clear hw hb;by_cases hlt:j < k
  ·have hcut:∀ W,(Instr.slice 9 (.string (bs P)) (some (.int .i64 (64*(j:Int)))) (some (.int .i64 (64*(j:Int)+64))) none).run prog W=.ok (.string (bs ((P.drop (64*j)).take 64))) W:=fun W=>by
    have:=Um prog W 9 underlying9 P (64*j) (64*j+64) (by omega) (by omega);rw[show((64*j:Nat):Int)=64*(j:Int) by omega,show((64*j+64:Nat):Int)=64*(j:Int)+64 by omega] at this;rw[this,List.drop_take,show 64*j+64 -64*j=64 by omega]
   have hbl:((P.drop (64*j)).take 64).length=64:=(by rw[Aw,BA];omega);have MJ:=Hi (aou (w:=wr) (gh:=g) (gk:=gk) (ch':=c) (qB:=64) ((P.drop (64*j)).take 64) hbl (IQ j) HW (Oj.below HB));have U1:=Hi (show feed Ir P (j+1)=KJ (feed Ir P j) ((P.drop (64*j)).take 64) from rfl);have hlP:64*(j:Int) < (P.length:Int):=(by omega);clear hbl;generalize (P.drop (64*j)).take 64=X at*;go_wp2_with fail;refine MJ.mono ?_;rintro e w2⟨g2,c2,rfl,_,hw2,hb2⟩;have HW2:=Hi hw2;have HB2:=Hi (HB.trans (hb2.mono HB.size));clear hw2 hb2;go_wp2_with fail;go_roundw
   case rel=>exact⟨j+1,g2,c2,by omega,by first|(congr 1;done)|(congr 1;omega),rfl,by rw[U1.out];exact HW2.out,HB2⟩
   case measure=>first|(simp[intOf];done)|(simp[intOf];omega)
  ·obtain rfl:j=k:=(by omega);have hlP:¬ 64*(j:Int) < (P.length:Int):=(by omega);obtain⟨F,hF⟩:=ex (feed Ir P j);have QP:F.length=8:=(by rw[←hF];exact IQ j);rw[hF] at HW Yl;clear hF;have HA:=Hi (HB1.trans (HB.mono HB1.size));go_wp2_with fail;have HFl:=Hi QP;clear QP hlP hlt hk;obtain⟨R,hR⟩:=ex (wr.heap.size);have HWW:=Hi (fun(W:World) (hW:Below R wr W)=>(show J9 W g F from by rw[←hR] at hW;exact HW.below hW));have HRW:=Hi (fun(W:World) (hW:Below R wr W)=>(show Bw w W from by rw[←hR] at hW;exact HA.trans (hW.mono HA.size)))
   go_loopw [8,9] (fun o i wo=>∃ (t n:Nat),t≤8∧n=4*t∧i=.int .i64 (t:Int)∧wo.ownsRow R 5 1 o n (Bn (KO F t))∧Below R wr wo∧R≤wo.heap.size) (fun _ i _=>8 -(intOf i).toNat)
   case atStart=>exact⟨0,0,by omega,rfl,rfl,by rw[show KO F 0=[] from rfl,Uh];exact DJ _ _ _ _,Ad _ _,by omega⟩
   case round=>
    obtain⟨t,n,ht,hn,rfl,hown,Qh,hso⟩:=hrel;obtain⟨oq,Fj,rfl⟩:=AA hown;have HO:=Hi hown;have YA:=Hi Qh;by_cases hlt:t < 8
    ·have ch:=(HWW _ Qh) t (by rw[HFl.out];exact hlt);have ih:=fun W=>Ig (g:=g) (cap:=c) 8 t hlt W
     have Lv:=Hi (zx F t);obtain⟨x,hx⟩:=ex (F.getD t 0);rw[hx] at ch Lv;have hti:(t:Int) < 8:=(by omega);have HN:=Hi (BD hn hlt);have hnb:n≤32:=(by omega);clear hown Qh hx hn hlt ht;go_wp2_with fail
     go_region_law
      ((refine step_append_lies _ (by rfl) _ _ _ (by rfl) R 5 i0 _ 1 1 underlying232 hi0 hz0 hz1 hz2 (by rfl) (by omega) (.slice oq n Fj) n (Bn (KO F t)) (by rfl) ((HO.alloc _).drew) ⟨wr.heap.size,0,none⟩ 4 4 [.int .u8 (IntKind.u8.wrap (x / 16777216)),.int .u8 (IntKind.u8.wrap (x / 65536)),.int .u8 (IntKind.u8.wrap (x / 256)),.int .u8 (IntKind.u8.wrap x)] (by rfl) (by rfl) (World.news_of_block (cs:=#[.int .u8 (IntKind.u8.wrap (x / 16777216)),.int .u8 (IntKind.u8.wrap (x / 65536)),.int .u8 (IntKind.u8.wrap (x / 256)),.int .u8 (IntKind.u8.wrap x)]) (t:=5) (fr:=(0,0)) (Aq wr _)) (by intro u hu;simp at hu;rcases hu with rfl|rfl|rfl|rfl<;>rfl) (by omega) (by unfold maxLen;omega) (by omega) (by rw[show((wr.alloc _).drew).heap.size=wr.heap.size+1 from Ai _ _];omega) (wr.heap.size+1) (by simp) ?_;intro gg bR w3 aw3 asx hat aAR))
     all_goals
      have HW3:=Hi ((((YA.alloc hso (.cells #[.int .u8 (IntKind.u8.wrap (x / 16777216)),.int .u8 (IntKind.u8.wrap (x / 65536)),.int .u8 (IntKind.u8.wrap (x / 256)),.int .u8 (IntKind.u8.wrap x)] 5)).drew)).grown asx (Ah hso (Nat.le_of_lt (by rw[show((wr.alloc (.cells #[.int .u8 (IntKind.u8.wrap (x / 16777216)),.int .u8 (IntKind.u8.wrap (x / 65536)),.int .u8 (IntKind.u8.wrap (x / 256)),.int .u8 (IntKind.u8.wrap x)] 5)).drew).heap.size=wr.heap.size+1 from Ai _ _];omega))) (fun j hj=>eQ HO hj));have K7:=Hi aw3;have Fz:=Hi (show R≤w3.heap.size from by have:=asx.size;rw[show((wr.alloc (.cells #[.int .u8 (IntKind.u8.wrap (x / 16777216)),.int .u8 (IntKind.u8.wrap (x / 65536)),.int .u8 (IntKind.u8.wrap (x / 256)),.int .u8 (IntKind.u8.wrap x)] 5)).drew).heap.size=wr.heap.size+1 from Ai _ _] at this;omega);clear aw3 asx hat ch;go_wp2_with fail;go_roundw
      case rel=>
       refine⟨t+1,n+4,HN.2,by have:=HN.1;omega,by go_num,?_,HW3,Fz⟩;rw[Lv.out,RP,aoJ];simp only[←adH];exact K7.out
      case measure=>have:=HN.2;first|(simp[intOf];done)|(simp[intOf];omega)
    ·obtain rfl:t=8:=(by omega);have aC2:n=32:=(by omega);subst aC2;obtain⟨gq,e1⟩:∃ gq,oq=some ⟨gq,0,none⟩:=by
      rcases hown.2 with⟨e0,e1⟩|⟨g,cap,cur,e0,hb,_⟩
      ·cases e1
      ·injection e0 with e0;exact⟨g,e0⟩
     subst e1;have hol:(KO F 8).length=32:=kN F 8;have hcv:=RH prog wr 232 5 9 underlying232 underlying5 underlying9 gq 0 32 Fj (KO F 8) hol (fun i hi=>by rw[Fs];exact adI hol hown i hi);rw[Yl.out] at hcv;clear hown Qh hol;go_wp2_with fail;go_ret;exact⟨rfl,HRW _ YA⟩
theorem adL(s:List UInt8)(hs:s.length≤10000000)(w:World):
  Calls prog 153 #[.string (bs s)] w fun e w'=>e=.returned (.string (bs (De s)))∧Bw w w':=by
 go_enter func153,ntmps153;go_wp2_with fail;refine(aoD _).mono ?_;rintro e w1⟨g,gh,rfl,hk,hh,hb⟩;have HK:=Hi hk;have HH:=Hi hh;have HB:=Hi hb;clear hk hh hb;go_wp2_with fail;refine(aoK s hs HK HH).mono ?_;rintro e w2⟨rfl,hb2⟩;have HB2:=Hi (HB.trans (hb2.mono HB.size));clear hb2;go_wp2_with fail;go_ret;exact⟨rfl,HB2⟩
end
end Go.Proofs.YtmbbhdebddbhoaaGreat
