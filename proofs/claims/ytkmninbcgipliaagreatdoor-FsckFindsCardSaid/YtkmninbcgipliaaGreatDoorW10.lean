/- RefSum ManD MemE RMem TxtW DepW DepR DepO AllD DepG PrsDel -/
import Derived.Test.YtkmninbcgipliaaGreatDoorW9
import Derived.Lib.SliceRun
set_option maxHeartbeats 4000000
set_option maxRecDepth 100000
set_option linter.all false
namespace Go.Proofs.YtkmninbcgipliaaGreatDoor
open Tryz
namespace BH
open Go.RowKit
theorem ai8(h:List Int)(a b:List UInt8)(m:Nat)(ha:a.length=64*m):∀ k,feed h (a++b) (m+k)=feed (feed h a m) b k:=by
 have h0:∀ j,j≤m→feed h (a++b) j=feed h a j:=by
  intro j
  induction j with
  |zero=>intro _;rfl
  |succ j ih=>
   intro hj
   show Qf (feed h (a++b) j) (((a++b).drop (64*j)).take 64)=Qf (feed h a j) ((a.drop (64*j)).take 64)
   rw[ih (by omega),List.drop_append_of_le_length (by omega),List.take_append_of_le_length (by rw[CF];omega)]
 intro k
 induction k with
 |zero=>exact h0 m (Ag _)
 |succ k ih=>
  show Qf (feed h (a++b) (m+k)) (((a++b).drop (64*(m+k))).take 64)=Qf (feed (feed h a m) b k) ((b.drop (64*k)).take 64)
  rw[ih,show 64*(m+k)=a.length+64*k by rw[ha];omega,List.drop_append]
  congr 2
  rw[List.drop_of_length_le (by omega),EE,show a.length+64*k -a.length=64*k by omega]
def QC(s:List UInt8):List UInt8:=(s++[128])++List.replicate (zf (s.length+1)) 0++Lx (8*s.length) 8
theorem adX(s:List UInt8):QC s=s.take (64*(s.length / 64))++Mv (leftOf s) s.length:=by
 have e:zf ((leftOf s).length+1)=zf (s.length+1):=by
  unfold leftOf zf;rw[CF];omega
 unfold QC Mv;rw[e];unfold leftOf;simp only[←DJ];rw[Lb]
theorem ah1(v j:Nat):(Lx v j).length=j:=by unfold Lx;simp
theorem anA(s:List UInt8):(QC s).length=s.length+1+zf (s.length+1)+8:=by
 unfold QC;simp[ah1];omega
theorem aAj(s:List UInt8):∃ k,(QC s).length=64*k∧feed MX (QC s) k=V5 (V5 MX s) (Mv (leftOf s) s.length):=by
 have hl:=anA s;have hz:=afc (s.length+1);obtain⟨k,hk⟩:∃ k,(QC s).length=64*k:=⟨(QC s).length / 64,by rw[hl];omega⟩;have ht:(s.take (64*(s.length / 64))).length=64*(s.length / 64):=by rw[Bc];omega
 have hp:(Mv (leftOf s) s.length).length=64*(k -s.length / 64):=by
  have:=congrArg List.length (adX s);rw[AA,ht,hk] at this;omega
 have hm:s.length / 64≤k:=by
  have:=congrArg List.length (adX s);rw[AA,ht,hk] at this;omega
 refine⟨k,hk,?_⟩;have h1:=ai8 MX (s.take (64*(s.length / 64))) (Mv (leftOf s) s.length) (s.length / 64) ht (k -s.length / 64);rw[←adX,show s.length / 64+(k -s.length / 64)=k by omega] at h1;rw[h1];unfold V5;rw[hp,Nat.mul_div_cancel_left _ (by decide)]
 congr 1
 have h2:=ai8 MX (s.take (64*(s.length / 64))) (s.drop (64*(s.length / 64))) (s.length / 64) ht 0;rw[Lb] at h2;exact h2.symm
theorem aCQ(s:List UInt8)(k:Nat)(h:feed MX (QC s) k=V5 (V5 MX s) (Mv (leftOf s) s.length)):QB (feed MX (QC s) k) 8=EY s:=by
 rw[h];rfl
theorem auk(h:List Int)(s:List UInt8)(hh:h.length=8):∀ k,(feed h s k).length=8
 |0=>hh
 |_+1=>asE _ _
end BH
section
open Go.RowKit Go.Maps
open BH
theorem aDf(w:World):
  Calls prog 239 #[] w fun e w'=>∃ g gh,e=.returned (.tuple #[.slice (some ⟨g,0,none⟩) 64 64,.slice (some ⟨gh,0,none⟩) 8 8])∧NG w' g Gj∧NG w' gh MX∧Bw w w':=by
 have HC:=Hi amk
 go_in
 go_wp2_with fail;rw[HC.out];go_ret2;refine⟨w.heap.size,w.heap.size+1,rfl,(xX (t:=281) (AU _ _)).below ((Ai _ _).alloc (Ag _) _),xX (t:=281) ?_,((Ai _ _).alloc (Ag _) _).alloc ((Ai _ _).alloc (Ag _) (.cells (Bq Gj) 281)).size _⟩;rw[iT];have h:=AU (w.alloc (.cells (Bq Gj) 281)) (.cells (Bq MX) 281);rw[Az] at h;exact h
def as6(l:List UInt8)(m:Nat)(v:Value):Prop:=∃ j,j≤m∧v=.string (bs (l++List.replicate j 0))
def aez(v:Value):Nat:=match v with| .string s=>s.size|_=>0
theorem aBz(s:List UInt8)(w:World)(hs:s.length≤100000000):
  Calls prog 274 #[s] w (Rt w ↑(QC s)):=by
 have JF:({ data:=#[128] }:ByteArray)=bs [128]:=rfl;have Vt:IntKind.u64.wrap ((s.length:Int)*8)=(s.length:Int)*8:=IntWalk.u64_in _ (by omega);have Rz:IntKind.u64.wrap (s.length:Int)=(s.length:Int):=IntWalk.u64_in _ (by omega)
 go_in
 go_wp2_with fail;obtain⟨l,hl⟩:=ex (s++[128]);have EA:l.length=s.length+1:=by rw[←hl];simp
 obtain⟨m,hm⟩:=ex (zf (s.length+1));have hme:∀ j,j < m→(l.length+j) % 64≠56:=fun j hj=>by rw[EA];exact aqs _ _ (by omega)
 have hmz:(l.length+m) % 64=56:=by rw[EA,←hm];exact afc _
 have aP:m < 64:=by rw[←hm];exact afd _
 have jP:=Hi hme;have HMZ:=Hi hmz;have HP:=Hi (show QC s=(l++List.replicate m 0)++Lx (8*s.length) 8 by unfold QC;rw[hl,hm]);have O7:=Hi EA;rw[hl];clear hme hmz hl hm EA JF Vt Rz
 go_loop [0] (fun v=>as6 l m v) (fun v=>l.length+m -aez v)
 case atStart=>exact⟨0,AV _,by simp⟩
 case round=>
  obtain⟨j,hj,rfl⟩:=hrel;have Ow:(l++List.replicate j (0:UInt8)).length=l.length+j:=by simp
  have GK:l++List.replicate j (0:UInt8)++[0]=l++List.replicate (j+1) 0:=by rw[DJ,←List.replicate_succ']
  have P5:=Hi Ow;have CW:=Hi GK;have Qv:=O7.out;by_cases hlt:j < m
  ·have hne:=jP j hlt;rw[←Ow] at hne;have bn:(l++List.replicate j (0:UInt8)).length≤100000100:=(by rw[Ow];omega);clear Ow GK Qv;generalize l++List.replicate j (0:UInt8)=t at*;have Ak:((t.length:Int) % 64 == 56)=false:=(by rw[Ev];omega);have Ac:((t.length:Int) % 64 != 56)=true:=(by rw[bne_iff_ne];omega);have hz:({ data:=#[0] }:ByteArray)=bs [0]:=rfl;clear hne;go_wp2
   go_round
   case rel=>exact⟨j+1,hlt,by rw[CW.out]⟩
   case measure=>
    have h1:aez ↑t=l.length+j:=P5.out;have h2:aez (.string (bs (t++[0])))=l.length+j+1:=(by show(t++[0]).length=_;rw[AA,P5.out];rfl);rw[h1,h2];omega
  ·obtain rfl:j=m:=(by omega);have hz:=HMZ.out;rw[←Ow] at hz;have bn:(l++List.replicate j (0:UInt8)).length≤100000100:=(by rw[Ow];omega);clear Ow GK Qv;generalize l++List.replicate j (0:UInt8)=t at*;have Ak:((t.length:Int) % 64 == 56)=true:=(by rw[beq_iff_eq];omega);have Ac:((t.length:Int) % 64 != 56)=false:=(by rw[bne_eq_false_iff_eq];omega);clear hz CW P5;go_wp2_with fail;have Lr:=Hi (show((s.length:Int)*8)=((8*s.length:Nat):Int) by omega);rw[Lr.out];obtain⟨v,hv⟩:=ex (8*s.length);have hvb:v≤800000000:=(by omega);rw[hv] at HP ⊢;clear hv Lr
   go_loopw [0,4] (fun a i wr=>∃ k:Nat,k≤8∧i=.int .i64 (7 -(k:Int))∧a=.string (bs (t++Lx v k))∧Bw w wr) (fun _ i _=>(intOf i+1).toNat)
   case atStart=>exact⟨0,by omega,rfl,by rw[show Lx v 0=[] from rfl,Eg],Ai _ _⟩
   case round=>
    obtain⟨k,hk,rfl,rfl,De⟩:=hrel;have HB:=Hi De;by_cases hlt:k < 8
    ·obtain⟨e,he⟩:∃ e:Nat,56 -8*k=e:=⟨_,rfl⟩;obtain⟨q,hq⟩:∃ q:Nat,7 -k=q:=⟨_,rfl⟩;have hqi:7 -(k:Int)=(q:Int):=(by omega);have hei:8*(q:Int)=(e:Int):=(by omega);have bg:=ah2 v k;rw[he] at bg;have ax0:(e:Int)≤56:=(by omega);have aU:(q:Int)≤7:=(by omega);have hwe:IntKind.u64.wrap (e:Int)=(e:Int):=IntWalk.u64_in _ (by omega);have Xc:((UInt8.ofNat (v / 2 ^ e)).toNat:Int)=(v:Int) / 2 ^ e % 256:=by
      rw[Xp,Int.natCast_emod,Int.natCast_ediv,Int.natCast_pow];rfl
     have NJ:=aem prog wr 54 5 9 5 underlying54 underlying5 underlying9 ((v:Int) / 2 ^ e % 256) (UInt8.ofNat (v / 2 ^ e)) Xc;have Ct:(t++Lx v k).length≤100000200:=(by rw[AA,ah1];omega);have OZ:=Hi (show t++Lx v k++[UInt8.ofNat (v / 2 ^ e)]=t++Lx v (k+1) by rw[bg,DJ]);have HQ:=Hi (CB hq hlt);rw[hqi];clear bg he hqi hq hlt hk Xc De;generalize t++Lx v k=u at*;generalize UInt8.ofNat (v / 2 ^ e)=x at*;go_wp2;go_roundw
     case rel=>
      refine⟨k+1,HQ.2,?_,by rw[OZ.out],HB.alloc HB.size _⟩;have:=HQ.out
      show Value.int .i64 ((q:Int) -1)=_
      congr 1
      omega
     case measure=>have:=HQ.out;first|(simp[intOf];done)|(simp[intOf];omega)
    ·obtain rfl:k=8:=(by omega);clear hlt hk De;go_wp2;go_ret;exact⟨by rw[HP.out];rfl,HB⟩
end
section
open Go.RowKit Go.Maps
open BH
theorem aDk:(prog.info? 5).map (fun i=>(i.zero,i.size,i.bytes))=some (some (.int .u8 0),1,1):=by kernel_rfl
theorem aqp(x:Int):IntKind.u8.wrap x=x % 256:=by simp[IntKind.wrap,IntKind.bits,IntKind.signed]
theorem aDZ(x:Int):Cq (w4 x)=[.int .u8 (x / 16777216 % 256),.int .u8 (x / 65536 % 256),.int .u8 (x / 256 % 256),.int .u8 (x % 256)]:=by
 have hb:∀ y:Int,((UInt8.ofNat (y % 256).toNat).toNat:Int)=y % 256:=fun y=>by rw[Xp];omega
 unfold w4;simp only[iW,Zf,hb]
theorem aat{w:World}{base g n cap:Nat}{l:List UInt8}(_:l.length=n)(h:w.ownsRow base 5 1 (.slice g n cap) n (Cq l))(i:Nat)(hi:i < l.length):w.cell? ⟨g,i,none⟩=some (.int .u8 (l[i].toNat:Int)):=by
 have hc:=h.cells (g:=g) rfl;have:=hc i (.int .u8 (l[i].toNat:Int)) (oJ l i hi);rwa[add_plain] at this
theorem aBH{w:World}{gh gk:Nat}(s:List UInt8)(hs:s.length≤10000000)(K:NG w gk Gj)(H:NG w gh MX):
  Calls prog 240 #[s,.slice gk 64 64,.slice gh 8 8] w (Rt w ↑(EY s)):=by
 obtain⟨k,hk,hf⟩:=aAj s;have jU:=Hi (aCQ s k hf);have SL:k≤1000000:=by
  have h1:=anA s;have h2:=afd (s.length+1);omega
 have ag7:=Hi (aBz s w (by omega));obtain⟨P,hP⟩:=ex (QC s);rw[hP] at hk jU ag7;have HK:=Hi K;have HH:=Hi H;have QP:=Hi (auk MX P rfl);obtain⟨i0,Bh,AY,AZ,Bb⟩:=Dy aDk;clear hf hP K H
 go_in
 go_wp2_with fail;refine ag7.mono ?_;rintro e w1⟨rfl,Ak⟩;have HB1:=Hi Ak;have Zx:=Hi (HK.below Ak);have XF:=Hi (HH.below Ak);clear Ak HK HH;go_wp2
 go_loopw [2,7] (fun hv i wr=>∃ (j g c:Nat),j≤k∧i=.int .i64 (64*(j:Int))∧hv=.slice g 8 c∧NG wr g (feed MX P j)∧Bw w1 wr) (fun _ i _=>64*k -(intOf i).toNat)
 case atStart=>exact⟨0,gh,8,by omega,rfl,rfl,XF,Ai _ _⟩
 case round=>
  obtain⟨j,g,c,hj,rfl,rfl,hw,hb⟩:=hrel;have HW:=Hi hw;have HB:=Hi hb;clear hw hb;by_cases hlt:j < k
  ·have hcut:∀ W,(Instr.slice 9 ↑P (some (.int .i64 (64*(j:Int)))) (some (.int .i64 (64*(j:Int)+64))) none).run prog W=.ok (.string (bs ((P.drop (64*j)).take 64))) W:=fun W=>by
    have:=Z7 prog W 9 underlying9 P (64*j) (64*j+64) (by omega) (by omega);rw[show((64*j:Nat):Int)=64*(j:Int) by omega,show((64*j+64:Nat):Int)=64*(j:Int)+64 by omega] at this;rw[this,List.drop_take,show 64*j+64 -64*j=64 by omega]
   have Ct:((P.drop (64*j)).take 64).length=64:=(by rw[Bc,CF];omega);have Sc:=Hi (aAV (w:=wr) (gh:=g) (gk:=gk) (ch':=c) (ck':=64) ((P.drop (64*j)).take 64) Ct (QP j) HW (Zx.below HB));have Zp:=Hi (show feed MX P (j+1)=Qf (feed MX P j) ((P.drop (64*j)).take 64) from rfl);have hlP:64*(j:Int) < (P.length:Int):=(by omega);clear Ct;generalize (P.drop (64*j)).take 64=X at*;go_wp2_with fail;refine Sc.mono ?_;rintro e w2⟨g2,c2,rfl,_,Mq,Ac⟩;have Sw:=Hi Mq;have Aj:=bH HB Ac;clear Mq Ac;go_wp2;go_roundw
   case rel=>exact⟨j+1,g2,c2,by omega,by first|(congr 1;done)|(congr 1;omega),rfl,by rw[Zp.out];exact Sw.out,Aj⟩
   case measure=>first|(simp[intOf];done)|(simp[intOf];omega)
  ·obtain rfl:j=k:=(by omega);have hlP:¬ 64*(j:Int) < (P.length:Int):=(by omega);obtain⟨F,hF⟩:=ex (feed MX P j);have Yb:F.length=8:=(by rw[←hF];exact QP j);rw[hF] at HW jU;clear hF;have HA:=bH HB1 HB;go_wp2_with fail;have HFl:=Hi Yb;clear Yb hlP hlt hk;obtain⟨R,hR⟩:=ex (wr.heap.size);have HWW:=Hi (fun(W:World) (hW:Below R wr W)=>(show NG W g F from by rw[←hR] at hW;exact HW.below hW));have Wh:=Hi (fun(W:World) (hW:Below R wr W)=>(show Bw w W from by rw[←hR] at hW;exact HA.trans (hW.mono HA.size)))
   go_loopw [8,9] (fun o i wo=>∃ (t n:Nat),t≤8∧n=4*t∧i= ↑(t:Int)∧wo.ownsRow R 5 1 o n (Cq (QB F t))∧Below R wr wo∧R≤wo.heap.size) (fun _ i _=>8 -(intOf i).toNat)
   case atStart=>exact⟨0,0,by omega,rfl,rfl,by rw[show QB F 0=[] from rfl,Zf];exact DZ _ _ _ _,Ai _ _,by omega⟩
   case round=>
    obtain⟨t,n,ht,hn,rfl,hown,Rf,hso⟩:=hrel;obtain⟨oq,Hw,rfl⟩:=Bp hown;have HO:=Hi hown;have jm:=Hi Rf;by_cases hlt:t < 8
    ·have ch:=(HWW _ Rf) t (by rw[HFl.out];exact hlt);have ih:=fun W=>MG (g:=g) (cap:=c) 8 t hlt W
     have QV:=Hi (anx F t);obtain⟨x,hx⟩:=ex (F.getD t 0);rw[hx] at ch QV;have hti:(t:Int) < 8:=(by omega);have HN:=Hi (CB hn hlt);have Ke:n≤32:=(by omega);clear hown Rf hx hn hlt ht;go_wp2_with fail
     go_region_law
      ((refine step_append_lies _ (by rfl) _ _ _ (by rfl) R 5 i0 _ 1 1 underlying54 Bh AY AZ Bb (by rfl) (by omega) (.slice oq n Hw) n (Cq (QB F t)) (by rfl) ((HO.alloc _).drew) ⟨wr.heap.size,0,none⟩ 4 4 [.int .u8 (IntKind.u8.wrap (x / 16777216)),.int .u8 (IntKind.u8.wrap (x / 65536)),.int .u8 (IntKind.u8.wrap (x / 256)),.int .u8 (IntKind.u8.wrap x)] (by rfl) (by rfl) (World.news_of_block (cs:=#[.int .u8 (IntKind.u8.wrap (x / 16777216)),.int .u8 (IntKind.u8.wrap (x / 65536)),.int .u8 (IntKind.u8.wrap (x / 256)),.int .u8 (IntKind.u8.wrap x)]) (t:=5) (fr:=(0,0)) (AU wr _)) (by intro u hu;simp at hu;rcases hu with rfl|rfl|rfl|rfl<;>rfl) (by omega) (by unfold maxLen;omega) (by omega) (by rw[show((wr.alloc _).drew).heap.size=wr.heap.size+1 from Az _ _];omega) (wr.heap.size+1) (by simp) ?_;intro gg rC w3 T9 AJ hat al0))
     all_goals
      have Wl:=Hi ((((jm.alloc hso (.cells #[.int .u8 (IntKind.u8.wrap (x / 16777216)),.int .u8 (IntKind.u8.wrap (x / 65536)),.int .u8 (IntKind.u8.wrap (x / 256)),.int .u8 (IntKind.u8.wrap x)] 5)).drew)).grown AJ (Ay hso (Nat.le_of_lt (by rw[show((wr.alloc (.cells #[.int .u8 (IntKind.u8.wrap (x / 16777216)),.int .u8 (IntKind.u8.wrap (x / 65536)),.int .u8 (IntKind.u8.wrap (x / 256)),.int .u8 (IntKind.u8.wrap x)] 5)).drew).heap.size=wr.heap.size+1 from Az _ _];omega))) (fun j hj=>oh HO hj));have OX:=Hi T9;have K7:=Hi (show R≤w3.heap.size from by have:=AJ.size;rw[show((wr.alloc (.cells #[.int .u8 (IntKind.u8.wrap (x / 16777216)),.int .u8 (IntKind.u8.wrap (x / 65536)),.int .u8 (IntKind.u8.wrap (x / 256)),.int .u8 (IntKind.u8.wrap x)] 5)).drew).heap.size=wr.heap.size+1 from Az _ _] at this;omega);clear T9 AJ hat ch;go_wp2;go_roundw
      case rel=>
       refine⟨t+1,n+4,HN.2,by have:=HN.1;omega,by go_num,?_,Wl,K7⟩;rw[QV.out,Ze,aDZ];simp only[←aqp];exact OX.out
      case measure=>have:=HN.2;first|(simp[intOf];done)|(simp[intOf];omega)
    ·obtain rfl:t=8:=(by omega);have axJ:n=32:=(by omega);subst axJ;obtain⟨gq,e1⟩:∃ gq,oq=some ⟨gq,0,none⟩:=by
      rcases hown.2 with⟨e0,e1⟩|⟨g,cap,cur,e0,hb,_⟩
      ·cases e1
      ·injection e0 with e0;exact⟨g,e0⟩
     subst e1;have Rq:(QB F 8).length=32:=adW F 8;have NJ:=Xn prog wr 54 5 9 underlying54 underlying5 underlying9 gq 0 32 Hw (QB F 8) Rq (fun i hi=>by rw[GQ];exact aat Rq hown i hi);rw[jU.out] at NJ;clear hown Rf Rq;go_wp2;go_ret;exact⟨rfl,Wh _ jm⟩
theorem aoJ(s:List UInt8)(hs:s.length≤10000000)(w:World):
  Calls prog 183 #[s] w (Rt w ↑(EY s)):=by
 go_in
 go_wp2_with fail;refine(aDf _).mono ?_;rintro e w1⟨g,gh,rfl,hk,hh,hb⟩;have HK:=Hi hk;have HH:=Hi hh;have HB:=Hi hb;clear hk hh hb;go_wp2_with fail;refine(aBH s hs HK HH).mono ?_;rintro e w2⟨rfl,Ac⟩;have Aj:=bH HB Ac;clear Ac;go_wp2;go_ret;exact⟨rfl,Aj⟩
end
namespace Aq
open Go.RowKit Go.Maps Aw Ah
attribute [local go_sem] OJ
def asn(ats:Array TypeId)(ty:TypeId)(args:Array Value):Sem Value:=Builtin.append_ ats ty args
theorem ass(ats:Array TypeId)(ty:TypeId)(args:Array Value):Builtin.append_ ats ty args=asn ats ty args:=rfl
attribute [local go_sem ↓] ass
def Z4(Q:Exit→Act→World→Prop):Exit→Act→World→Prop
 | .panic _,_,_=>False
 |e,a,w=>Q e a w
theorem cz{P:Program}{c:Code}{Q:Exit→Act→World→Prop}{a:Act}{w:World}(h:c.wp P (Z4 Q) a w):c.wp P Q a w:=
 Code.wp_mono (fun e a w h=>by cases e<;>first|exact h|exact h.elim) h
section
variable {w:World}{b y n N:Nat}{bl:Nat→Prop}{A:M}
end
end Aq
namespace Aq
open Aw Ah
end Aq
namespace Aq
open Aw Ah
end Aq
namespace Aq
open Aw Ah
end Aq
namespace Aq
open Aw Ah
end Aq
namespace Mem
open Go.RowKit Go.Maps
open Aw Ah Aq Bu Kp Bz Hex BH Al
def Wq(w:World)(base b:Nat)(l:M):Prop:=∃ v,w.heap[b]?=some (.cells #[v] 179)∧BK w base v l∧base≤b
theorem Wq.upd{F:Nat→Prop}{w w':World}{base b:Nat}{l:M}(h:Wq w base b l)(hu:A7 F w w')(h1:∀ k,F k→¬ Bf w k 179)(h2:∀ k,F k→¬ Bf w k 51):Wq w' base b l:=by
 obtain⟨v,e,hr,hb⟩:=h;exact⟨v,(hu.block b (Ao e) (fun f=>h1 b f ⟨_,_,e⟩)).trans e,BD hr hu (fun k hk f=>h2 k f (Cx hr hk)),hb⟩
theorem Wq.below{w w':World}{base b:Nat}{l:M}(h:Wq w base b l)(hb:Bw w w'):Wq w' base b l:=by
 obtain⟨v,e,hr,hl⟩:=h;exact⟨v,(hb.block b (Ao e)).trans e,Cc hr hb,hl⟩
structure Fg(w:World)(base m:Nat)(L:List (T×M))(f:T→Nat):Prop where
 map:∃ kv:List (T×Value),kv.Perm (L.map fun x=>(x.1,Value.pointer (some ⟨f x.1,0,none⟩)))∧Gd prog 9 w m kv
 nodup:(L.map (·.1)).Nodup
 Y1:∀ x∈L,Wq w base (f x.1) x.2
 inj:∀ x∈L,∀ y∈L,f x.1=f y.1→x.1=y.1
 low:base≤m
theorem au7:(prog.info? 176).map (fun i=>(i.zero,i.size))=some (some (.pointer none),1):=by kernel_rfl
theorem aaT(w:World):(zeroValue 176).run prog w=.ok (.pointer none) w:=(zero_of_info au7).1 w
section
variable {w w':World}{base m:Nat}{L:List (T×M)}{f:T→Nat}
theorem Fg.below(h:Fg w base m L f)(hb:Bw w w'):Fg w' base m L f:=by
 obtain⟨⟨kv,h1,h2⟩,h3,h4,h5,h6⟩:=h;exact⟨⟨kv,h1,h2.kept (hb.block m h2.lt)⟩,h3,fun x hx=>(h4 x hx).below hb,h5,h6⟩
theorem Fg.Xf(h:Fg w base m L f):((L.map fun x=>(x.1,Value.pointer (some ⟨f x.1,0,none⟩))).map (·.1)).Nodup:=by
 rw[Kv];exact h.nodup
theorem Fg.keys{kv:List (T×Value)}(h:kv.Perm (L.map fun x=>(x.1,Value.pointer (some ⟨f x.1,0,none⟩)))):(kv.map (·.1)).Perm (L.map (·.1)):=by
 have:=h.map (·.1);rwa[Kv] at this
theorem Fg.abe(h:Fg w base m L f){x:T×M}(hx:x∈L)(hn:x.1.length≤maxLen):
  (Instr.lookup 175 (.map (some m)) ↑x.1 false).run prog w=.ok (.pointer (some ⟨f x.1,0,none⟩)) w:=by
 obtain⟨kv,h1,h2⟩:=h.map;rw[h2.lookup underlying9 underlying175 (aaT w) x.1 hn,bV (h1.map (·.1) |>.nodup_iff.2 h.Xf) h1,(Za h.Xf).2 (Bv.2 ⟨x,hx,rfl⟩)];rfl
end
def dS(w:World)(L:List (T×M))(e:Ending)(w':World):Prop:=
 if Qh L=true then ∃ q c,e=.returned (.tuple #[.slice q (LC L).length c,.int .i64 0])∧w'.ownsRow w.heap.size 57 3 (.slice q (LC L).length c) (LC L).length (M9 (LC L))∧Bw w w'
 else e=.returned (.tuple #[(),.int .i64 5])∧Bw w w'
def aa0(w:World)(nv:Value)(N:List T)(ch:T→Am)(fit:T→Bool)(s i:Value)(wr:World):Prop:=
 ∃ (k:Nat) (q:Option Addr) (c:Nat),k≤N.length∧i= ↑(k:Int)∧s=.slice q ((N.take k).map ch).length c∧wr.ownsRow w.heap.size 57 3 (.slice q ((N.take k).map ch).length c) ((N.take k).map ch).length (M9 ((N.take k).map ch))∧Bw w wr∧(N.take k).all fit=true∧Aq.Bt wr (w.heap.size+1) nv N
theorem oI:∀ {L:List T} {a:T},BL L=some a→a.length+2=rowLen L
 |[],a,h=>by simp only[BL,Cu] at h;subst h;rfl
 |x :: L,a,h=>by
  simp only[BL] at h;cases h1:Er x with
  |none=>rw[h1] at h;cases h
  |some u=>
   cases h2:BL L with
   |none=>rw[h1,h2] at h;cases h
   |some c=>
    rw[h1,h2] at h;simp only[CU,EZ,Cu] at h;subst h;have ih:=oI h2;unfold Er at h1;split at h1
    ·injection h1 with h1
     subst h1;unfold rowLen at ih ⊢;simp only[AA,Ab.Cb,Ce,DY];omega
    ·cases h1
theorem wP(l:M)(h:(Ej l).2=0)(hs:rowLen (flat l)≤1000000000):(Ej l).1.length≤1000000000:=by
 unfold Ej at*;cases hp:FW l with
 |none=>simp
 |some s=>
  unfold FW at hp;split at hp
  ·cases ht:BL (flat l) with
   |none=>rw[ht] at hp;cases hp
   |some a=>
    rw[ht] at hp;simp only[EZ,Cu] at hp;have:=oI ht;subst hp;simp only[AA,Ab.Cb];omega
  ·cases hp
theorem Y0{l:M}:(C9 l).isSome=true↔(Ej l).2=0∧(Ej l).1.length+4≤65535:=by
 unfold C9 Ej;cases FW l with
 |none=>simp
 |some s=>
  by_cases h:s.length+4≤65535
  ·simp only[CU];rw[Ae h];exact⟨fun _=>⟨trivial,h⟩,fun _=>rfl⟩
  ·simp only[CU];rw[A9 h];exact⟨fun e=>by simp at e,fun e=>absurd e.2 h⟩
theorem rQ{l:M}(h:(C9 l).isSome=true):(C9 l).getD []=Ab.FN (Ej l).1:=by
 unfold C9 Ej at*;cases hp:FW l with
 |none=>rw[hp] at h;simp at h
 |some s=>
  rw[hp] at h;simp only[CU] at h ⊢;by_cases hs:s.length+4≤65535
  ·rw[Ae hs];rfl
  ·rw[A9 hs] at h;simp at h
theorem azU{W W2:World}{base b2:Nat}{nv ov:Value}{N:List T}{n:Nat}{cs:List Value}(h:Aq.Bt W base nv N)(ho:W.ownsRow b2 57 3 ov n cs)(hg:W.grownBy W2 ov.ownBlock):Aq.Bt W2 base nv N:=
 BD h (A7.of_grownBy (F:=fun k=>ov.ownBlock=some k) hg (fun k e=>e)) (fun g Rj f=>by
  obtain⟨c1,f1,e1⟩:=Cx h Rj;obtain⟨c2,f2,e2⟩:=Cx ho f;rw[e1] at e2;injection e2 with e2
  injection e2 with _ e2
  exact absurd e2 (by decide))
theorem vO{w wr W2 w1:World}{nv:Value}{N:List T}{ch:T→Am}{fit:T→Bool}{k:Nat}{cl:List Am}{ov:Value}{q':Option Addr}{cap':Nat}(c:Am)(hk:k < N.length)(hb:Bw w wr)(Af:wr.ownsRow w.heap.size 57 3 ov cl.length (M9 cl))(hW:Bw wr W2)(hg:W2.grownBy w1 ov.ownBlock)
  (ho:w1.ownsRow w.heap.size 57 3 (.slice q' (cl.length+1) cap') (cl.length+1) (M9 cl++[.string (bs c.name),.string (bs c.data),.bool c.gone]))(Vm:(N.take (k+1)).map ch=cl++[c])(hall:(N.take (k+1)).all fit=true)(hn:Aq.Bt wr (w.heap.size+1) nv N):
  aa0 w nv N ch fit (.slice q' (cl.length+1) cap') (.int .i64 ((k:Int)+1)) w1:=by
 have e:cl.length+1=((N.take (k+1)).map ch).length:=by rw[Vm,AA];rfl
 refine⟨k+1,q',cap',by omega,by go_num,by rw[e],?_,?_,hall,?_⟩
 ·rw[←e,Vm,rH];exact ho
 ·exact(bT hb hW).grown hg (Ay hb.size hW.size) (fun j hj=>DT Af hj)
 ·exact azU (Cc hn hW) (Cc Af hW) hg
theorem amZ{w:World}{base m:Nat}{L:List (T×M)}{f:T→Nat}(h:Fg w base m L f)(hs:∀ x∈L,D8 x.2∧x.2.length≤1000000∧rowLen (flat x.2)≤1000000000)(hn:∀ x∈L,x.1.length≤1000)(hl:L.length≤100000):
  Calls prog 98 #[.map (some m)] w fun e w'=>dS w L e w':=by
 obtain⟨i0,Bh,AY,AZ,Bb⟩:=Dy rJ;have HK:=Hi (show Calls prog 180 #[.map (some m)] w fun e w'=>e=.returned (.func (.func 236) #[] #[.pointer w.heap.size])∧w'=w.alloc (.cells #[.map (some m)] 175) from azw (some m) w);obtain⟨kv,KR,YD⟩:=h.map;have E9:kv.length=L.length:=by rw[KR.length_eq,Ca]
 have ZJ:=Hi (azC YD (by omega));have aJ:(kv.map (·.1)).mergeSort (fun x y=>decide (x≤y))=Di L:=mergeSort_of_perm (Fg.keys KR);rw[E9,aJ] at ZJ;have HH:=Hi h;have HS:=Hi hs;have HN:=Hi hn;have Ei:(Di L).length=L.length:=vX L
 have z8:=Hi (fun t (ht:t∈Di L)=>show ∃ x∈L,x.1=t∧rowOf L t=x.2 from by
  obtain⟨x,hx,rfl⟩:=Bv.1 (nR.1 ht);exact⟨x,hx,rfl,o9 h.nodup hx⟩)
 clear h hs hn KR YD E9 aJ
 go_in
 go_wp2_with fail;refine HK.mono ?_;rintro e w1⟨rfl,Jr⟩;subst Jr;go_wp2_with fail;refine ZJ.mono ?_;rintro e w2⟨v,rfl,Af,Ac⟩;have NQ:Aq.Bt w2 (w.heap.size+1) v (Di L):=by
  unfold Aq.Bt;rw[ME,Ei];exact Af
 obtain⟨q,c,rfl⟩:=Bp NQ;have BV:=Hi NQ;have Aj:=Hi Ac;clear Af NQ Ac HK ZJ;have hnI:((Di L).length:Int)=(L.length:Int):=by rw[Ei]
 go_wp2
 go_loopw [2,13] (fun s i wr=>aa0 w (.slice q (Di L).length c) (Di L) (fun t=>MU t (rowOf L t)) (fun t=>NH (rowOf L t)) s i wr) (fun _ i _=>(Di L).length -(intOf i).toNat)
 case atStart=>exact⟨0,none,0,AV _,rfl,rfl,by rw[Gm,Kw,rG];exact DZ _ _ _ _,Aj,rfl,BV⟩
 case round=>
  obtain⟨k,cq,cc,hk,rfl,rfl,Af,hb,hall,Gu⟩:=hrel;have OW:=Hi Gu;have BF:=Hi Af;have HB:=Hi hb;have Ga:=Hi hall;clear Af hall Gu Aj BV;by_cases hlt:k < (Di L).length
  ·obtain⟨x,hx,bA,FV⟩:=z8 _ (CK hlt);obtain⟨a,Cn,c0⟩:=(Hd (c:=c) (OW.out)).index c k hlt;simp only[Ei] at Cn;have U8:k < L.length:=by omega
   have Nv:=Hi (show(NH x.2=true→((Di L).take (k+1)).all (fun t=>NH (rowOf L t))=true)∧((Di L).take (k+1)).map (fun t=>MU t (rowOf L t))=((Di L).take k).map (fun t=>MU t (rowOf L t))++[MU x.1 x.2] from by
    rw[Cr hlt,CQ,List.all_append,Ga.out];constructor
    ·intro e;simp[FV,e]
    ·simp[FV,bA])
   have Lf:=Hi (show NH x.2=false→¬ Qh L=true from fun e h=>by
    have:=Nl.1 h _ (CK hlt);rw[FV,e] at this;cases this)
   obtain⟨cl,BQ⟩:∃ cl,((Di L).take k).map (fun t=>MU t (rowOf L t))=cl:=⟨_,rfl⟩;have lS:cl.length=k:=(by rw[←BQ,Ca,Bc];omega);have ES:=Hi lS;rw[BQ] at BF Nv ⊢;have Oq:=((HH.below HB).abe hx (by have:=HN x hx;unfold maxLen;omega));obtain⟨v,JG,Af,Ig⟩:=(HH.below HB).Y1 x hx;obtain⟨q2,c2,rfl,Dw,GY⟩:=FQ Af;have c1:wr.cell? ⟨f x.1,0,none⟩=some (.slice q2 x.2.length c2):=cr JG;obtain⟨Rw,CS,WY⟩:=HS x hx;rw[←bA] at c0;clear BQ hb FV Ig bA;have awL:cl.length≤100000:=(by omega);clear lS;have Q0:=Hi (Bg.CR Af);obtain⟨t,l⟩:=x;simp only at*;generalize f t=ft at*;by_cases hz:l=[]
   ·have YU:((l.length:Int) == 0)=true:=(by rw[hz];rfl);have ML:=Hi (show MU t l=⟨t,[],true⟩ from Ae hz);have UF:=Hi (Nv.1 (by rw[hz];rfl));go_wp2_with (at_builtin;refine wpList_append_own_at _ rfl _ _ 32 rfl w.heap.size 57 i0 _ 3 40 underlying32 Bh AY AZ Bb rfl (by decide) _ cl.length _ rfl (BF.alloc _) ⟨wr.heap.size,0,none⟩ 1 1 [.string (bs t),.string { data:=#[] },.bool true] rfl rfl (by intro j u hj;rw[add_plain,E5];exact(Dx▸hj)) (by simp[Value.oneCell']) (by unfold maxLen;omega) (by omega) (by have:=HB.size;simp;omega) ?_;intro v' w1 Cf AJ _ hat;obtain⟨g',cap',rfl⟩:=ownsRow_succ Cf;have HO:=Hi Cf;have HG:=Hi AJ;clear Cf AJ hat);have CJ:=Hi (vO ⟨t,[],true⟩ hlt HB BF (AQ wr _) HG HO (by rw[←ML.out];exact Nv.2) UF OW);go_roundw
    case rel=>exact CJ.out
    case measure=>
     show(Di L).length -((k:Int)+1).toNat < (Di L).length -((k:Int)).toNat
     omega
   ·have YU:((l.length:Int) == 0)=false:=Ev.2 (fun e=>hz (Ku.1 (by omega)));have Gp:=Hi (anN (cap:=c2) Q0 Rw CS WY);have jA:=Hi (show NH l=(C9 l).isSome from by unfold NH;simp[hz]);have ML:=Hi (show MU t l=⟨t,(C9 l).getD [],false⟩ from A9 hz);by_cases Ck:(C9 l).isSome=true
    ·have UF:=Hi (Nv.1 (by rw[jA.out];exact Ck));obtain⟨he,hlen⟩:=Y0.1 Ck;have O4:=Hi (rQ Ck);rw[he] at Gp;generalize (Ej l).1=s at*;have U5:decide (65535 < (s.length:Int)+4)=false:=decide_eq_false (by omega);have IK:IntKind.i64.wrap ((s.length:Int)+4)=(s.length:Int)+4:=EN _ (by omega);have ZI:=Hi (fun W=>iN s W (by omega));clear he Ck hlen;go_wp2_with fail;refine Gp.mono ?_;rintro e w3⟨rfl,Av⟩;have Au:=Hi Av;clear Av;go_wp2_with fail;refine(ZI _).mono ?_;rintro e w4⟨rfl,AB⟩;have AX:=bH Au AB;have XO:=Hi (Cc BF AX);have acY:=AX.size;have vB:=HB.size;clear AB;go_wp2_with (at_builtin;refine wpList_append_own_at _ rfl _ _ 32 rfl w.heap.size 57 i0 _ 3 40 underlying32 Bh AY AZ Bb rfl (by decide) _ cl.length _ rfl (XO.alloc _) ⟨w4.heap.size,0,none⟩ 1 1 [.string (bs t),.string (bs (Ab.FN s)),.bool false] rfl rfl (by intro j u hj;rw[add_plain,E5];exact(Dx▸hj)) (by simp[Value.oneCell']) (by unfold maxLen;omega) (by omega) (by simp;omega) ?_;intro v' w1 Cf AJ _ hat;obtain⟨g',cap',rfl⟩:=ownsRow_succ Cf;have HO:=Hi Cf;have HG:=Hi AJ;clear Cf AJ hat);have CJ:=Hi (vO ⟨t,Ab.FN s,false⟩ hlt HB BF (AX.trans ((AQ w4 _).mono AX.size)) HG HO (by rw[←O4.out,←ML.out];exact Nv.2) UF OW);go_roundw
     case rel=>exact CJ.out
     case measure=>
      show(Di L).length -((k:Int)+1).toNat < (Di L).length -((k:Int)).toNat
      omega
    ·have DU:=Hi (Lf (by rw[jA.out];simpa using Ck));by_cases he:(Ej l).2=0
     ·have hlen:¬ (Ej l).1.length+4≤65535:=fun h=>Ck (Y0.2 ⟨he,h⟩)
      rw[he] at Gp;have Ta:=wP l he WY;generalize (Ej l).1=s at*;have U5:65535 < (s.length:Int)+4:=(by omega);have IK:IntKind.i64.wrap ((s.length:Int)+4)=(s.length:Int)+4:=EN _ (by omega);clear he Ck;go_wp2_with fail;refine Gp.mono ?_;rintro e w3⟨rfl,Av⟩;have Au:=bH HB Av;clear Av;go_wp2;go_ret2;unfold dS;rw[A9 DU.out];exact⟨rfl,Au⟩
     ·have Be:((Ej l).2 == 0)=false:=Ev.2 he;generalize Ej l=V at*;clear Ck;go_wp2_with fail;refine Gp.mono ?_;rintro e w3⟨rfl,Av⟩;have Au:=bH HB Av;clear Av;go_wp2;go_ret2;unfold dS;rw[A9 DU.out];exact⟨rfl,Au⟩
  ·obtain rfl:k=(Di L).length:=(by omega);have JH:Qh L=true:=by
    have:=Ga.out;rw[Gx (Ag _)] at this;exact this
   have hE:=BF.out;rw[Gx (Ag _)] at hE;have HE:=Hi (show wr.ownsRow w.heap.size 57 3 (.slice cq (LC L).length cc) (LC L).length (M9 (LC L)) from hE);have BQ:(((Di L).take (Di L).length).map fun t=>MU t (rowOf L t)).length=(LC L).length:=(by rw[Gx (Ag _)];rfl);rw[BQ];clear hE hb BQ;go_wp2;go_ret2;unfold dS;rw[Ae JH];exact⟨cq,cc,rfl,HE,HB⟩
end Mem
namespace Hex
open Go.RowKit Go.Maps
open Ah Aq BH
theorem ow(s:ByteArray)(K:IntKind)(k:Nat)(h:k < s.size)(W:World):(Instr.index 9 (.string s) (.int K (k:Int))).run prog W=.ok (.int .u8 ((s[k]'h).toNat:Int)) W:=by
 have h0:(0:Int)≤(k:Int):=Int.natCast_nonneg k;have e:s[k]?=some (s[k]'h):=by rw[getElem?_pos s k h]
 simp only[Instr.index,He underlying9,go_sem];simp[h0,e,go_sem]
theorem ahM(k:Nat)(h:k < 16)(W:World):(Instr.index 9 (.string { data:=#[48,49,50,51,52,53,54,55,56,57,97,98,99,100,101,102] }) (.int .u8 (k:Int))).run prog W=.ok (.int .u8 ((Gg k).toNat:Int)) W:=by
 have h1:=ow ({ data:=#[48,49,50,51,52,53,54,55,56,57,97,98,99,100,101,102] }:ByteArray) .u8 k h W;rw[aaK k h] at h1;exact h1
theorem aed(s:T)(w:World)(hs:s.length≤1000000)(h0:0 < s.length):Calls prog 88 #[s] w (Rt w ↑(Eu s)):=by
 obtain⟨i0,Bh,AY,AZ,Bb⟩:=Dy ZV
 go_in
 go_wp2
 go_loopw [3,4] (fun o i wr=>∃ (t n:Nat),t≤s.length∧n=2*t∧i= ↑(t:Int)∧wr.ownsRow w.heap.size 5 1 o n (Cq (Eu (s.take t)))∧Bw w wr) (fun _ i _=>s.length -(intOf i).toNat)
 case atStart=>exact⟨0,0,AV _,rfl,rfl,by rw[Gm,show Eu []=[] from rfl,Zf];exact DZ _ _ _ _,Ai _ _⟩
 case round=>
  obtain⟨t,n,ht,hn,rfl,hown,hb⟩:=hrel;obtain⟨oq,Hw,rfl⟩:=Bp hown;have HO:=Hi hown;have HB:=Hi hb;by_cases hlt:t < s.length
  ·have HT:=Hi (show Eu (s.take (t+1))=Eu (s.take t)++[Gg (s[t].toNat / 16),Gg (s[t].toNat % 16)] from by rw[Cr hlt,akk];simp[Eu]);have Qv:=s[t].toNat_lt;have WE:s[t].toNat / 16 < 16:=(by omega);have abo:s[t].toNat % 16 < 16:=(by omega);have Ke:n≤2000000:=(by omega);have II:∀ W,(Instr.index 9 ↑s ↑(t:Int)).run prog W=.ok (.int .u8 (s[t].toNat:Int)) W:=fun W=>ow (bs s) .i64 t (by simpa using hlt) W
   generalize s[t]=x at*;have EC:IntKind.u8.wrap ((x.toNat:Int) / 16)=(x.toNat:Int) / 16:=(by rw[aqp];omega);have hm1:((x.toNat:Int)).tmod 16=(x.toNat:Int) % 16:=Int.tmod_eq_emod_of_nonneg (by omega);have Eo:∀ W,(Instr.index 9 (.string { data:=#[48,49,50,51,52,53,54,55,56,57,97,98,99,100,101,102] }) (.int .u8 ((x.toNat:Int) / 16))).run prog W=.ok (.int .u8 ((Gg (x.toNat / 16)).toNat:Int)) W:=fun W=>ahM _ WE W
   have Ee:∀ W,(Instr.index 9 (.string { data:=#[48,49,50,51,52,53,54,55,56,57,97,98,99,100,101,102] }) (.int .u8 ((x.toNat:Int) % 16))).run prog W=.ok (.int .u8 ((Gg (x.toNat % 16)).toNat:Int)) W:=fun W=>ahM _ abo W
   have HN:=Hi (CB hn hlt);clear hown hb hn;go_wp2_with fail;clear hlt;refine cz ?_
   go_region_law
    ((refine step_append_lies _ (by rfl) _ _ _ (by rfl) w.heap.size 5 i0 _ 1 1 underlying54 Bh AY AZ Bb (by rfl) (by omega) (.slice oq n Hw) n (Cq (Eu (s.take t))) (by rfl) ((HO.alloc _).drew) ⟨wr.heap.size,0,none⟩ 2 2 [.int .u8 ((Gg (x.toNat / 16)).toNat:Int),.int .u8 ((Gg (x.toNat % 16)).toNat:Int)] (by rfl) (by rfl) (World.news_of_block (cs:=#[.int .u8 ((Gg (x.toNat / 16)).toNat:Int),.int .u8 ((Gg (x.toNat % 16)).toNat:Int)]) (t:=5) (fr:=(0,0)) (AU wr _)) (by intro u hu;simp at hu;rcases hu with rfl|rfl<;>rfl) (by omega) (by unfold maxLen;omega) (by omega) (by rw[show((wr.alloc _).drew).heap.size=wr.heap.size+1 from Az _ _];have:=HB.size;omega) (wr.heap.size+1) (by simp) ?_;intro gg rC w3 T9 AJ hat al0))
   all_goals
    have Au:=Hi (((HB.alloc HB.size (.cells #[.int .u8 ((Gg (x.toNat / 16)).toNat:Int),.int .u8 ((Gg (x.toNat % 16)).toNat:Int)] 5)).drew).grown AJ (by rw[show((wr.alloc (.cells #[.int .u8 ((Gg (x.toNat / 16)).toNat:Int),.int .u8 ((Gg (x.toNat % 16)).toNat:Int)] 5)).drew).heap.size=wr.heap.size+1 from Az _ _];have:=HB.size;omega) (fun j hj=>oh HO hj));have OX:=Hi T9;clear T9 AJ hat;dsimp only[Z4];go_wp2;go_roundw
    case rel=>
     refine⟨t+1,n+2,by have:=HN.out;omega,by have:=HN.out;omega,by go_num,?_,Au⟩;rw[HT.out,Ze,show Cq [Gg (x.toNat / 16),Gg (x.toNat % 16)]=[.int .u8 ((Gg (x.toNat / 16)).toNat:Int),.int .u8 ((Gg (x.toNat % 16)).toNat:Int)] by rw[iW,iW,Zf]];exact OX.out
    case measure=>have:=HN.2;first|(simp[intOf];done)|(simp[intOf];omega)
  ·obtain rfl:t=s.length:=(by omega);rw[D5] at hown;obtain⟨gq,e1⟩:∃ gq,oq=some ⟨gq,0,none⟩:=by
    rcases hown.2 with⟨e0,e1⟩|⟨g,cap,cur,e0,hb,_⟩
    ·omega
    ·injection e0 with e0;exact⟨g,e0⟩
   subst e1;have Rq:(Eu s).length=n:=(by rw[U2];omega);have NJ:=Xn prog wr 54 5 9 underlying54 underlying5 underlying9 gq 0 n Hw (Eu s) Rq (fun i hi=>by rw[GQ];exact aat Rq hown i hi);clear hown hb Rq hn;go_wp2;go_ret;exact⟨rfl,HB⟩
end Hex
namespace Mem
open Go.RowKit Go.Maps
open Aw Ah Aq Bu Kp Bz Hex BH
theorem aeh(k:T)(w:World)(hk:k.length≤1000000):Calls prog 99 #[k] w (Rt w ↑(Ad.nm k)):=by
 have hm:({ data:=#[109] }:ByteArray)=bs [109]:=rfl;have hcut:∀ W,(Instr.slice 9 ↑(EY k) none (some (.int .i64 8)) none).run prog W=.ok ↑((EY k).take 8) W:=fun W=>OD prog W 9 underlying9 (EY k) 8 (by rw[Uu];omega)
 have Mg:((EY k).take 8).length=8:=by rw[Bc,Uu];rfl
 have HH:=Hi (fun(W:World)=>aed ((EY k).take 8) W (by rw[Mg];omega) (by rw[Mg];omega));have hhl:(Eu ((EY k).take 8)).length≤16:=by rw[U2,Mg];omega
 have HE:=Hi (show[109]++Eu ((EY k).take 8)=Ad.nm k from rfl);generalize Eu ((EY k).take 8)=hx at*;generalize (EY k).take 8=sk at*;clear Mg
 go_in
 go_wp2_with fail;refine(aoJ k (by omega) _).mono ?_;rintro e w1⟨rfl,Ak⟩;have HB1:=Hi Ak;clear Ak;go_wp2_with fail;refine(HH _).mono ?_;rintro e w2⟨rfl,Ac⟩;have Aj:=bH HB1 Ac;clear Ac;go_wp2;go_ret;exact⟨by rw[←HE.out];rfl,Aj⟩
theorem aB0{w:World}{a:Option Addr}{cap:Nat}{l:M}(h:Bg w a l)(hs:D8 l)(hl:l.length≤60000)(Df:rowLen (flat l)≤1000000000):
  Calls prog 101 #[.slice a l.length cap] w fun e w'=>e=.returned (.tuple #[((C9 l).getD []),.int .i64 (if(C9 l).isSome=true then 0 else 5)])∧Bw w w':=by
 have Gp:=Hi (aoH (cap:=cap) h hs hl Df);by_cases Ck:(C9 l).isSome=true
 ·rw[Ae Ck];obtain⟨he,hlen⟩:=Y0.1 Ck;have O4:=Hi (rQ Ck);rw[O4.out];rw[he] at Gp;generalize (Ej l).1=s at*;have U5:decide (65535 < (s.length:Int)+4)=false:=decide_eq_false (by omega);have IK:IntKind.i64.wrap ((s.length:Int)+4)=(s.length:Int)+4:=EN _ (by omega);have ZI:=Hi (fun W=>xe s W (by omega));clear he Ck hlen h hs Df O4
  go_in
  go_wp2_with fail;refine Gp.mono ?_;rintro e w3⟨rfl,Av⟩;have Au:=Hi Av;clear Av;go_wp2_with fail;refine(ZI _).mono ?_;rintro e w4⟨rfl,AB⟩;have AX:=bH Au AB;clear AB;go_wp2;go_ret2;exact⟨rfl,AX⟩
 ·rw[A9 Ck];have hn:(C9 l).getD []=[]:=by
   cases hc:C9 l with
   |none=>rfl
   |some d=>rw[hc] at Ck;simp at Ck
  rw[hn];by_cases he:(Ej l).2=0
  ·have hlen:¬ (Ej l).1.length+4≤65535:=fun h=>Ck (Y0.2 ⟨he,h⟩)
   rw[he] at Gp;have Ta:=wP l he Df;generalize (Ej l).1=s at*;have U5:65535 < (s.length:Int)+4:=(by omega);have IK:IntKind.i64.wrap ((s.length:Int)+4)=(s.length:Int)+4:=EN _ (by omega);clear he Ck h hs Df hn
   go_in
   go_wp2_with fail;refine Gp.mono ?_;rintro e w3⟨rfl,Av⟩;have Au:=Hi Av;clear Av;go_wp2;go_ret2;exact⟨rfl,Au⟩
  ·have Be:((Ej l).2 == 0)=false:=Ev.2 he;generalize Ej l=V at*;clear Ck h hs Df hn
   go_in
   go_wp2_with fail;refine Gp.mono ?_;rintro e w3⟨rfl,Av⟩;have Au:=Hi Av;clear Av;go_wp2;go_ret2;exact⟨rfl,Au⟩
theorem Z6{w:World}{base cap k:Nat}{q:Option Addr}{A:M}(h:BK w base (.slice q A.length cap) A)(hk:k < A.length):
  ∃ p:Addr,(∀ W,(Instr.indexAt 30 (.slice q A.length cap) ↑(k:Int)).run prog W=.ok (.pointer (some p)) W)∧w.cell? p=some ↑A[k].1∧w.cell? ⟨p.block,p.off+1,none⟩=some ↑A[k].2:=by
 obtain⟨p,h1,h2,-⟩:=(Bg.CR h).index cap k hk;exact⟨p,h1,h2.key,h2.val⟩
theorem OB{W:World}{g:Nat}{a b:Value}{t:TypeId}(h:W.heap[g]?=some (.cells #[a,b] t)):W.cell? g=some a∧W.cell? ⟨g,1,none⟩=some b:=⟨by rw[BJ W g _ _ _ _ h];rfl,by rw[BJ W g _ _ _ _ h];rfl⟩
section
variable {w w':World}
structure ZT(w W:World)(ov:Value)(m:Nat)(o:M)(c:Am)(gn:Bool):Prop where
 row:W.ownsRow (w.heap.size+1) 51 2 ov m (Dr o)
 AR:Bw w W
 box:W.heap[w.heap.size]?=some (.cells #[c.name,c.data] 51)
theorem ZT.drew{W:World}{ov:Value}{m:Nat}{o:M}{c:Am}{gn:Bool}(h:ZT w W ov m o c gn):ZT w W.drew ov m o c gn:=⟨h.row.drew,h.AR.drew,h.box⟩
theorem ZT.add{W W2:World}{ov v2:Value}{m:Nat}{o:M}{c:Am}{gn:Bool}{ob:Obj}{a b:T}(h:ZT w W ov m o c gn)(hg:(W.alloc ob).grownBy W2 ov.ownBlock)(ho:W2.ownsRow (w.heap.size+1) 51 2 v2 (m+1) (Dr o++[.string (bs a),.string (bs b)])):ZT w W2 v2 (m+1) (o++[(a,b)]) c gn:=by
 have hlt:=Ao h.box;have BS:(W.alloc ob).heap.size=W.heap.size+1:=Az _ _;refine⟨by rw[TQ];exact ho,(h.AR.alloc h.AR.size ob).grown hg (by omega) (fun j hj=>by have:=DT h.row hj;omega),?_⟩;exact(hg.block w.heap.size (by omega) (row_ne_low h.row (Nat.lt_succ_self w.heap.size))).trans (((AQ W ob).block _ hlt).trans h.box)
theorem aBV{q:Option Addr}{cap:Nat}{A:M}(c:Am)(hcg:c.gone=false)(h:BK w 0 (.slice q A.length cap) A)(hu:Up A)(hl:A.length≤1000000):
  Calls prog 102 #[.slice q A.length cap,.agg #[c.name,c.data],false] w fun e w'=>∃ v,e=.returned v∧BK w' w.heap.size v (Am.on A c)∧Bw w w':=by
 obtain⟨i0,Bh,AY,AZ,Bb⟩:=Dy RO;have HR:=Hi h;have HE:=Hi (anX (c:=c) hu);have ER:=Hi (AQ w (.cells #[c.name,c.data] 51));have Xz:=Hi (AU w (.cells #[c.name,c.data] 51));obtain⟨gn,aF⟩:∃ g:Bool,g=false:=⟨_,rfl⟩;rw[hcg,←aF] at HE;rw[←aF];have jF:=Hi aF;clear h hu aF
 go_in
 go_wp2
 go_loopw [7,8,9] (fun ov dv i wr=>∃ (k m:Nat) (o:M) (d:Bool),k≤A.length∧o.length=m∧m≤2*k∧i= ↑(k:Int)∧dv= ↑d∧o++FR c d (A.drop k)=FR c gn A∧ZT w wr ov m o c gn)
  (fun _ _ i _=>A.length -(intOf i).toNat)
 case atStart=>exact⟨0,0,[],gn,AV _,rfl,AV _,rfl,rfl,by rw[List.drop_zero];rfl,⟨by rw[R9];exact DZ _ _ _ _,ER,Xz⟩⟩
 case round=>
  obtain⟨k,m,o,d,hk,mM,KT,rfl,rfl,GL,Bj⟩:=hrel;obtain⟨oq,Hw,rfl⟩:=Bp Bj.row;have IA:=Hi Bj;have Nw:=Hi mM;clear ER Xz mM;by_cases hlt:k < A.length
  ·obtain⟨p,II,Mj,EI⟩:=(Z6 (BD HR (ub Bj.AR) (fun _ _ f=>f)) hlt)
   have HP:=Hi (fun(W:World) (hW:Bw w W)=>(show W.cell? p=some ↑A[k].1∧W.cell? ⟨p.block,p.off+1,none⟩=some ↑A[k].2 from by
    obtain⟨p',uG,acC,acD⟩:=(Z6 (BD HR (ub hW) (fun _ _ f=>f)) hlt);have e:=II W;rw[uG W] at e;injection e with e
    injection e with e
    injection e with e
    subst e;exact⟨acC,acD⟩))
   obtain⟨b0,b1⟩:=OB Bj.box;have hd:=OH hlt;rw[hd,anV] at GL;obtain⟨x1,Eo⟩:=ex (A[k].1);obtain⟨x2,Ee⟩:=ex (A[k].2);rw[show A[k]=(x1,x2) from Prod.ext Eo Ee] at GL;rw[Eo] at Mj HP;rw[Ee] at EI HP;have Ji:=Hi GL;clear hd Eo Ee GL Bj;by_cases h1:x1 < c.name
   ·
    cases d with
    |false=>
     have Ct:Op.bytesLess x1 c.name=true:=(by rw[Go.Proofs.bytesLess_eq];simpa using h1);have hne:(x1 == c.name)=false:=(by simpa using LM h1);have HN:=Hi (show(o++[(x1,x2)])++FR c false (A.drop (k+1))=FR c gn A by rw[←Ji.out];simp[h1,LM h1]);clear h1;go_wp2;go_region;have C8:=Hi IA.drew;clear b0 b1 Mj EI;generalize wr.drew=W1 at C8 ⊢;obtain⟨b0,b1⟩:=OB C8.box;obtain⟨p0,p1⟩:=HP _ C8.AR;go_wp2;go_region;have BX:=Hi C8.drew;clear b0 b1 p0 p1;generalize W1.drew=W2 at BX ⊢;obtain⟨b0,b1⟩:=OB BX.box;obtain⟨p0,p1⟩:=HP _ BX.AR;go_wp2_with (at_builtin;refine wpList_append_own_at _ rfl _ _ 30 rfl (w.heap.size+1) 51 i0 _ 2 32 underlying30 Bh AY AZ Bb rfl (by decide) (.slice oq m Hw) m _ rfl (BX.row.alloc _) ⟨W2.heap.size,0,none⟩ 1 1 [.string (bs x1),.string (bs x2)] rfl rfl (by intro j u hj;rw[add_plain,E5];exact(Dx▸hj)) (by simp[Value.oneCell']) (by unfold maxLen;omega) (by omega) (by rw[Az];have:=Ao BX.box;omega) ?_;intro v2 w2 Dt Ec _ _;obtain⟨g2,cap2,rfl⟩:=ownsRow_succ Dt;have Hl:=Hi (BX.add Ec Dt);clear Dt Ec);go_roundw
     case rel=>exact⟨k+1,m+1,o++[(x1,x2)],false,by omega,by simp[Nw.out],by omega,by go_num,rfl,HN,Hl⟩
     case measure=>simp[intOf];omega
    |true=>
     have Ct:Op.bytesLess x1 c.name=true:=(by rw[Go.Proofs.bytesLess_eq];simpa using h1);have hne:(x1 == c.name)=false:=(by simpa using LM h1);have HN:=Hi (show(o++[(x1,x2)])++FR c true (A.drop (k+1))=FR c gn A by rw[←Ji.out];simp[h1,LM h1]);clear h1;go_wp2;go_region;have C8:=Hi IA.drew;clear b0 b1 Mj EI;generalize wr.drew=W1 at C8 ⊢;obtain⟨b0,b1⟩:=OB C8.box;obtain⟨p0,p1⟩:=HP _ C8.AR;go_wp2;go_region;have BX:=Hi C8.drew;clear b0 b1 p0 p1;generalize W1.drew=W2 at BX ⊢;obtain⟨b0,b1⟩:=OB BX.box;obtain⟨p0,p1⟩:=HP _ BX.AR;go_wp2_with (at_builtin;refine wpList_append_own_at _ rfl _ _ 30 rfl (w.heap.size+1) 51 i0 _ 2 32 underlying30 Bh AY AZ Bb rfl (by decide) (.slice oq m Hw) m _ rfl (BX.row.alloc _) ⟨W2.heap.size,0,none⟩ 1 1 [.string (bs x1),.string (bs x2)] rfl rfl (by intro j u hj;rw[add_plain,E5];exact(Dx▸hj)) (by simp[Value.oneCell']) (by unfold maxLen;omega) (by omega) (by rw[Az];have:=Ao BX.box;omega) ?_;intro v2 w2 Dt Ec _ _;obtain⟨g2,cap2,rfl⟩:=ownsRow_succ Dt;have Hl:=Hi (BX.add Ec Dt);clear Dt Ec);go_roundw
     case rel=>exact⟨k+1,m+1,o++[(x1,x2)],true,by omega,by simp[Nw.out],by omega,by go_num,rfl,HN,Hl⟩
     case measure=>simp[intOf];omega
   ·by_cases h2:x1=c.name
    ·
     cases d with
     |false=>
      have Ct:Op.bytesLess x1 c.name=false:=(by rw[Go.Proofs.bytesLess_eq];simpa using h1);have hne:(x1 == c.name)=true:=(by simpa using h2);have HN:=Hi (show(o++[(c.name,c.data)])++FR c true (A.drop (k+1))=FR c gn A by rw[←Ji.out];simp[h2,Td]);clear h1 h2;go_wp2;go_region;have C8:=Hi IA.drew;clear b0 b1 Mj EI;generalize wr.drew=W1 at C8 ⊢;obtain⟨b0,b1⟩:=OB C8.box;obtain⟨p0,p1⟩:=HP _ C8.AR;go_wp2_with (at_builtin;refine wpList_append_own_at _ rfl _ _ 30 rfl (w.heap.size+1) 51 i0 _ 2 32 underlying30 Bh AY AZ Bb rfl (by decide) (.slice oq m Hw) m _ rfl (C8.row.alloc _) ⟨W1.heap.size,0,none⟩ 1 1 [.string (bs c.name),.string (bs c.data)] rfl rfl (by intro j u hj;rw[add_plain,E5];exact(Dx▸hj)) (by simp[Value.oneCell']) (by unfold maxLen;omega) (by omega) (by rw[Az];have:=Ao C8.box;omega) ?_;intro v1 w1 DW NL _ _;obtain⟨g1,Wu,rfl⟩:=ownsRow_succ DW;have JD:=Hi (C8.add NL DW);clear DW NL);have BX:=Hi JD.drew;obtain⟨e0,e1⟩:=OB JD.box;obtain⟨r0,r1⟩:=HP _ JD.AR;go_wp2;go_region;clear b0 b1 p0 p1 e0 e1 r0 r1;generalize w1.drew=W2 at BX ⊢;obtain⟨b0,b1⟩:=OB BX.box;obtain⟨p0,p1⟩:=HP _ BX.AR;go_wp2;go_roundw
      case rel=>exact⟨k+1,m+1,o++[(c.name,c.data)],true,by omega,by simp[Nw.out],by omega,by go_num,rfl,HN,BX⟩
      case measure=>simp[intOf];omega
     |true=>
      have Ct:Op.bytesLess x1 c.name=false:=(by rw[Go.Proofs.bytesLess_eq];simpa using h1);have hne:(x1 == c.name)=true:=(by simpa using h2);have HN:=Hi (show(o)++FR c true (A.drop (k+1))=FR c gn A by rw[←Ji.out];simp[h2]);clear h1 h2;go_wp2;go_region;have C8:=Hi IA.drew;clear b0 b1 Mj EI;generalize wr.drew=W1 at C8 ⊢;obtain⟨b0,b1⟩:=OB C8.box;obtain⟨p0,p1⟩:=HP _ C8.AR;go_wp2;go_region;have BX:=Hi C8.drew;clear b0 b1 p0 p1;generalize W1.drew=W2 at BX ⊢;obtain⟨b0,b1⟩:=OB BX.box;obtain⟨p0,p1⟩:=HP _ BX.AR;go_wp2;go_roundw
      case rel=>exact⟨k+1,m,o,true,by omega,by simp[Nw.out],by omega,by go_num,rfl,HN,BX⟩
      case measure=>simp[intOf];omega
    ·
     cases d with
     |false=>
      have Ct:Op.bytesLess x1 c.name=false:=(by rw[Go.Proofs.bytesLess_eq];simpa using h1);have hne:(x1 == c.name)=false:=(by simpa using h2);have HN:=Hi (show((o++[(c.name,c.data)])++[(x1,x2)])++FR c true (A.drop (k+1))=FR c gn A by rw[←Ji.out];simp[h1,h2]);clear h1 h2;go_wp2;go_region;have C8:=Hi IA.drew;clear b0 b1 Mj EI;generalize wr.drew=W1 at C8 ⊢;obtain⟨b0,b1⟩:=OB C8.box;obtain⟨p0,p1⟩:=HP _ C8.AR;go_wp2_with (at_builtin;refine wpList_append_own_at _ rfl _ _ 30 rfl (w.heap.size+1) 51 i0 _ 2 32 underlying30 Bh AY AZ Bb rfl (by decide) (.slice oq m Hw) m _ rfl (C8.row.alloc _) ⟨W1.heap.size,0,none⟩ 1 1 [.string (bs c.name),.string (bs c.data)] rfl rfl (by intro j u hj;rw[add_plain,E5];exact(Dx▸hj)) (by simp[Value.oneCell']) (by unfold maxLen;omega) (by omega) (by rw[Az];have:=Ao C8.box;omega) ?_;intro v1 w1 DW NL _ _;obtain⟨g1,Wu,rfl⟩:=ownsRow_succ DW;have JD:=Hi (C8.add NL DW);clear DW NL);have BX:=Hi JD.drew;obtain⟨e0,e1⟩:=OB JD.box;obtain⟨r0,r1⟩:=HP _ JD.AR;go_wp2;go_region;clear b0 b1 p0 p1 e0 e1 r0 r1;generalize w1.drew=W2 at BX ⊢;obtain⟨b0,b1⟩:=OB BX.box;obtain⟨p0,p1⟩:=HP _ BX.AR
      go_wp2_with (at_builtin;refine wpList_append_own_at _ rfl _ _ 30 rfl (w.heap.size+1) 51 i0 _ 2 32 underlying30 Bh AY AZ Bb rfl (by decide) (.slice g1 (m+1) Wu) (m+1) _ rfl (BX.row.alloc _) ⟨W2.heap.size,0,none⟩ 1 1 [.string (bs x1),.string (bs x2)] rfl rfl (by intro j u hj;rw[add_plain,E5];exact(Dx▸hj)) (by simp[Value.oneCell']) (by unfold maxLen;omega) (by omega) (by rw[Az];have:=Ao BX.box;omega) ?_;intro v2 w2 Dt Ec _ _;obtain⟨g2,cap2,rfl⟩:=ownsRow_succ Dt;have Hl:=Hi (BX.add Ec Dt);clear Dt Ec);go_roundw
      case rel=>exact⟨k+1,m+1+1,(o++[(c.name,c.data)])++[(x1,x2)],true,by omega,by simp[Nw.out],by omega,by go_num,rfl,HN,Hl⟩
      case measure=>simp[intOf];omega
     |true=>
      have Ct:Op.bytesLess x1 c.name=false:=(by rw[Go.Proofs.bytesLess_eq];simpa using h1);have hne:(x1 == c.name)=false:=(by simpa using h2);have HN:=Hi (show(o++[(x1,x2)])++FR c true (A.drop (k+1))=FR c gn A by rw[←Ji.out];simp[h2]);clear h1 h2;go_wp2;go_region;have C8:=Hi IA.drew;clear b0 b1 Mj EI;generalize wr.drew=W1 at C8 ⊢;obtain⟨b0,b1⟩:=OB C8.box;obtain⟨p0,p1⟩:=HP _ C8.AR;go_wp2;go_region;have BX:=Hi C8.drew;clear b0 b1 p0 p1;generalize W1.drew=W2 at BX ⊢;obtain⟨b0,b1⟩:=OB BX.box;obtain⟨p0,p1⟩:=HP _ BX.AR;go_wp2_with (at_builtin;refine wpList_append_own_at _ rfl _ _ 30 rfl (w.heap.size+1) 51 i0 _ 2 32 underlying30 Bh AY AZ Bb rfl (by decide) (.slice oq m Hw) m _ rfl (BX.row.alloc _) ⟨W2.heap.size,0,none⟩ 1 1 [.string (bs x1),.string (bs x2)] rfl rfl (by intro j u hj;rw[add_plain,E5];exact(Dx▸hj)) (by simp[Value.oneCell']) (by unfold maxLen;omega) (by omega) (by rw[Az];have:=Ao BX.box;omega) ?_;intro v2 w2 Dt Ec _ _;obtain⟨g2,cap2,rfl⟩:=ownsRow_succ Dt;have Hl:=Hi (BX.add Ec Dt);clear Dt Ec);go_roundw
      case rel=>exact⟨k+1,m+1,o++[(x1,x2)],true,by omega,by simp[Nw.out],by omega,by go_num,rfl,HN,Hl⟩
      case measure=>simp[intOf];omega
  ·obtain rfl:k=A.length:=(by omega);rw[List.drop_length] at GL;obtain⟨b0,b1⟩:=OB Bj.box;clear Bj;cases d with
   |false=>
    have HN:=Hi (show o++[(c.name,c.data)]=Am.on A c by rw[←HE.out,←GL];rfl);clear GL;go_wp2_with (at_builtin;refine wpList_append_own_at _ rfl _ _ 30 rfl (w.heap.size+1) 51 i0 _ 2 32 underlying30 Bh AY AZ Bb rfl (by decide) (.slice oq m Hw) m _ rfl (IA.row.alloc _) ⟨wr.heap.size,0,none⟩ 1 1 [.string (bs c.name),.string (bs c.data)] rfl rfl (by intro j u hj;rw[add_plain,E5];exact(Dx▸hj)) (by simp[Value.oneCell']) (by unfold maxLen;omega) (by omega) (by rw[Az];have:=Ao IA.box;omega) ?_;intro v0 w0 JL aD _ _;obtain⟨g0,cap0,rfl⟩:=ownsRow_succ JL;have XP:=Hi (IA.add aD JL);clear JL aD);go_ret;refine⟨_,rfl,?_,XP.AR⟩;rw[←HN.out];unfold BK;rw[AA,Nw.out];exact EM XP.row (by omega)
   |true=>
    have HN:=Hi (show o=Am.on A c by rw[←HE.out,←GL];exact(Eg o).symm);clear GL;go_wp2;go_ret;refine⟨_,rfl,?_,IA.AR⟩;rw[←HN.out];unfold BK;rw[Nw.out];exact EM IA.row (by omega)
end
end Mem
namespace Mem
open Go.RowKit Go.Maps
open Aw Ah Aq Bu Kp Bz Hex BH Al
theorem aDd{w:World}{a:Option Addr}{l:List T}(cap:Nat)(hl:Dz w a l)(k:T)(hlen:l.length≤1000000000):
  Calls prog 31 #[.slice a l.length cap,k] w fun e w'=>∃ i:Int,e=.returned (.int .i64 i)∧(decide (0≤i))=decide (k∈l)∧Bw w w':=by
 have HL:=Hi hl;clear hl
 go_in
 go_wp2
 go_loopw [5,8] (fun _ i wr=>∃ n:Nat,n≤l.length∧i=.int .i64 n∧Bw w wr∧k∉l.take n) (fun _ i _=>l.length -(intOf i).toNat)
 case atStart=>exact⟨0,AV _,rfl,Ai _ _,by simp⟩
 case round=>
  obtain⟨n,hn,rfl,hb,CP⟩:=hrel;have DU:=Hi CP;have HB:=Hi hb;clear CP;by_cases hlt:n < l.length
  ·obtain⟨q,Cn,c0⟩:=(HL.below hb).index cap n hlt;have M4:=Hi (CK hlt)
   have CW:=Hi (show k≠l[n]→k∉l.take (n+1) from fun h=>by
    rw[Cr hlt,Es];rintro(e|e)
    ·exact DU e
    ·exact h (by simpa using e))
   generalize l[n]=x at*;clear hb;by_cases hx:k=x
   ·subst hx;go_wp2;go_ret;exact⟨_,rfl,by simp[M4.out],HB⟩
   ·have aU:(k == x)=false:=Ev.2 hx;have HN:=Hi (CW hx);clear CW M4;go_wp2;go_roundw
    case rel=>exact⟨n+1,by omega,by go_num,HB,HN⟩
    case measure=>simp[intOf];omega
  ·obtain rfl:n=l.length:=(by omega);have CP:k∉l:=by
    have:=DU.out;rwa[D5] at this
   clear hb;go_wp2;go_ret;exact⟨_,rfl,by simp[CP],HB⟩
theorem aD3{w:World}{a:Option Addr}{l:List T}(cap:Nat)(hl:Dz w a l)(k:T)(hlen:l.length≤1000000000):
  Calls prog 156 #[.slice a l.length cap,k] w (Rt w (decide (k∈l))):=by
 have HI:=Hi (aDd cap hl k hlen);clear hl;generalize decide (k∈l)=d at*
 go_in
 go_wp2_with fail;refine HI.mono ?_;rintro e w1⟨i,rfl,hd,hb⟩;have HB:=Hi hb;have HD:=Hi hd;clear hb hd;go_wp2;go_ret;exact⟨by rw[←HD.out];rfl,HB⟩
end Mem
namespace Ci
open Go.RowKit Go.Maps
open Aw Ah Aq Bu Kp Bz Hex BH Mem
theorem rX(k:T)(w:World)(hk:k.length≤1000000):Calls prog 107 #[k] w (Rt w ↑(Aa.nm k)):=by
 have hm:({ data:=#[117] }:ByteArray)=bs [117]:=rfl;have hcut:∀ W,(Instr.slice 9 ↑(EY k) none (some (.int .i64 8)) none).run prog W=.ok ↑((EY k).take 8) W:=fun W=>OD prog W 9 underlying9 (EY k) 8 (by rw[Uu];decide)
 have HE:=Hi (show Aa.nm k=[117]++Eu ((EY k).take 8) from rfl);have hl:(Eu ((EY k).take 8)).length=16:=by rw[U2,Bc,Uu];rfl
 have HS:=Hi (aoY k hk w);have HH:=Hi (fun(W:World)=>ac5 ((EY k).take 8) W (by rw[Bc,Uu];decide));rw[HE.out];generalize EY k=s at*;generalize Eu (s.take 8)=h at*
 go_in
 go_wp2_with fail;refine HS.mono ?_;rintro e w1⟨rfl,Ak⟩;have HB1:=Hi Ak;clear Ak;go_wp2_with fail;refine(HH _).mono ?_;rintro e w2⟨rfl,Ac⟩;have Aj:=bH HB1 Ac;clear Ac;go_wp2;go_ret;exact⟨rfl,Aj⟩
theorem atL(name:T)(w:World)(hn:name.length≤1000000):Calls prog 202 #[name] w (Rt w (.bool (Aa.ours name))):=by
 show Calls _ _ _ _ fun e w'=>e=.returned (.bool (NV 117 name))∧_
 by_cases h1:name.length=17
 ·have h1i:(name.length:Int)=17:=by omega
  have hlt:0 < name.length:=by omega
  have gu:(0:Int) < (name.length:Int):=by omega
  have hd:name.head?=some name[0]:=by
   cases name with
   |nil=>simp at h1
   |cons a l=>rfl
  by_cases h2:name[0]=117
  ·have hR:=Hi (anw (c:=117) h1 (by rw[hd,h2]));have hcut:∀ W,(Instr.slice 9 ↑name (some (.int .i64 1)) none none).run prog W=.ok ↑(name.drop 1) W:=fun W=>Nh prog W 9 underlying9 name 1 (by omega)
   have kX:(name[0].toNat:Int)=117:=(by rw[h2];rfl);have HU:=Hi (aeS (name.drop 1) w (by rw[CF];omega));have HV:=Hi (apP (name.drop 1));rw[hR.out,←HV.out];generalize I4 (name.drop 1)=V at*;clear hd h2 HV hR;generalize name.drop 1=dn at*
   go_in
   go_wp2_with fail;refine HU.mono ?_;rintro e w1⟨rfl,hb⟩;have HB:=Hi hb;clear hb;go_wp2;go_ret;exact⟨by simp;rfl,HB⟩
  ·have hR:Hid (NV 117 name=false):=Hi (wK (fun h=>h2 (by have:=h.2;rw[hd] at this;injection this)));have kX:¬ (name[0].toNat:Int)=117:=fun e=>h2 (by apply UInt8.toNat_inj.1;have h9:(117:UInt8).toNat=117:=rfl;rw[h9];omega)
   rw[hR.out];clear hd h2
   go_in
   go_wp2;go_ret;exact⟨rfl,Ai _ _⟩
 ·have h1i:¬ (name.length:Int)=17:=by omega
  have hR:Hid (NV 117 name=false):=Hi (wK (fun h=>h1 h.1));rw[hR.out]
  go_in
  go_wp2;go_ret;exact⟨rfl,Ai _ _⟩
end Ci
namespace Aq
open Go.RowKit Go.Maps Go.Sort Go.Shelf Go.Lib
open Aw Ah
theorem aaN{w:World}{base:Nat}{v:Value}{l:List (List UInt8)}(h:Bt w base v l)(hl:l.length≤1000000):
  Calls prog 106 #[v] w fun e w'=>∃ v',e=.returned v'∧Bt w' w.heap.size v' (Bi l)∧Bw w w':=by
 have HC:=Hi (atb h hl);have gH:v.oneCell'=true:=by obtain⟨q,cap,rfl⟩:=Bp h;rfl
 clear h
 go_in
 go_wp2_with fail;refine HC.mono ?_;rintro e w1⟨v1,rfl,DW,EB,Ak⟩;rcases DW.parts with⟨rfl,rfl⟩|⟨g,cap,rfl,hg,aN,Qo,Oo⟩
 ·have HB1:=Hi Ak;clear DW EB Ak;go_wp2_with fail;refine(AnyM.slices_Sort_string_none Y4 none 0 _).mono ?_;rintro e w2⟨rfl,rfl⟩;go_wp2_with fail;refine(Any.slices_Compact_string_empty gY none 0 _).mono ?_;rintro e w3⟨rfl,rfl⟩;go_wp2;go_ret;exact⟨_,rfl,by unfold Bt;rw[show Bi []=[] by simp[Bi,Lib.compact,Lib.compactUpTo],ME];exact DZ _ _ _ _,HB1⟩
 ·have Ua:=DW;unfold Bt at Ua;rw[ME] at Ua;obtain⟨g2,cap2,e2,_,_,_,_,_,hH⟩:=holds_of_ownsRow Ua (by simp);cases e2;have Dc:=Hi Ua;have HB1:=Hi Ak;have HH:=Hi hH;clear DW Ua EB Ak hH;go_wp2_with fail;refine(AnyM.slices_Sort_string Y4 g 0 cap l _ HH Oo (by omega)).mono ?_;rintro e w2⟨rfl,n,os,rfl⟩;have CS:(l.mergeSort fun x y=>decide (x≤y)).length=l.length:=by simp
  have Dt:=ownsRow_putRow (q:=n) Dc CS (Ag _);have Ac:=below_putRow (q:=n) (enc:=encStr) (d:=(l.mergeSort fun x y=>decide (x≤y)).toArray) HB1 hg;have Kg:=BD Dt (ub (below_grow (Ai _ _) (Ag _) os)) (fun _ _ f=>f);have Av:=below_grow Ac Ac.size os;clear Dt Ac;rw[Gx (by rw[CS];omega)] at Kg;obtain⟨S,Oi⟩:∃ S,(l.mergeSort fun x y=>decide (x≤y))=S:=⟨_,rfl⟩;have hR:Hid (Bi l=Lib.compact S):=Hi (by unfold Bi;rw[Oi]);rw[Oi] at Kg Av CS ⊢;generalize Go.Sort.grow (Go.Sort.putRow encStr (Sort.ahead w1 n) g 0 S.toArray) os=w3 at*;obtain⟨g3,rC,e3,_,_,_,_,_,ae⟩:=holds_of_ownsRow Kg (by simp);cases e3;have Vf:=Any.slices_Compact_string gY g 0 cap S w3 ae (by omega) (by omega);rw[←CS] at Kg;rw[show(vP.f 194)=71 from rfl,CS] at Vf;have yF:=Hi Vf;have OX:=Hi Kg;have Au:=Hi Av;have HH3:=Hi ae;clear Kg Av ae Vf;go_wp2_with fail;refine yF.mono ?_;rintro e w4⟨rfl,q,rfl⟩;rw[←CS];have BQ:=compact_length_le S;have Vp:=ownsRow_putRow (q:=q) (k:=(Lib.compact S).length) OX (ys:=Lib.compact S++List.replicate (S.length -(Lib.compact S).length) []) (by simp;omega) BQ;have AB:=below_putRow (q:=q) (enc:=encStr) (d:=(Lib.compact S++List.replicate (S.length -(Lib.compact S).length) []).toArray) Au hg;rw[Jf rfl] at Vp;generalize Go.Sort.putRow encStr (Sort.ahead w3 q) g 0 (Lib.compact S++List.replicate (S.length -(Lib.compact S).length) []).toArray=w4 at*;have zl:=Hi Vp;have AX:=Hi AB;clear Vp AB;go_wp2;go_ret;refine⟨_,rfl,?_,AX⟩;unfold Bt;rw[hR.out,ME];exact zl.out
end Aq
namespace Ci
open Go.RowKit Go.Maps
open Aw Ah Aq Bu Kp Bz Hex BH Mem
theorem atE(name data:T):Aa.Cm name data=if(Ab.EK data).2=0 then(Ic (Ab.EK data).1).bind fun l=>if l≠[]∧(Ef l).length=l.length∧∀ p∈l,Aa.nm p.1=name∧rowOk p=true then some l else none else none:=by
 rfl
theorem aB8{s:T}{l:List T}(h:Dv s=some l):l.length≤65535:=by
 unfold Dv at h;split at h
 ·cases h
 ·cases h1:EL (Ab.val (s.take 2)) (s.drop 2) with
  |none=>rw[h1] at h;cases h
  |some r=>
   rw[h1] at h;simp only[CU] at h;split at h
   ·simp only[Cu] at h;obtain⟨e1,a,e2,e3⟩:=aeb (l:=r.1) (r:=r.2) h1;have hv:=Ab.Jw (s.take 2);have hl:(s.take 2).length≤2:=(by rw[Bc];omega);have hp:256 ^ (s.take 2).length≤256 ^ 2:=Nat.pow_le_pow_right (by decide) hl;have Gi:Ab.val (s.take 2) < 65536:=Ip hv hp;rw[←h,e1];omega
   ·cases h
def afh(w:World)(q:Option Addr)(cap:Nat)(l:M)(name:T)(i:Value)(wr:World):Prop:=∃ k:Nat,k≤l.length∧i=.int .i64 k∧Bw w wr∧BK wr w.heap.size (.slice q l.length cap) l∧∀ p∈l.take k,Aa.nm p.1=name∧rowOk p=true
theorem atM(name data:T)(w:World)(hd:data.length≤1000000):Calls prog 191 #[name,data] w fun e w'=>Mem.MR w (Aa.Cm name data) e w':=by
 have QS:=Hi (atE name data);have HO:=Hi (ant data w (by omega));have CS:(Ab.EK data).1.length≤1000000:=by
  by_cases h:(Ab.EK data).2=0
  ·have:=congrArg List.length (Ab.adS h);rw[Ab.RP] at this;omega
  ·unfold Ab.EK at h ⊢;split
   ·simp
   ·split
    ·rename_i h1 h2
     rw[A9 h1,Ae h2] at h;exact absurd rfl h
    ·simp
 generalize (Ab.EK data).1=s at*;generalize (Ab.EK data).2=c at*;have HG:=Hi (fun(W:World)=>anK s W (by omega));by_cases hc:c=0
 ·subst hc;cases hg:Ic s with
  |none=>
   have hR:Hid (Aa.Cm name data=none):=Hi (by rw[QS.out,Ae rfl,hg];rfl);have D7:=Hi (show ∀ W,Calls prog 229 #[s] W (Rt W (.tuple #[(),.int .i64 7])) from fun W=>by have:=HG W;unfold Ws at this;rw[hg] at this;exact this);clear HG QS hg
   go_in
   go_wp2_with fail;refine HO.mono ?_;rintro e w1⟨rfl,Ak⟩;have HB1:=Hi Ak;clear Ak;go_wp2_with fail;refine(D7 _).mono ?_;rintro e w2⟨rfl,Ac⟩;have Aj:=bH HB1 Ac;clear Ac;go_wp2;go_ret2;exact Mem.Mx hR.out rfl Aj.out
  |some l=>
   have D7:=Hi (show ∀ W,Calls prog 229 #[s] W fun e w'=>∃ v,e=.returned (.tuple #[v,.int .i64 0])∧BK w' W.heap.size v l∧Bw W w' from fun W=>by have:=HG W;unfold Ws at this;rw[hg] at this;exact this);have Zv:=Hi (show Aa.Cm name data=if l≠[]∧(Ef l).length=l.length∧∀ p∈l,Aa.nm p.1=name∧rowOk p=true then some l else none from by rw[QS.out,Ae rfl,hg];rfl);obtain⟨hl,hsh⟩:=abd hg;have Sr:=Hi hsh;clear HG QS hg hsh;by_cases hz:l=[]
   ·have hR:Hid (Aa.Cm name data=none):=Hi (by rw[Zv.out,A9 (fun h=>h.1 hz)]);have AY:(l.length:Int)=0:=(by rw[hz];rfl);clear hz
    go_in
    go_wp2_with fail;refine HO.mono ?_;rintro e w1⟨rfl,Ak⟩;have HB1:=Hi Ak;clear Ak;go_wp2_with fail;refine(D7 _).mono ?_;rintro e w2⟨v,rfl,Af,Ac⟩;obtain⟨q,cap,rfl,Hr,BQ⟩:=FQ Af;have Aj:=bH HB1 Ac;clear Ac Af;go_wp2;go_ret2;exact Mem.Mx hR.out rfl Aj.out
   ·have AY:¬ (l.length:Int)=0:=fun e=>hz (Ku.1 (by omega))
    have hzb:((l.length:Int) == 0)=false:=Ev.2 AY;by_cases hk:(Ef l).length=l.length
    ·have jH:=Hi (show Aa.Cm name data=if ∀ p∈l,Aa.nm p.1=name∧rowOk p=true then some l else none from by
      rw[Zv.out];by_cases h:∀ p∈l,Aa.nm p.1=name∧rowOk p=true
      ·rw[Ae ⟨hz,hk,h⟩,Ae h]
      ·rw[A9 (fun x=>h x.2.2),A9 h])
     have fM:((Ef l).length:Int)=(l.length:Int):=by omega
     go_in
     go_wp2_with fail;refine HO.mono ?_;rintro e w1⟨rfl,Ak⟩;have HB1:=Hi Ak;clear Ak;go_wp2_with fail;refine(D7 _).mono ?_;rintro e w2⟨v,rfl,Af,Ac⟩;obtain⟨q,cap,rfl,Hr,BQ⟩:=FQ Af;have Aj:=bH HB1 Ac;have BF:=Hi (EM Af HB1.size);have KH:=Hi (iD (w:=w2) (Bg.CR Af) Hr (by omega));clear Ac Af;go_wp2_with fail;refine KH.mono ?_;rintro e w3⟨kv,rfl,CX,Av⟩;obtain⟨kq,kc,rfl⟩:=Bp CX;have Q4:=Hi (Cc BF Av);have Au:=bH Aj Av;clear Av CX;go_wp2
     go_loopw [10,42] (fun _ i wr=>afh w q cap l name i wr) (fun _ i _=>l.length -(intOf i).toNat)
     case atStart=>exact⟨0,AV _,rfl,Au,Q4,fun p h=>by simp at h⟩
     case round=>
      obtain⟨k,E9,rfl,hb,hr,hall⟩:=hrel;have HB:=Hi hb;have HR:=Hi hr;have HA:=Hi hall;clear hall Au Q4 hb;by_cases hlt:k < l.length
      ·obtain⟨a,Cn,ha,-⟩:=(Bg.CR hr).index cap k hlt;have c0:=ha.key;have c1:=ha.val;have hsk:=(Sr _ (CK hlt)).1;have vw:=(Sr _ (CK hlt)).2;have HT:=Hi (apw (P:=fun p=>Aa.nm p.1=name∧rowOk p=true) hlt HA)
       have HF:=Hi (show ¬ (Aa.nm l[k].1=name∧rowOk l[k]=true)→Aa.Cm name data=none from fun hne=>by
        rw[jH.out,A9 (fun h=>hne (h _ (CK hlt)))])
       generalize l[k]=x at*;have HN:=Hi (fun(W:World)=>rX x.1 W (by omega));have Ey:=Hi (fun(W:World)=>nZ x.2 W (by omega));have Hl:=Hi (show Aa.nm x.1=name∧rowOk x=true→∀ p∈l.take (k+1),Aa.nm p.1=name∧rowOk p=true from HT.out);clear ha hr HT;generalize Aa.nm x.1=nx at*;cases G7:Dv x.2 with
       |none=>
        have ZE:=Hi (show ∀ W,Calls prog 203 #[x.2] W (Rt W (.tuple #[(),.int .i64 7])) from fun W=>by have:=Ey W;unfold Go.Proofs.YtkmninbcgipliaaGreatDoor.MR at this;rw[G7] at this;exact this);have hR:=Hi (HF (fun h=>by have:=h.2;unfold rowOk at this;rw[G7] at this;cases this));clear HF Hl Ey G7 HN;go_wp2_with fail;refine(ZE _).mono ?_;rintro e w4⟨rfl,AB⟩;have AX:=Hi ((HB.alloc HB.size _).trans (AB.mono (by have:=HB.size;rw[Az];omega)));clear AB;go_wp2;go_ret2;exact Mem.Mx hR.out rfl AX.out
       |some kr=>
        have ZE:=Hi (show ∀ W,Calls prog 203 #[x.2] W fun e w'=>∃ v,e=.returned (.tuple #[v,.int .i64 0])∧Aq.Bt w' 0 v kr∧Bw W w' from fun W=>(Ey W).mono fun e w' h=>by
         unfold Go.Proofs.YtkmninbcgipliaaGreatDoor.MR at h;rw[G7] at h;obtain⟨v,h1,h2,h3,_⟩:=h;exact⟨v,h1,h2,h3⟩)
        have YC:=aB8 G7;have MN:=Hi (show rowOk x=decide (Bi kr=kr) from by unfold rowOk;rw[G7]);have alj:=AU wr (.cells #[x.1,x.2] 51);have XK:=Hi alj;clear Ey G7 alj;go_wp2_with fail;refine(ZE _).mono ?_;rintro e w4⟨kv4,rfl,acn,AB⟩;obtain⟨kq,kc,rfl⟩:=Bp acn;have alk:=(AB.block _ (Ao XK)).trans XK.out;have d0:w4.cell? wr.heap.size=some ↑x.1:=cr alk;have M6:=Hi (Cc (HR.alloc _) AB);have AX:=Hi ((HB.alloc HB.size _).trans (AB.mono (by have:=HB.size;rw[Az];omega)));have yU:=Hi acn;clear AB alk acn;go_wp2_with fail;refine(HN _).mono ?_;rintro e w5⟨rfl,Bl⟩;have Lm:=Hi (Cc M6 Bl);have Cj:=bH AX Bl;have aco:=Cc yU Bl;have Fh:=Hi (aaN aco (by omega));have ara:=Hi aco;clear Bl aco;by_cases heq:nx=name
        ·have ax4:(nx == name)=true:=beq_iff_eq.2 heq;go_wp2_with fail;refine Fh.mono ?_;rintro e w6⟨rv,rfl,hrv,Co⟩;obtain⟨rq,rc,rfl⟩:=Bp hrv;have Mk:=VC kr;have HEQ:=Hi (aub (Cc ara Co) hrv (by omega) (by omega));have I7:=Hi (Cc Lm Co);have EP:=bH Cj Co;clear Co hrv;go_wp2_with fail;refine HEQ.mono ?_;rintro e w7⟨rfl,F7⟩;have qJ:=Hi (Cc I7 F7);have Ex:=bH EP F7;clear F7;by_cases gP:kr=Bi kr
         ·have lV:decide (kr=Bi kr)=true:=LY gP;have CJ:=Hi (show afh w q cap l name (.int .i64 ((k:Int)+1)) w7 from⟨k+1,by omega,by go_num,Ex,qJ,Hl ⟨heq,by rw[MN.out];exact LY gP.symm⟩⟩);rw[lV];clear gP lV Hl HF MN;go_wp2;go_roundw
          case rel=>exact CJ.out
          case measure=>
           show l.length -((k:Int)+1).toNat < l.length -((k:Int)).toNat
           omega
         ·have lV:decide (kr=Bi kr)=false:=decide_eq_false gP;have hR:=Hi (HF (fun h=>gP (by have:=h.2;rw[MN.out] at this;exact(O0 this).symm)));rw[lV];clear gP lV Hl HF MN;go_wp2;go_ret2;exact Mem.Mx hR.out rfl Ex.out
        ·have ax4:(nx == name)=false:=Ev.2 heq;have hR:=Hi (HF (fun h=>heq h.1));clear Hl HF MN;go_wp2;go_ret2;exact Mem.Mx hR.out rfl Cj.out
      ·obtain rfl:k=l.length:=by omega
       have hR:Hid (Aa.Cm name data=some l):=Hi (by
        rw[jH.out,Ae];have:=HA.out;rwa[D5] at this)
       clear hr;go_wp2;go_ret2;exact Mem.og hR.out rfl HR Hr HB.out
    ·have hR:Hid (Aa.Cm name data=none):=Hi (by rw[Zv.out,A9 (fun h=>hk h.2.1)]);have fM:¬ ((Ef l).length:Int)=(l.length:Int):=(by omega);have SL:(((Ef l).length:Int) != (l.length:Int))=true:=bne_iff_ne.2 fM
     go_in
     go_wp2_with fail;refine HO.mono ?_;rintro e w1⟨rfl,Ak⟩;have HB1:=Hi Ak;clear Ak;go_wp2_with fail;refine(D7 _).mono ?_;rintro e w2⟨v,rfl,Af,Ac⟩;obtain⟨q,cap,rfl,Hr,BQ⟩:=FQ Af;have Aj:=bH HB1 Ac;have KH:=Hi (iD (w:=w2) (Bg.CR Af) Hr (by omega));clear Ac Af;go_wp2_with fail;refine KH.mono ?_;rintro e w3⟨kv,rfl,CX,Av⟩;obtain⟨kq,kc,rfl⟩:=Bp CX;have Au:=bH Aj Av;clear Av CX;go_wp2;go_ret2;exact Mem.Mx hR.out rfl Au.out
 ·have hR:Hid (Aa.Cm name data=none):=Hi (by rw[QS.out,A9 hc]);clear HG QS
  go_in
  go_wp2_with fail;refine HO.mono ?_;rintro e w1⟨rfl,Ak⟩;have HB1:=Hi Ak;clear Ak;go_wp2;go_ret2;exact Mem.Mx hR.out rfl HB1.out
end Ci
namespace Ci
open Go.RowKit Go.Maps
open Aw Ah Aq Bu Kp Bz Hex BH Mem
def Fj(w:World)(p y:Nat):Prop:=w.heap[p]?=some (.cells #[y] 162)
theorem Fj.cell{w:World}{p y:Nat}(h:Fj w p y):w.cell? p=some (.pointer y):=by
 rw[BJ _ _ _ _ _ _ h];rfl
theorem Fj.lt{w:World}{p y:Nat}(h:Fj w p y):p < w.heap.size:=Ao h
theorem Fj.below{w w':World}{p y:Nat}(h:Fj w p y)(hb:Bw w w'):Fj w' p y:=(hb.block p (Ao h)).trans h
theorem Fj.upd{F:Nat→Prop}{w w':World}{p y:Nat}(h:Fj w p y)(hu:A7 F w w')(hF:¬ F p):Fj w' p y:=(hu.block p (Ao h) hF).trans h
theorem atH(y:Nat)(w:World):Calls prog 27 #[y] w fun e w'=>∃ p,e=.returned (.tuple #[.pointer (some ⟨p,0,none⟩),.int .i64 0])∧Fj w' p y∧w.heap.size≤p∧Bw w w':=by
 go_in
 go_wp2;go_ret2;exact⟨_,rfl,AU w _,Ag _,AQ w _⟩
theorem rY{w:World}{p y:Nat}{A:M}(hm:Fj w p y)(hg:Aq.PO w y A)(name:T)(hn:name.length≤1000):Calls prog 108 #[p,name] w fun e w'=>QY Aa w A name e w':=by
 have c:=hm.cell;have HG:=Hi (hg.gets w (Ai _ _) name hn);have hs:=hg.small name;have HF:=Hi (show fileOf Aa A name=(Ah.get A name).bind (Aa.Cm name) from rfl);clear hg hm;cases hx:Ah.get A name with
 |none=>
  rw[hx] at HG HF;have hF:fileOf Aa A name=none:=HF.out;have HP:=Hi (show ∀ W',Bw w W'→QY Aa w A name (.returned (.tuple #[(),false,false])) W' from fun W' hb=>⟨none,0,by rw[hF,hx];rfl,by rw[hF];exact Xi _ _,fun _=>rfl,hb⟩);clear hx HF hF hs
  go_in
  go_wp2_with fail;refine HG.mono ?_;rintro e w1⟨rfl,Ak⟩;have HB1:=Hi Ak;clear Ak;go_wp2_with fail;exact EO (v:=.tuple #[(),false,false]) (by simp[results,results108,go_sem]) rfl (HP _ HB1)
 |some d=>
  rw[hx] at HG HF;have hF:fileOf Aa A name=Aa.Cm name d:=HF.out;have NK:d.length≤1000000:=by rw[hx] at hs;exact hs
  have HR:=Hi (fun(W:World)=>atM name d W NK);have QR:=Hi (show(Ah.get A name).isSome=true from by rw[hx];rfl);clear HF hs hx;cases hr:Aa.Cm name d with
  |none=>
   rw[hr] at HR hF;have HP:=Hi (show ∀ W',Bw w W'→QY Aa w A name (.returned (.tuple #[(),true,false])) W' from fun W' hb=>⟨none,0,by rw[hF,QR.out];rfl,by rw[hF];exact Xi _ _,fun _=>rfl,hb⟩);clear hF hr QR
   go_in
   go_wp2_with fail;refine HG.mono ?_;rintro e w1⟨rfl,Ak⟩;have HB1:=Hi Ak;clear Ak;go_wp2_with fail;refine(HR _).mono ?_;rintro e w2⟨rfl,Ac⟩;have Aj:=bH HB1 Ac;clear Ac;go_wp2_with fail;exact EO (v:=.tuple #[(),true,false]) (by simp[results,results108,go_sem]) rfl (HP _ Aj)
  |some l=>
   rw[hr] at HR hF;have HP:=Hi (show ∀ (W':World) (q:Option Addr) (cap:Nat),BK W' w.heap.size (.slice q l.length cap) l→(q=none→cap=0)→Bw w W'→QY Aa w A name (.returned (.tuple #[.slice q l.length cap,true,true])) W' from fun W' q cap h1 h2 hb=>⟨q,cap,by rw[hF,QR.out];rfl,by rw[hF];exact h1,h2,hb⟩);clear hF hr QR
   go_in
   go_wp2_with fail;refine HG.mono ?_;rintro e w1⟨rfl,Ak⟩;have HB1:=Hi Ak;clear Ak;go_wp2_with fail;refine(HR _).mono ?_;rintro e w2⟨q,cap,rfl,Af,Hr,Ac⟩;have Aj:=bH HB1 Ac;have HW:=Hi (EM Af HB1.size);clear Ac Af;go_wp2_with fail;exact EO (v:=.tuple #[.slice q l.length cap,true,true]) (by simp[results,results108,go_sem]) rfl (HP _ _ _ HW Hr Aj)
theorem ahF{w:World}{p y:Nat}{c:Int}{P:World→World→Prop}(hm:Fj w p y)(hf:Calls prog 175 #[y] w fun e w'=>e=.returned (.int .i64 c)∧P w w'):
  Calls prog 104 #[p] w fun e w'=>e=.returned (.int .i64 c)∧P w w':=by
 have c0:=hm.cell;have HF:=Hi hf;clear hf hm
 go_in
 go_wp2_with fail;refine HF.mono ?_;rintro e w1⟨rfl,Ak⟩;go_wp2;go_ret;exact⟨rfl,Ak⟩
end Ci
namespace Ci
open Go.RowKit Go.Maps
open Aw Ah Aq Bu Kp Bz Hex BH Al Mem
theorem aaJ(p:Nat)(w:World):
  Calls prog 123 #[p] w fun e w'=>e=.returned (.func (.func 201) #[] #[.pointer w.heap.size])∧w'=w.alloc (.cells #[p] 44):=by
 go_in
 go_wp2;go_ret;exact⟨rfl,rfl⟩
theorem aaI(n:Nat)(hn:1≤n){w:World}{p y:Nat}{A:M}(hm:Fj w p y)(hf:Hf w y A)(oc Bx:Nat){J:Nat→List T→World→Prop}(hJ:XU w oc J)(w1:World):
  XV n prog 201 #[.pointer Bx] su (OL w oc Bx (.pointer p) 44 Aa A J) (UB w oc Bx (.pointer p) 44 Aa A J) (fun xs=>xs.map (·.name)=Il Aa A) w1:=by
 intro l Bk W Vb hY hW h0 KQ;have kV:Bw w W∧w.heap.size≤oc∧oc < Bx∧W.heap[Bx]?=some (.cells #[p] 44)∧∃ B,B≤W.heap.size∧J B [] W:=by
  rcases h0 with⟨-,h⟩|⟨B0,q0,c0,g1,-,g2,g3⟩
  ·exact h
  ·exact⟨g1.AR,g1.low,g1.lt,g1.box,B0,g1.size,g3⟩
 obtain⟨g1,g2,g3,g4,B0,g5,g6⟩:=kV;clear h0;have JG:W.cell? Bx=some (.pointer p):=cr g4;have Vn:=(hm.below g1).cell;have Iw:=Hi (hf.names W g1);have G1:=Hi g1;have G2:=Hi g2;have G3:=Hi g3;have G4:=Hi g4;have G5:=Hi g5;have G6:=Hi g6;have XG:=Hi KQ;have Sc:=Hi Vb;have HJ:=Hi hJ;have HM:=Hi hm;have HF:=Hi hf;have hlen:=hf.len;clear g1 g2 g3 g4 g5 g6 KQ Vb hJ hm hf;refine callsIn_of_wp func201 rfl trivial ?_ rfl;simp only[ntmps201,Kz,BM,IV,Nat.reduceAdd,Nat.reduceSub,Nj,Nk,Nq,Nn,EE,I5]
 gi_wp2
 refine⟨trivial,(DK.2 Iw).mono ?_⟩;rintro e w2⟨v,rfl,Af,Ac,hown⟩;have Aj:=bH G1 Ac;have lL:Bk w2:=Sc _ _ XG (Vy (ub Ac) (fun _ _ f=>f.elim));have Rl:J w2.heap.size [] w2:=HJ.raise _ _ _ (HJ.below _ _ _ _ G6 Ac) (Ay G5 Ac.size) (Ag _);obtain⟨q,c,rfl⟩:∃ q c,v=.slice q (A.map (·.1)).length c:=by
  rw[Ca];exact Bp Af
 have Yg:MI w oc Bx w2.heap.size (.pointer p) 44 q c (A.map (·.1)) w2:=⟨Aj,G2,G3,Ip (Ao G4) Ac.size,Ag _,(Ac.block _ (Ao G4)).trans G4,by rw[Ca] at Af ⊢;exact Af,fun k hk=>⟨Ip (Nat.lt_trans G3 (Ao G4)) (hown k hk),by
  obtain⟨cs,fz,h⟩:=Cx Af hk;exact Ao h⟩⟩
 have Tx:=Hi Yg;have Zw:=Hi Rl;have jl:=Hi lL;generalize w2.heap.size=B at*;clear Yg Rl lL Af Ac hown Iw G1 G2 G3 G4 G5 G6 XG;have Zz:=Hi (show ∀ t∈A.map (·.1),t.length≤1000 from fun t ht=>HF.short t ht);have EA:((A.map (·.1)).length:Int)=(A.length:Int):=by rw[Ca]
 gi_wp2
 gi_loopw [16] (fun i wr=>pF w oc Bx B (.pointer p) 44 q c Aa A J Bk i wr) (fun i _=>A.length -(intOf i).toNat)
 case atStart=>exact⟨0,[],AV _,rfl,Tx,fun z hz=>by simp at hz,rfl,Zw,jl⟩
 case round=>
  obtain⟨k,xs,hk,rfl,h1,mf,h2,h3,h4⟩:=hrel;have Zt:=Hi mf;have H1:=Hi h1;have H2:=Hi h2;have H3:=Hi h3;have H4:=Hi h4;clear h2 h3 h4 mf Tx Zw jl;by_cases hlt:k < A.length
  ·have U8:k < (A.map (·.1)).length:=(by rw[Ca];exact hlt);obtain⟨a,Cn,c0⟩:=(Hd (c:=c) h1.row).index c k U8;simp only[Ca] at Cn;have IJ:∀ t∈A.map (·.1),t.length≤1000:=Zz.out;have LJ:=IJ _ (CK U8);have CL:=Hi (vZ (f:=Aa.ours) U8);have TI:=Hi (aih (f:=Aa.ours) U8);generalize (A.map (·.1))[k]=name at*;have HO:=Hi (atL name wr (by omega));clear IJ;have av:wr.cell? Bx=some (.pointer p):=cr h1.box;have Qj:=h1.AR;have AP:=Hi Qj;clear h1 Qj
   gi_wp2
   refine⟨trivial,(DK.2 HO).mono ?_⟩;rintro e w3⟨rfl,Av⟩;have abZ:w3.cell? Bx=some (.pointer p):=(Av.cell (Cv av)).trans av;have K7:=Hi (H1.below Av);have jI:=Hi (HJ.below _ _ _ _ H3 Av);have PW:=Hi (Sc _ _ H4 (Vy (ub Av) (fun _ _ f=>f.elim)));clear Av Cn c0 HO av;cases Ub:Aa.ours name with
   |false=>
    have HX:=Hi (show xs.map (·.name)=((A.map (·.1)).take (k+1)).filter Aa.ours from by rw[CL.out,Ub,H2.out];simp);clear CL TI Ub
    gi_wp2
    go_roundw
    case rel=>exact⟨k+1,xs,by omega,by go_num,K7,Zt,HX,jI,PW⟩
    case measure=>
     show A.length -((k:Int)+1).toNat < A.length -((k:Int)).toNat
     omega
   |true=>
    have HX:=Hi (show xs.map (·.name)++[name]=((A.map (·.1)).take (k+1)).filter Aa.ours from by rw[CL.out,Ub,H2.out];simp);have zF:=Hi (show xs.map (·.name)++name :: ((A.map (·.1)).drop (k+1)).filter Aa.ours=Il Aa A from by rw[H2.out];exact TI Ub);have Fx:=Hi (rY (HM.below (K7.AR)) (HF.abh K7.AR) name LJ);clear CL TI Ub
    gi_wp2
    refine⟨trivial,(DK.2 Fx).mono ?_⟩;rintro e w4⟨q2,c2,rfl,Af,Hr,AB⟩;have ZH:=Hi (K7.below AB);have yS:=Hi (HJ.below _ _ _ _ jI AB);have OT:=Hi (Sc _ _ PW (Vy (ub AB) (fun _ _ f=>f.elim)));obtain⟨x,Hu,FV,Ul,Xb,Xa⟩:∃ x:Gz,x.name=name∧x.row=.slice q2 ((fileOf Aa A name).getD []).length c2∧x.B=B∧x.q=q∧x.c=c:=⟨⟨name,_,B,q,c⟩,rfl,rfl,rfl,rfl,rfl⟩;have Yx:UB w oc Bx (.pointer p) 44 Aa A J xs x w4:=⟨by rw[Ul,Xb,Xa];exact ZH.out,by rw[Ul,Xb,Xa];exact Zt.out,⟨_,by rw[Hu];exact zF.out⟩,by rw[Ul];exact yS.out,⟨q2,c2,by rw[Hu];exact FV,by rw[Hu];exact Bg.CR Af,Hr,by rw[Hu];exact anP Af⟩⟩;obtain⟨fn,tmps,assign,body,hy,hR⟩:=hY xs _ w4 Yx OT.out;have HR:=Hi hR;unfold su at hy;rw[Hu,FV] at hy;have zQ:=Hi (show(xs++[x]).map (·.name)=((A.map (·.1)).take (k+1)).filter Aa.ours from by rw[CQ,List.map_singleton,Hu];exact HX.out);have zU:=Hi (show x.B=B∧x.q=q∧x.c=c from⟨Ul,Xb,Xa⟩);have jZ:=Hi (show x∈xs++[x] from by simp);generalize (xs++[x])=xs2 at*;clear Hu FV Ul Xb Xa hR Yx Af AB abZ;generalize ((fileOf Aa A name).getD []).length=ln at*
    gi_wp2
    refine HR.mono ?_;rintro e w5⟨rfl,h5,h6⟩
    have CJ:=Hi (show pF w oc Bx B (.pointer p) 44 q c Aa A J Bk (.int .i64 ((k:Int)+1)) w5 from by
     rcases h5 with⟨e,-⟩|⟨B',q',c',k1,k2,k3,k4⟩
     ·have:=jZ.out;rw[e] at this;simp at this
     ·obtain⟨e1,e2,e3⟩:=k2 _ jZ;obtain⟨f1,f2,f3⟩:=zU.out;obtain rfl:B'=B:=e1.symm.trans f1;obtain rfl:q'=q:=e2.symm.trans f2;obtain rfl:c'=c:=e3.symm.trans f3;exact⟨k+1,xs2,by omega,by go_num,k1,k2,zQ,k4,h6⟩)
    clear h5 h6 hy HR
    gi_wp2
    go_roundw
    case rel=>exact CJ.out
    case measure=>
     show A.length -((k:Int)+1).toNat < A.length -((k:Int)).toNat
     omega
  ·obtain rfl:k=A.length:=by omega
   have HE:=Hi (show xs.map (·.name)=Il Aa A from by
    rw[H2.out,Gx (by rw[Ca];exact Ag _)];rfl)
   clear h1
   gi_wp2
   go_end0
   exact⟨⟨_,rfl⟩,xs,HE,.inr ⟨B,q,c,H1,Zt,⟨[],by rw[Eg,HE.out]⟩,H3⟩,H4.out⟩
theorem wX(w:World)(base:Nat):Aq.Bt w base ↑() []:=by unfold Aq.Bt;rw[ME];exact DZ _ _ _ _
theorem aoD{w:World}{base:Nat}{e:TypeId}{s n:Nat}{v:Value}{cs:List Value}(h:w.ownsRow 0 e s v n cs)(hg:∀ g,v.ownBlock=some g→base≤g):w.ownsRow base e s v n cs:=by
 refine⟨h.1,?_⟩;rcases h.2 with h|⟨g,cap,cur,k1,k2,k3⟩
 ·exact .inl h
 ·exact .inr ⟨g,cap,cur,k1,hg g (by rw[k1];rfl),k3⟩
def Mc(A:M)(run:T):List T×Bool×Int:=if(Ah.get A (Aa.nm run)).isSome=true∧(fileOf Aa A (Aa.nm run)).isSome=false then([],false,50) else match BU Aa A run with
 |some v=>((Dv v).getD [],true,0)
 |none=>([],false,0)
theorem avu(A:M)(key:T)(h1:(Ah.get A (Aa.nm key)).isSome=true)(h2:(fileOf Aa A (Aa.nm key)).isSome=false):Mc A key=([],false,50):=Ae ⟨h1,h2⟩
theorem avv(A:M)(key:T)(h:¬ ((Ah.get A (Aa.nm key)).isSome=true∧(fileOf Aa A (Aa.nm key)).isSome=false)):Mc A key=match Ah.get ((fileOf Aa A (Aa.nm key)).getD []) key with
 |some v=>((Dv v).getD [],true,0)
 |none=>([],false,0):=by unfold Mc;rw[A9 h,oP]
theorem kH(key:T):(Aa.nm key).length=17:=Gf.len key
theorem ahQ(p:T×T)(w:World)(hp:p.2.length≤65535):Calls prog 125 #[.agg #[p.1,p.2]] w fun e w'=>∃ v,e=.returned v∧Aq.Bt w' w.heap.size v ((Dv p.2).getD [])∧Bw w w':=by
 have HR:=Hi (fun(W:World)=>nZ p.2 W (by omega));have Ar:=Hi (AQ w (.cells #[p.1,p.2] 51));unfold Go.Proofs.YtkmninbcgipliaaGreatDoor.MR at HR;cases hr:Dv p.2 with
 |none=>
  simp only[hr] at HR;clear hr
  go_in
  go_wp2_with fail;refine(HR _).mono ?_;rintro e w1⟨rfl,hb⟩;have HB:=bH Ar hb;clear hb;go_wp2;go_ret;exact⟨_,rfl,wX _ _,HB⟩
 |some l=>
  simp only[hr] at HR;clear hr
  go_in
  go_wp2_with fail;refine(HR _).mono ?_;rintro e w1⟨v,rfl,Af,hb,hg⟩;obtain⟨q,c,rfl⟩:=Bp Af;have HB:=bH Ar hb;have Wh:=Hi (aoD (base:=w.heap.size) Af (fun g Rj=>Ay Ar.size (hg g Rj)));clear hb Af hg;go_wp2;go_ret;exact⟨_,rfl,Wh,HB⟩
theorem ahK{w:World}{p y:Nat}{A:M}(hm:Fj w p y)(hg:Aq.PO w y A)(key:T)(hk:key.length≤1000000):
  Calls prog 47 #[p,key] w fun e w'=>∃ v,e=.returned (.tuple #[v,.bool (Mc A key).2.1,.int .i64 (Mc A key).2.2])∧Aq.Bt w' w.heap.size v (Mc A key).1∧Bw w w':=by
 have HN:=Hi (rX key w hk);have HO:=Hi (fun(W:World) (hW:Bw w W)=>rY (hm.below hW) (Y8 hg hW) (Aa.nm key) (by rw[kH];decide));have HV:=Hi (avv A key);have HB:=Hi (avu A key);obtain⟨hl,hsh⟩:=@eQ Aa A (Aa.nm key);unfold QY at HO;clear hm hg;generalize (fileOf Aa A (Aa.nm key)).getD []=l at*;generalize (fileOf Aa A (Aa.nm key)).isSome=good at*;generalize (Ah.get A (Aa.nm key)).isSome=Xe at*;generalize Mc A key=V at*;generalize Aa.nm key=name at*;by_cases KL:Xe=true∧good=false
 ·obtain⟨rfl,rfl⟩:=KL;have hV:=HB rfl rfl;clear HB HV;subst hV
  go_in
  go_wp2_with fail;refine HN.mono ?_;rintro e w1⟨rfl,Ak⟩;have HB1:=Hi Ak;clear Ak;go_wp2_with fail;refine(HO _ HB1).mono ?_;rintro e w2⟨q,cap,rfl,Af,Hr,Ac⟩;have Aj:=bH HB1 Ac;clear Ac Af;go_wp2_with fail;exact EO (v:=.tuple #[(),false,.int .i64 50]) (by simp[results,results47,go_sem]) rfl ⟨_,rfl,wX _ _,Aj⟩
 ·have P7:=Hi (HV KL);clear HB HV;have DV:Xe=false∨(Xe=true∧good=true):=by
   cases Xe<;>cases good<;>simp_all
  clear KL;rcases DV with rfl|⟨rfl,rfl⟩
  all_goals
   go_in
   go_wp2_with fail;refine HN.mono ?_;rintro e w1⟨rfl,Ak⟩;have HB1:=Hi Ak;clear Ak;go_wp2_with fail;refine(HO _ HB1).mono ?_;rintro e w2⟨q,cap,rfl,Af,Hr,Ac⟩;have Aj:=bH HB1 Ac;have HP:=Hi (Bg.CR Af);clear Ac Af;go_wp2
   go_loopw [11,29] (fun _ i wr=>pJ w q cap l key i wr) (fun _ i _=>l.length -(intOf i).toNat)
   case atStart=>exact⟨0,AV _,rfl,Aj,HP,rfl⟩
   case round=>
    obtain⟨k,E9,rfl,hb,hp,LG⟩:=hrel;have Au:=Hi hb;have ZB:=Hi hp;have HG:=Hi LG;clear Aj HP hb LG;by_cases hlt:k < l.length
    ·obtain⟨a,Cn,ha,-⟩:=hp.index cap k hlt;have c0:=ha.key;have c1:=ha.val;have HD:=Hi (HG.trans (aiW hlt key));have vw:=(hsh _ (CK hlt)).2;generalize l[k]=x at*;clear ha hp;by_cases heq:x.1=key
     ·have hV:=P7.out;rw[HD.out,Ae heq] at hV;subst hV;obtain⟨xk,xv⟩:=x;have heq:xk=key:=heq;subst heq;have aU:(xk == xk)=true:=beq_self_eq_true xk;have dC:=Hi (fun(W:World)=>ahQ (xk,xv) W vw);have c0:wr.cell? a=some ↑xk:=c0;have c1:wr.cell? ⟨a.block,a.off+1,none⟩=some ↑xv:=c1;have ay7:=Au.size;go_wp2_with fail;refine(dC _).mono ?_;rintro e w5⟨kv,rfl,CX,Bl⟩;obtain⟨kq,kc,rfl⟩:=Bp CX;have JW:=Hi (EM CX (by rw[Az];omega:w.heap.size≤(wr.alloc _).heap.size));have Cj:=Hi ((Au.alloc Au.size _).trans (Bl.mono (by rw[Az];omega)));clear CX Bl;go_wp2_with fail;exact EO (v:=.tuple #[.slice kq ((Dv xv).getD []).length kc,true,.int .i64 0]) (by simp[results,results47,go_sem]) rfl ⟨_,rfl,JW,Cj⟩
     ·have aU:(x.1 == key)=false:=Ev.2 heq;have O5:=Hi (HD.trans (A9 heq));go_wp2;go_roundw
      case rel=>
       have Iz:=Hi (show ∀ o,pJ w q cap l key (.int .i64 ((k:Int)+1)) (wr.alloc o) from fun o=>⟨k+1,by omega,by go_num,Au.alloc Au.size o,ZB.below (AQ wr o),O5⟩)
       first
       |exact Iz _
       |(repeat apply Exists.intro
         refine⟨?_,rfl⟩;exact Iz _)
      case measure=>
       show l.length -((k:Int)+1).toNat < l.length -((k:Int)).toNat
       omega
    ·obtain rfl:k=l.length:=(by omega);have hV:=P7.out;rw[HG.out,List.drop_length] at hV;have hV:V=([],false,0):=hV;subst hV;clear hp;go_wp2_with fail;exact EO (v:=.tuple #[(),false,.int .i64 0]) (by simp[results,results47,go_sem]) rfl ⟨_,rfl,wX _ _,Au⟩
end Ci
namespace Bu
open Go.RowKit Go.Maps
open Ah Aq
def jc(K:World→Prop)(v:Value)(f:T×T→Bool):Prop:=
 ∃ F recv Ka,v=.func (.func F) recv Ka∧(∀ args w,(callFunc F args).run prog w=.ok (.enter F args) w)∧
  ∀ W p,K W→Calls prog F (recv++ #[.agg #[p.1,p.2]]++Ka) W (Rt W (.bool (f p)))
def Um(f:T×T→Bool)(l:M):Int:=match l.findIdx? f with
 |some i=>(i:Int)
 |none=> -1
theorem ayv{f:T×T→Bool}{l:M}{k:Nat}(hk:k < l.length)(h:f l[k]=true)(hn:∀ j (hj:j < k),f (l[j]'(by omega))=false):Um f l=(k:Int):=by
 have:l.findIdx? f=some k:=List.findIdx?_eq_some_iff_getElem.2 ⟨hk,h,fun j hj=>by rw[hn j hj];decide⟩;unfold Um;rw[this]
theorem ayu{f:T×T→Bool}{l:M}(hn:∀ j (hj:j < l.length),f l[j]=false):Um f l= -1:=by
 have:l.findIdx? f=none:=List.findIdx?_eq_none_iff.2 fun x hx=>by
  obtain⟨i,hi,rfl⟩:=Tp hx;exact hn i hi
 unfold Um;rw[this]
theorem ayt(f:T×T→Bool)(l:M):(Um f l= -1∧l.filter (fun x=>!f x)=l)∨∃ k,∃ hk:k < l.length,Um f l=(k:Int)∧f l[k]=true∧∀ j (hj:j < k),f (l[j]'(by omega))=false:=by
 unfold Um;cases h:l.findIdx? f with
 |none=>
  refine .inl ⟨rfl,List.filter_eq_self.2 fun x hx=>?_⟩;rw[List.findIdx?_eq_none_iff.1 h x hx];rfl
 |some k=>
  obtain⟨hk,h1,h2⟩:=List.findIdx?_eq_some_iff_getElem.1 h;exact .inr ⟨k,hk,rfl,h1,fun j hj=>by simpa using h2 j hj⟩
theorem anM{w:World}{K:World→Prop}{v:Value}{f:T×T→Bool}{a:Option Addr}{l:M}(cap:Nat)(hl:Bg w a l)(hf:jc K v f)(hK:∀ W,Bw w W→K W)(hlen:l.length≤1000000000):
  Calls prog 176 #[.slice a l.length cap,v] w (Rt w (.int .i64 (Um f l))):=by
 obtain⟨F,recv,Ka,rfl,Ol,KO⟩:=hf;have HL:=Hi hl;have HC:=Hi KO;have HK:=Hi hK;clear hl KO hK
 go_in
 go_wp2
 go_loopw [5,8] (fun _ i wr=>∃ k:Nat,k≤l.length∧i=.int .i64 k∧Bw w wr∧∀ j (hj:j < k),(h:j < l.length)→f l[j]=false) (fun _ i _=>l.length -(intOf i).toNat)
 case atStart=>exact⟨0,AV _,rfl,Ai _ _,fun j hj=>by omega⟩
 case round=>
  obtain⟨k,hk,rfl,hb,CP⟩:=hrel;have DU:=Hi CP;have HB:=Hi hb;clear CP;by_cases hlt:k < l.length
  ·obtain⟨q,Cn,hq,-⟩:=(HL.below hb).index cap k hlt;have c0:=hq.key;have c1:=hq.val;have BQ:=HC wr l[k] (HK wr hb);have TE:=Hi (show f l[k]=true→Um f l=(k:Int) from fun h=>ayv hlt h (fun j hj=>DU j hj (by omega)))
   have CW:=Hi (show f l[k]=false→∀ j (hj:j < k+1),(h:j < l.length)→f l[j]=false from fun h j hj h'=>by
    by_cases e:j=k
    ·subst e;exact h
    ·exact DU j (by omega) h')
   generalize l[k]=x at*;have ES:=Hi BQ;clear BQ hq hb;go_wp2_with fail;refine ES.mono ?_;rintro e w1⟨rfl,Ak⟩;have HB1:=bH HB Ak;generalize f x=s at*;clear Ak;cases s with
   |true=>
    have jG:=Hi (TE rfl);clear TE CW;go_wp2;go_ret;exact⟨by rw[jG.out];rfl,HB1⟩
   |false=>
    have HN:=Hi (CW rfl);clear TE CW;go_wp2;go_roundw
    case rel=>exact⟨k+1,by omega,by go_num,HB1,HN⟩
    case measure=>simp[intOf];omega
  ·obtain rfl:k=l.length:=(by omega);have HN:=Hi (show Um f l= -1 from ayu (fun j hj=>DU j hj hj));clear hb;go_wp2;go_ret;exact⟨by rw[HN.out];rfl,HB⟩
theorem aBL(w:World)(ty:TypeId)(b o n c:Nat)(hn:0 < n)(hc:∀ j,j < n*2→(w.cell? ⟨b,o+j,none⟩).isSome=true)(hf:∀ j,j < n*2→w.frozen? ⟨b,o+j,none⟩=false):
  (Builtin.clear_ #[30] ty #[.slice (some ⟨b,o,none⟩) n c]).run prog w=.ok (.tuple #[]) (w.setCells b o (List.replicate (n*2) (.string ByteArray.empty))):=by
 have hzc:(Builtin.zeroCells (Value.agg #[.string ByteArray.empty,.string ByteArray.empty]).cells n).toList=List.replicate (n*2) (.string ByteArray.empty):=by
  simp[Builtin.zeroCells,Value.cells];apply List.ext_getElem
  ·simp
  ·intro i h1 h2;simp;rcases Nat.mod_two_eq_zero_or_one i with e|e<;>simp[e]
 have Bj:=run_storeCells_cells (P:=prog) b o (List.replicate (n*2) (.string ByteArray.empty)) 0 w (by simpa using hc) (by simpa using hf) (by intro v Kj;rw[List.eq_of_mem_replicate Kj];rfl);simp only[Nat.add_zero] at Bj;obtain⟨m,rfl⟩:∃ m,n=m+1:=⟨n -1,by omega⟩;have ayl:(Builtin.zeroCells (Value.agg #[.string { data:=#[] },.string { data:=#[] }]).cells (m+1)).toList=List.replicate ((m+1)*2) (.string ByteArray.empty):=hzc;simp[Builtin.clear_,He underlying30,Tryz.zeroValue51];rw[ayl,Bj];rfl
theorem aCc(C:Array Value)(a:Nat)(x y:Value)(t:Nat)(ha:a+1 < C.size):((C.setIfInBounds a x).setIfInBounds (a+1) y)[t]?=if t=a+1 then some y else if t=a then some x else C[t]? :=by
 rw[Array.getElem?_setIfInBounds];by_cases e1:a+1=t
 ·subst e1;rw[Ae rfl,Ae rfl,Ae (by rw[Array.size_setIfInBounds];exact ha)]
 ·have e1':¬ t=a+1:=fun h=>e1 h.symm
  rw[A9 e1,A9 e1',Array.getElem?_setIfInBounds];by_cases e2:a=t
  ·subst e2;rw[Ae rfl,Ae rfl,Ae (by omega)]
  ·have e2':¬ t=a:=fun h=>e2 h.symm
   rw[A9 e2,A9 e2']
structure O9(w wr:World)(g cap:Nat)(f:T×T→Bool)(l:M)(i j:Nat):Prop where
 upd:A7 (fun k=>k=g) w wr
 blk:∃ cur,wr.heap[g]?=some (.cells cur 51 (0,0))∧cur.size=cap*2
 kept:i=((l.take j).filter (fun x=>!f x)).length
 front:∀ t (h:t < ((l.take j).filter (fun x=>!f x)).length),Qd wr ⟨g,t*2,none⟩ (((l.take j).filter (fun x=>!f x))[t])
 back:∀ t,j≤t→(h:t < l.length)→Qd wr ⟨g,t*2,none⟩ l[t]
 lt:i < j
 le:j≤l.length
 cap:l.length≤cap
theorem anJ{f:T×T→Bool}{l:M}{j:Nat}(h:j < l.length)(hf:f l[j]=true):(l.take (j+1)).filter (fun x=>!f x)=(l.take j).filter (fun x=>!f x):=by
 rw[Cr h,IQ];simp[hf]
theorem aAo{f:T×T→Bool}{l:M}{j:Nat}(h:j < l.length)(hf:f l[j]=false):(l.take (j+1)).filter (fun x=>!f x)=(l.take j).filter (fun x=>!f x)++[l[j]]:=by
 rw[Cr h,IQ];simp[hf]
section
variable {w wr wr':World}{g cap:Nat}{f:T×T→Bool}{l:M}{i j:Nat}
theorem O9.below(h:O9 w wr g cap f l i j)(hb:Bw wr wr'):O9 w wr' g cap f l i j:=by
 obtain⟨cur,hc,hs⟩:=h.blk;exact⟨h.upd.trans (ub hb) (fun _ f=>f.elim),⟨cur,(hb.block g (Ao hc)).trans hc,hs⟩,h.kept,fun t ht=>(h.front t ht).upd (ub hb) (fun f=>f),fun t ht hl=>(h.back t ht hl).upd (ub hb) (fun f=>f),h.lt,h.le,h.cap⟩
theorem O9.strike(h:O9 w wr g cap f l i j)(hj:j < l.length)(hf:f l[j]=true):O9 w wr g cap f l i (j+1):=by
 have e:=anJ hj hf;exact⟨h.upd,h.blk,by rw[e];exact h.kept,fun t ht=>by simp only[e];exact h.front t (by rw[e] at ht;exact ht),fun t ht hl=>h.back t (by omega) hl,by have:=h.lt;omega,hj,h.cap⟩
theorem O9.keep(h:O9 w wr g cap f l i j)(hj:j < l.length)(hf:f l[j]=false):O9 w ((wr.setCell ⟨g,i*2,none⟩ ↑l[j].1).setCell ⟨g,i*2+1,none⟩ ↑l[j].2) g cap f l (i+1) (j+1):=by
 have e:=aAo hj hf;obtain⟨cur,hb,hs⟩:=h.blk;have hlt:=h.lt;have hle:=h.le;have hcp:=h.cap;have axZ:=Cs wr g (i*2) _ _ ↑l[j].1 hb;have JN:=Cs _ g (i*2+1) _ _ ↑l[j].2 axZ;have Gh:∀ t,((wr.setCell ⟨g,i*2,none⟩ ↑l[j].1).setCell ⟨g,i*2+1,none⟩ ↑l[j].2).cell? ⟨g,t,none⟩=if t=i*2+1 then some ↑l[j].2 else if t=i*2 then some ↑l[j].1 else wr.cell? ⟨g,t,none⟩:=fun t=>by
  rw[BJ _ g _ _ _ _ JN,BJ _ g _ _ _ _ hb];exact aCc cur (i*2) _ _ t (by omega)
 have hk:=h.kept;have stay:∀ t (p:T×T),t≠i→Qd wr ⟨g,t*2,none⟩ p→Qd ((wr.setCell ⟨g,i*2,none⟩ ↑l[j].1).setCell ⟨g,i*2+1,none⟩ ↑l[j].2) ⟨g,t*2,none⟩ p:=fun t p hne hp=>
  ⟨by rw[Gh,A9 (by omega),A9 (by omega)];exact hp.key,by show World.cell? _ ⟨g,t*2+1,none⟩=_;rw[Gh,A9 (by omega),A9 (by omega)];exact hp.val⟩
 refine⟨(h.upd.setCell (p:=⟨g,i*2,none⟩) (.inl rfl) _).setCell (p:=⟨g,i*2+1,none⟩) (.inl rfl) _,⟨_,JN,by rw[Array.size_setIfInBounds,Array.size_setIfInBounds];exact hs⟩,by rw[e,AA];simp;omega,fun t ht=>?_,fun t ht hl=>stay t _ (by omega) (h.back t (by omega) hl),by omega,hj,hcp⟩;simp only[e];rw[e,AA] at ht;simp only[BM,IV] at ht;by_cases ht2:t=i
 ·subst ht2;rw[Xv (by omega)];simp only[hk,Nat.sub_self,List.getElem_cons_zero];rw[←hk];exact⟨by rw[Gh,A9 (by omega),Ae rfl],by show World.cell? _ ⟨g,t*2+1,none⟩=_;rw[Gh,Ae rfl]⟩
 ·rw[Uz (by omega)];exact stay t _ ht2 (h.front t (by omega))
theorem O9.cells(h:O9 w wr g cap f l i j):(∀ t,t < cap*2→(wr.cell? ⟨g,t,none⟩).isSome=true)∧∀ t,wr.frozen? ⟨g,t,none⟩=false:=by
 obtain⟨cur,hb,hs⟩:=h.blk;refine⟨fun t ht=>?_,fun t=>CG wr g t _ _ hb⟩;rw[BJ wr g _ _ _ _ hb,Xu (by omega)];rfl
end
theorem aoW(b:Nat):∀ (vs:List Value) (o:Nat) (w:World) (cur:Array Value),w.heap[b]?=some (.cells cur 51 (0,0))→∃ cur',(w.setCells b o vs).heap[b]?=some (.cells cur' 51 (0,0))∧cur'.size=cur.size
 |[],_,_,cur,h=>⟨cur,h,rfl⟩
 |v :: r,o,w,cur,h=>by
  obtain⟨c2,h2,s2⟩:=aoW b r (o+1) (w.setCell ⟨b,o,none⟩ v) (cur.setIfInBounds o v) (Cs w b o _ _ v h);exact⟨c2,h2,by rw[s2,Array.size_setIfInBounds]⟩
theorem aAm{w:World}{g cap:Nat}{f:T×T→Bool}{l:M}{k:Nat}(hb:∃ cur,w.heap[g]?=some (.cells cur 51 (0,0))∧cur.size=cap*2)(hl:∀ t,(h:t < l.length)→Qd w ⟨g,t*2,none⟩ l[t])(hc:l.length≤cap)(hk:k < l.length)(hf:f l[k]=true)(hn:∀ j (hj:j < k),f (l[j]'(by omega))=false):O9 w w g cap f l k (k+1):=by
 have e0:(l.take k).filter (fun x=>!f x)=l.take k:=List.filter_eq_self.2 fun x hx=>by
  obtain⟨i,hi,rfl⟩:=Tp hx;rw[Bc] at hi;rw[List.getElem_take,hn i (by omega)];rfl
 have e:=(anJ hk hf).trans e0;refine⟨A7.refl _ _,hb,by rw[e,Bc];omega,fun t ht=>?_,fun t ht h=>hl t h,by omega,hk,hc⟩;simp only[e];rw[e,Bc] at ht;rw[List.getElem_take];exact hl t (by omega)
theorem aAx{w:World}{base:Nat}{g n cap:Nat}{l:M}(h:BK w base (.slice g n cap) l)(t:Nat)(ht:t < l.length):Qd w ⟨g,t*2,none⟩ l[t]:=by
 obtain⟨p,e,hp⟩:=(Bg.CR h) t ht;cases e;rwa[add_plain] at hp
theorem aAw{w:World}{base g cap:Nat}{cur:Array Value}{l:M}(hg:w.heap[g]?=some (.cells cur 51 (0,0)))(hs:cur.size=cap*2)(hb:base≤g)(hc:l.length≤cap)(hm:cap≤maxLen)(hl:∀ t,(h:t < l.length)→Qd w ⟨g,t*2,none⟩ l[t]):BK w base (.slice g l.length cap) l:=by
 refine⟨eP l,.inr ⟨g,cap,cur,rfl,hb,hg,hc,hm,hs,?_⟩⟩;apply List.ext_getElem?;intro j;by_cases hj:j < l.length*2
 ·obtain⟨i,r,hr,rfl⟩:∃ i r,r < 2∧j=i*2+r:=⟨j / 2,j % 2,by omega,by omega⟩;have hi:i < l.length:=by omega
  rw[sF l i hi r hr,List.getElem?_take,Ae (by omega),Dx];have hp:=hl i hi;have h0:=hp.key;have h1:=hp.val;rw[BJ w g _ _ _ _ hg] at h0;have ZY:w.cell? ⟨g,i*2+1,none⟩=some ↑l[i].2:=h1;rw[BJ w g _ _ _ _ hg] at ZY
  match r,hr with
  |0,_=>simpa using h0
  |1,_=>simpa using ZY
 ·rw[List.getElem?_eq_none (by rw[Bc];omega),List.getElem?_eq_none (by rw[eP];omega)]
theorem aAn{w:World}{base g cap:Nat}{K:World→Prop}{v:Value}{f:T×T→Bool}{l:M}(h:BK w base (.slice g l.length cap) l)(hf:jc K v f)(hK:∀ W,A7 (fun k=>k=g) w W→K W)(hlen:l.length≤1000000):
  Calls prog 94 #[.slice g l.length cap,v] w fun e w'=>
   e=.returned (.slice g (l.filter fun x=>!f x).length cap)∧BK w' base (.slice g (l.filter fun x=>!f x).length cap) (l.filter fun x=>!f x)∧A7 (fun k=>k=g) w w':=by
 have Af:=h;obtain⟨cur,Om,Ps,BQ,Qo,DV⟩:∃ cur,base≤g∧w.heap[g]?=some (.cells cur 51 (0,0))∧l.length≤cap∧cap≤maxLen∧cur.size=cap*2:=by
  rcases h.2 with⟨e1,_⟩|⟨g',cap',cur,e1,h1,h2,h3,h4,h5,_⟩
  ·cases e1
  ·injection e1 with e2 _ e3
   injection e2 with e4
   injection e4 with e5
   subst e5;subst e3;exact⟨cur,h1,h2,h3,h4,h5⟩
 have hat:=Bg.CR h;have HI:=Hi (anM cap hat hf (fun W hb=>hK W (A7.of_below hb)) (by omega));obtain⟨F,recv,Ka,rfl,Ol,KO⟩:=hf;rcases ayt f l with⟨e1,e2⟩|⟨k0,KQ,e1,e2,e3⟩
 ·rw[e1] at HI;have HR:=Hi Af;have HE:=Hi e2;clear h hK hat Ol KO e1 e2 Af Ps
  go_in
  go_wp2_with fail;refine HI.mono ?_;rintro e w1⟨rfl,hb⟩;have HB:=Hi hb;clear hb;go_wp2;go_ret;refine⟨by rw[HE.out];rfl,by rw[HE.out];exact Cc HR HB,A7.of_below HB⟩
 ·rw[e1] at HI;have Ba:=Hi (aAm ⟨cur,Ps,DV⟩ (fun t ht=>aAx Af t ht) BQ KQ e2 e3);have HC:=Hi KO;have HK:=Hi hK;have dA:=Hi Om;have Ns:=Hi Qo;clear h hK hat KO e1 e2 e3 Af Ps DV Om Qo
  go_in
  go_wp2_with fail;refine HI.mono ?_;rintro e w1⟨rfl,hb⟩;have IA:=Hi (Ba.below hb);have C8:=Hi (show O9 w w1 g cap f l k0 (k0+1) from IA.out);clear hb IA;go_wp2
  go_loopw [5,6] (fun i j wr=>∃ a b:Nat,i=.int .i64 a∧j=.int .i64 b∧O9 w wr g cap f l a b) (fun _ j _=>l.length -(intOf j).toNat)
  case atStart=>exact⟨k0,k0+1,rfl,by go_num,C8⟩
  case round=>
   clear Ba HI C8;obtain⟨i,j,rfl,rfl,Bj⟩:=hrel;have Yw:=Bj.lt;have J7:=Bj.le;by_cases hlt:j < l.length
   ·have hx:=Bj.back j (Ag _) hlt;have Ox:=hx.key;have Eo:wr.cell? ⟨g,j*2+1,none⟩=some ↑l[j].2:=hx.val;have II:=fun W=>Hy prog 30 51 underlying30 2 (by kernel_rfl) ⟨g,0,none⟩ l.length cap j hlt W
    have axo:=fun W=>Hy prog 30 51 underlying30 2 (by kernel_rfl) ⟨g,0,none⟩ l.length cap i (by omega) W
    simp only[add_plain] at II axo;have BO:=AQ wr (.cells #[l[j].1,l[j].2] 51);have Sq:=Hi (Bj.below BO);have ES:=Hi (HC (wr.alloc (.cells #[l[j].1,l[j].2] 51)) l[j] (HK _ Sq.upd));have HY:=Hi (fun(W:World) (hb:Below (wr.alloc (.cells #[l[j].1,l[j].2] 51)).heap.size (wr.alloc (.cells #[l[j].1,l[j].2] 51)) W)=>(show f l[j]=true→O9 w W g cap f l i (j+1) from(Sq.below hb).strike hlt));have HN:=Hi (fun(W:World) (hb:Below (wr.alloc (.cells #[l[j].1,l[j].2] 51)).heap.size (wr.alloc (.cells #[l[j].1,l[j].2] 51)) W)=>(show f l[j]=false→O9 w ((W.setCell ⟨g,i*2,none⟩ ↑l[j].1).setCell ⟨g,i*2+1,none⟩ ↑l[j].2) g cap f l (i+1) (j+1) from(Sq.below hb).keep hlt));have Bo:=Hi (fun(W:World) (hb:Below (wr.alloc (.cells #[l[j].1,l[j].2] 51)).heap.size (wr.alloc (.cells #[l[j].1,l[j].2] 51)) W)=>(Sq.below hb).cells);have ER:=Hi (AU wr (.cells #[l[j].1,l[j].2] 51));clear Bj hx BO;generalize l[j]=x at*;go_wp2_with fail;refine ES.mono ?_;rintro e w2⟨rfl,Ac⟩;have au:=(Ac.block _ (Ao ER)).trans ER.out;have X7:w2.cell? wr.heap.size=some ↑x.1:=cr au;have Jq:w2.cell? ⟨wr.heap.size,1,none⟩=some ↑x.2:=cr au;obtain⟨fG,fH⟩:=Bo w2 Ac;have aFO:=fH (i*2);have aFP:=fH (i*2+1);obtain⟨o0,JL⟩:=KD.1 (fG (i*2) (by omega));obtain⟨o1,DW⟩:=KD.1 (fG (i*2+1) (by omega));have UT:=Hi (HY w2 Ac);have JY:=Hi (HN w2 Ac);clear Ac au fG fH HY HN Bo ES;generalize f x=s at*;cases s with
    |true=>
     have SA:=Hi (UT rfl);clear UT JY;go_wp2;go_roundw
     case rel=>first
      |exact⟨i,j+1,rfl,by go_num,SA⟩
      |(repeat apply Exists.intro
        refine⟨?_,rfl⟩;exact⟨i,j+1,rfl,by go_num,SA⟩)
     case measure=>simp[intOf];omega
    |false=>
     have Zy:=Hi (JY rfl);clear UT JY;go_wp2_with fail;refine⟨?_,?measure⟩
     ·repeat apply Exists.intro
      refine⟨?rel,rfl⟩
      case rel=>exact⟨i+1,j+1,by go_num,by go_num,Zy⟩
     case measure=>simp[intOf];omega
   ·obtain rfl:j=l.length:=(by omega);obtain⟨fG,fH⟩:=Bj.cells;have ak1:=fun ty=>aBL wr ty g (i*2) (l.length -i) (cap -i) (by omega) (fun t ht=>fG (i*2+t) (by omega)) (fun t _=>fH (i*2+t))
    have Pk:∀ W,(Instr.slice 30 (.slice g l.length cap) (some ↑(i:Int)) none none).run prog W=.ok (.slice (some ⟨g,i*2,none⟩) (l.length -i) (cap -i)) W:=fun W=>by
     have:=iE W (some ⟨g,0,none⟩) l.length cap i (by omega);unfold Jj at this;rw[A9 (by omega)] at this;simp only[EZ,add_plain] at this;exact this
    have Ck:=fun W=>adZ W (some ⟨g,0,none⟩) l.length cap i (by omega) BQ
    have acm:=Bj.kept;rw[D5] at acm;have HS:=Hi Bj;have Jh:=Hi acm;clear Bj acm fG fH;go_wp2;go_ret;obtain⟨h1,h2,h3,h4,h5⟩:=aeV g (List.replicate ((l.length -i)*2) (Value.string ByteArray.empty)) (i*2) wr;have hu:A7 (fun k=>k=g) wr (wr.setCells g (i*2) (List.replicate ((l.length -i)*2) (Value.string ByteArray.empty))):=⟨h2,h3,h4,Nat.le_of_eq h1.symm,fun k _ hk=>h5 k hk⟩;obtain⟨atu,g2,s2⟩:=HS.blk;have hlen:(l.filter fun x=>!f x).length≤cap:=(by rw[←Jh.out];omega);refine⟨by rw[←Jh.out];rfl,?_,HS.upd.trans hu (fun k hk=>.inl hk)⟩;obtain⟨aFf,g3,s3⟩:=aoW g (List.replicate ((l.length -i)*2) (Value.string ByteArray.empty)) (i*2) wr atu g2;refine aAw g3 (by rw[s3];exact s2) dA hlen Ns (fun t ht=>?_);have hf:=HS.front;rw[D5] at hf;have hp:=hf t ht;have hti:t < i:=(by rw[Jh.out];exact ht);exact⟨(World.cell?_setCells_out g _ (i*2) wr ⟨g,t*2,none⟩ (fun _ _=>.inl (by show t*2 < i*2;omega))).trans hp.key,(World.cell?_setCells_out g _ (i*2) wr ⟨g,t*2+1,none⟩ (fun _ _=>.inl (by show t*2+1 < i*2;omega))).trans hp.val⟩
theorem anG{w:World}{base:Nat}{s:Value}{K:World→Prop}{v:Value}{f:T×T→Bool}{l:M}(h:BK w base s l)(hf:jc K v f)(hK:∀ W,A7 (fun k=>s.ownBlock=some k) w W→K W)(hlen:l.length≤1000000):
  Calls prog 94 #[s,v] w fun e w'=>∃ s',e=.returned s'∧BK w' base s' (l.filter fun x=>!f x)∧A7 (fun k=>s.ownBlock=some k) w w'∧s'.ownBlock=s.ownBlock:=by
 rcases h.2 with⟨e1,e2⟩|⟨g,cap,cur,e1,_⟩
 ·subst e1;obtain rfl:l=[]:=Ku.1 e2;have HI:=Hi (anM (a:=none) (l:=[]) 0 (Bg.nil w none) hf (fun W hb=>hK W (A7.of_below hb)) (by simp));have HH:=Hi h;clear hK h
  go_in
  go_wp2_with fail;refine HI.mono ?_;rintro e w1⟨rfl,hb⟩;have HB:=Hi hb;clear hb;have hx:Um f []= -1:=rfl;rw[hx];go_wp2;go_ret;exact⟨_,rfl,Cc HH HB,A7.of_below HB,rfl⟩
 ·subst e1;have Vq:∀ k,(Value.slice g l.length cap).ownBlock=some k↔k=g:=fun k=>by simp[Value.ownBlock];exact eq_comm
  refine(aAn h hf (fun W hu=>hK W (hu.mono fun k hk=>(Vq k).2 hk)) hlen).mono ?_;rintro e w'⟨rfl,h5,h6⟩;exact⟨_,rfl,h5,h6.mono fun k hk=>(Vq k).2 hk,rfl⟩
