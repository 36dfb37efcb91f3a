/- WalT DiskCopy2 Trod2 DiskH Both Same DiskLaw DiskAlive KeepsRep WalRep WalLaw2 FilLaw FilRep2 -/
import Derived.Test.YtkmninbcgipliaaGreatDoorW1
import Derived.MapKept
import Derived.Deep.Slices
import Derived.Deep.Fields
import Derived.ChangeArms
import Derived.Maps.RangeWalk
import Derived.Sort.KeysCollected
set_option maxHeartbeats 2000000
set_option maxRecDepth 100000
set_option linter.all false
namespace Go.Proofs.YtkmninbcgipliaaGreatDoor
open Tryz hiding t1 t2
section
open Go.RowKit Go.Maps
open Aw
theorem af7(s:List UInt8)(w:World)(hs:s.length≤100000000):
  Calls prog 163 #[s] w (Rt w ↑(pad s)):=by
 obtain⟨N,hN⟩:∃ N:Nat,N=(s.length+63) / 64*64:=⟨_,rfl⟩;have hq:((s.length:Int)+64 -1) / 64*64=(N:Int):=by omega
 obtain⟨m,hm⟩:∃ m:Nat,m=N -s.length:=⟨_,rfl⟩;have KT:(N:Int) -(s.length:Int)=(m:Int):=by omega
 have acE:Hid (pad s=s++List.replicate m 0):=Hi (by unfold pad;rw[←hN,←hm]);have aP:m≤100:=by omega
 have Ke:N≤100000100:=by omega
 obtain⟨C,Ot,Af⟩:=apI w m (by omega);have awH:=Xn prog (w.alloc (.cells C 5)) 54 5 9 underlying54 underlying5 underlying9 w.heap.size 0 m m (List.replicate m 0) List.length_replicate (fun i h=>by rw[GQ];exact Af.cell i h);clear Af hN hm
 go_in
 go_wp2;go_ret;rw[acE.out];exact⟨rfl,(Ai _ _).alloc (Ag _) _⟩
theorem nM(gen used:Nat)(w:World)(hg:gen < 18446744073709551616)(hu:used < 4294967296):
  Calls prog 147 #[.int .u64 gen,.int .i64 used] w (Rt w ↑(Aw.mark gen used)):=by
 have HG:=Hi hg;have ED:(used:Int)≤4294967295:=by omega
 have mH:({ data:=#[76,79,71,49] }:ByteArray)=bs [76,79,71,49]:=rfl;clear hg
 go_in
 go_wp2_with fail;refine(bO gen 8 _ (by have:=HG.out;exact this) (by decide) (by decide)).mono ?_;rintro e w1⟨rfl,Ak⟩;have HB1:=Hi Ak;clear Ak;go_wp2_with fail;refine(bO used 4 _ hu (by decide) (by decide)).mono ?_;rintro e w2⟨rfl,Ac⟩;have Aj:=bH HB1 Ac;clear Ac;go_wp2_with fail;refine(iN (76 :: 79 :: 71 :: 49 :: (Ab.le 8 gen++Ab.le 4 used)) _ (by simp[Ab.Cb])).mono ?_;rintro e w3⟨rfl,Av⟩;have Au:=bH Aj Av;clear Av;go_wp2_with fail;refine(af7 (Ab.FN (76 :: 79 :: 71 :: 49 :: (Ab.le 8 gen++Ab.le 4 used))) _ (by rw[Ab.RP];simp[Ab.Cb])).mono ?_;rintro e w4⟨rfl,AB⟩;have AX:=bH Au AB;clear AB;go_wp2;go_ret;exact⟨rfl,AX⟩
def Kc(l:List (List UInt8)):List UInt8×Int:=match Ie l with|none=>([],5)|some t=>(t,0)
theorem wY{l:List (List UInt8)}{s:List UInt8}(h:GM l=some s):s.length=rowLen l:=by
 unfold GM at h;split at h
 ·cases h1:BL l with
  |none=>rw[h1] at h;cases h
  |some a=>
   rw[h1] at h;simp at h;subst h;have:=Xo h1;simp[Ab.Cb];omega
 ·cases h
theorem eY(l:List (List UInt8))(a:Option Addr)(cap:Nat)(w:World)(hl:Dz w a l)(hlen:l.length≤maxLen)(Df:rowLen l≤10000000):
  Calls prog 134 #[.slice a l.length cap] w (Rt w (.tuple #[(Kc l).1,.int .i64 (Kc l).2])):=by
 have HL:=Hi hl;have FO:=Hi hlen;clear hl hlen;cases hr:GM l with
 |none=>
  have hR:Dg l=([],5):=by unfold Dg;rw[hr]
  have hG:Kc l=([],5):=by unfold Kc Ie;rw[hr];rfl
  have HR:=Hi hR;rw[hG];clear hr hR hG
  go_in
  go_wp2_with fail;refine(anu l a cap w HL FO (by omega)).mono ?_;rw[HR.out];rintro e w1⟨rfl,hb⟩;have HB:=Hi hb;clear hb;go_wp2;go_ret2;exact⟨rfl,HB⟩
 |some s=>
  have hR:Dg l=(s,0):=by unfold Dg;rw[hr]
  have hG:Kc l=(pad (Ab.le 4 s.length++s),0):=by unfold Kc Ie;rw[hr];rfl
  have CS:=wY hr;have Wj:=Hi Df;have HR:=Hi hR;rw[hG];clear hr hR hG;rw[←CS] at Df;clear CS
  go_in
  go_wp2_with fail;refine(anu l a cap w HL FO (by have:=Wj.out;omega)).mono ?_;rw[HR.out];rintro e w1⟨rfl,hb⟩;have HB:=Hi hb;clear hb;go_wp2_with fail;refine(bO s.length 4 _ (by omega) (by decide) (by decide)).mono ?_;rintro e w2⟨rfl,Ac⟩;have Aj:=bH HB Ac;clear Ac;go_wp2_with fail;refine(af7 (Ab.le 4 s.length++s) _ (by simp[Ab.Cb];omega)).mono ?_;rintro e w3⟨rfl,Av⟩;have Au:=bH Aj Av;clear Av;go_wp2;go_ret2;exact⟨rfl,Au⟩
end
section
open Go.RowKit Go.Maps
open Aw
theorem OD(P:Program)(W:World)(t:TypeId)(hu:P.underlying t=some .string)(s:List UInt8)(hi:Nat)(h2:hi≤s.length):
  (Instr.slice t ↑s none (some ↑(hi:Int)) none).run P W=.ok ↑(s.take hi) W:=by
 have g2:(hi:Int)≤(s.length:Int):=by omega
 simp[Instr.slice,He hu,Instr.sliceBounds,run_sliceBound,go_sem,g2]
theorem aoL(P:Program)(W:World)(t:TypeId)(hu:P.underlying t=some .string)(s:List UInt8)(lo hi:Nat)(h1:lo≤hi)(h2:hi≤s.length):
  (Instr.slice t ↑s (some ↑(lo:Int)) (some (.int .u64 (hi:Int))) none).run P W=.ok ↑((s.take hi).drop lo) W:=by
 have g2:(hi:Int)≤(s.length:Int):=by omega
 simp[Instr.slice,He hu,Instr.sliceBounds,run_sliceBound,go_sem,h1,g2]
theorem xJ{w:World}{base:Nat}{v:Value}{l:List (List UInt8)}(h:w.ownsRow base 9 1 v l.length (strCells l)):∃ a cap,v=.slice a l.length cap∧Dz w a l:=by
 rcases h.2 with⟨e1,e2⟩|⟨g,cap,cur,e1,_⟩
 ·exact⟨none,0,by rw[e1,e2],fun i hi=>by omega⟩
 ·subst e1;refine⟨_,cap,rfl,fun i hi=>⟨⟨g,0,none⟩,rfl,?_⟩⟩;exact h.cells (g:=g) rfl i _ (Zb l i hi)
def dW(w:World)(s:List UInt8)(e:Ending)(w':World):Prop:=
 match LQ s with
 |none=>e=.returned (.tuple #[(),.int .i64 0,false])∧Bw w w'
 |some (l,k)=>∃ v,e=.returned (.tuple #[v,(k:Int),true])∧w'.ownsRow 0 9 1 v l.length (strCells l)∧Bw w w'∧∀ g,v.ownBlock=some g→w.heap.size≤g
theorem wh{w w':World}{s:List UInt8}{e:Ending}(h:LQ s=none)(he:e=.returned (.tuple #[(),.int .i64 0,false]))(hb:Bw w w'):dW w s e w':=by
 unfold dW;rw[h];exact⟨he,hb⟩
theorem aA4{w w':World}{s:List UInt8}{l:List (List UInt8)}{k:Nat}{e:Ending}{v:Value}(h:LQ s=some (l,k))(he:e=.returned (.tuple #[v,(k:Int),true]))(ho:w'.ownsRow 0 9 1 v l.length (strCells l))(hb:Bw w w')(hg:∀ g,v.ownBlock=some g→w.heap.size≤g):dW w s e w':=by
 unfold dW;rw[h];exact⟨v,he,ho,hb,hg⟩
theorem avH{s:List UInt8}{l:List (List UInt8)}(h4:4≤s.length)(hv:Ab.val (s.take 4)≤s.length -4)(h:Dv ((s.take (4+Ab.val (s.take 4))).drop 4)=some l):Ie l=some (pad (s.take (4+Ab.val (s.take 4))))∧rowLen l=Ab.val (s.take 4):=by
 have hr:=o7 h;have hl:((s.take (4+Ab.val (s.take 4))).drop 4).length=Ab.val (s.take 4):=by rw[CF,Bc];omega
 refine⟨?_,by rw[←wY hr,hl]⟩;unfold Ie;rw[hr];simp only[EZ];rw[hl];have e:Ab.le 4 (Ab.val (s.take 4))=s.take 4:=by
  have:=Ab.nJ (s.take 4);rwa[Bc,Iq h4] at this
 rw[e];generalize Ab.val (s.take 4)=v at*;have h3:s.take 4=(s.take (4+v)).take 4:=by rw[List.take_take,Iq (by omega)]
 rw[h3,Lb]
theorem aA5(s:List UInt8)(w:World)(hs:s.length≤10000000)(WG:s.length % 64=0):
  Calls prog 164 #[.string (bs s)] w fun e w'=>dW w s e w':=by
 by_cases h0:s.length < 64
 ·have hN:Hid (LQ s=none):=Hi (by unfold LQ;rw[Ae h0])
  go_in
  go_wp2;go_ret3;exact wh hN.out rfl (Ai _ _)
 ·have N7:∀ W,(Instr.slice 9 (.string (bs s)) none (some (.int .i64 4)) none).run prog W=.ok (.string (bs (s.take 4))) W:=fun W=>OD prog W 9 underlying9 s 4 (by omega)
  have LH:(s.take 4).length=4:=by rw[Bc];omega
  have hv:=Ab.Jw (s.take 4);rw[LH] at hv;have LG:=fun(W:World)=>Y7 (s.take 4) W (by omega) (by omega)
  have hG:=fun(l:List (List UInt8))=>@avH s l
  have Rb:LQ s=if Ab.val (s.take 4)≤s.length -4 then
   (Dv ((s.take (4+Ab.val (s.take 4))).drop 4)).bind fun l=>
    if pad (s.take (4+Ab.val (s.take 4)))=s.take (pad (s.take (4+Ab.val (s.take 4)))).length then some (l,(pad (s.take (4+Ab.val (s.take 4)))).length) else none
   else none:=by unfold LQ;rw[A9 h0]
  generalize Ab.val (s.take 4)=v at*;have ad7:v < 4294967296:=hv;have JC:=Hi LG;have HG:=Hi hG;have Jr:IntKind.u64.wrap ((s.length:Int) -4)=(s.length:Int) -4:=IntWalk.u64_in _ (by omega);clear LH hv LG hG;by_cases YP:v≤s.length -4
  ·rw[Ae YP] at Rb;have hvi:(v:Int)≤(s.length:Int) -4:=(by omega);have Mq:IntKind.u64.wrap (4+(v:Int))=4+(v:Int):=IntWalk.u64_in _ (by omega);have hcu:∀ W,(Instr.slice 9 (.string (bs s)) (some (.int .i64 4)) (some (.int .u64 (4+(v:Int)))) none).run prog W=.ok (.string (bs ((s.take (4+v)).drop 4))) W:=fun W=>by
    have:=aoL prog W 9 underlying9 s 4 (4+v) (by omega) (by omega);rw[Int.natCast_add] at this;exact this
   cases hr:Dv ((s.take (4+v)).drop 4) with
   |none=>
    have hN:Hid (LQ s=none):=Hi (by rw[Rb,hr];rfl);have HR:=Hi hr;clear Rb hr
    go_in
    go_wp2_with fail;refine(JC _).mono ?_;rintro e w1⟨rfl,rfl⟩;go_wp2_with fail;refine(nZ ((s.take (4+v)).drop 4) _ (by rw[CF,Bc];omega)).mono ?_;intro e w1 hp;unfold MR at hp;rw[HR.out] at hp;obtain⟨rfl,hb⟩:=hp;have HB:=Hi hb;clear hb;go_wp2;go_ret3;exact wh hN.out rfl HB.out
   |some l=>
    obtain⟨J6,Mk⟩:=HG l (by omega) YP hr;have NM:Kc l=(pad (s.take (4+v)),0):=(by unfold Kc;rw[J6]);have HGV:=Hi NM;have HR:=Hi hr;have Iz:=Hi Mk;rw[hr] at Rb;simp only[CU] at Rb;have Ow:(pad (s.take (4+v))).length≤s.length:=(by rw[Te,Bc];omega);have hct:∀ W,(Instr.slice 9 (.string (bs s)) none (some ↑((pad (s.take (4+v))).length:Int)) none).run prog W=.ok (.string (bs (s.take (pad (s.take (4+v))).length))) W:=fun W=>OD prog W 9 underlying9 s _ Ow
    have EA:l.length≤100000000:=by
     have:=Iz.out;unfold rowLen at this;have h2:∀ (l:List (List UInt8)),l.length≤(l.map fun s=>2+s.length).sum:=by
      intro l
      induction l with
      |nil=>simp
      |cons x l ih=>simp;omega
     have:=h2 l;omega
    clear hr NM J6 Mk;generalize pad (s.take (4+v))=t at*;by_cases Jp:t=s.take t.length
    ·rw[Ae Jp] at Rb;have CW:=Hi Rb;have hbt:(t == s.take t.length)=true:=(by rw[←Jp];simp);have UO:=Hi Jp;clear Rb Jp
     go_in
     go_wp2_with fail;refine(JC _).mono ?_;rintro e w1⟨rfl,rfl⟩;go_wp2_with fail;refine(nZ ((s.take (4+v)).drop 4) _ (by rw[CF,Bc];omega)).mono ?_;intro e w1 hp;unfold MR at hp;rw[HR.out] at hp;obtain⟨vv,rfl,ho,hb,hn⟩:=hp;obtain⟨qa,ca,rfl,H9⟩:=xJ ho;have HB:=Hi hb;have HO:=Hi ho;have HN:=Hi hn;have ZL:=Hi H9;clear hb ho hn H9;go_wp2_with fail;refine(eY l qa ca _ ZL (by unfold maxLen;omega) (by rw[Iz.out];omega)).mono ?_;rw[HGV.out];rintro e w2⟨rfl,Ac⟩;have Aj:=Hi Ac;clear Ac;go_wp2;go_ret3;exact aA4 CW rfl (BD HO (ub Aj) (fun _ _ f=>f)) (bT HB Aj) HN.out
    ·rw[A9 Jp] at Rb;have CW:=Hi Rb;have hbt:(t == s.take t.length)=false:=(by simp[Jp]);have UO:=Hi Jp;clear Rb Jp
     go_in
     go_wp2_with fail;refine(JC _).mono ?_;rintro e w1⟨rfl,rfl⟩;go_wp2_with fail;refine(nZ ((s.take (4+v)).drop 4) _ (by rw[CF,Bc];omega)).mono ?_;intro e w1 hp;unfold MR at hp;rw[HR.out] at hp;obtain⟨vv,rfl,ho,hb,hn⟩:=hp;obtain⟨qa,ca,rfl,H9⟩:=xJ ho;have HB:=Hi hb;have HO:=Hi ho;have HN:=Hi hn;have ZL:=Hi H9;clear hb ho hn H9;go_wp2_with fail;refine(eY l qa ca _ ZL (by unfold maxLen;omega) (by rw[Iz.out];omega)).mono ?_;rw[HGV.out];rintro e w2⟨rfl,Ac⟩;have Aj:=Hi Ac;clear Ac;go_wp2;go_ret3;exact wh CW rfl (bT HB Aj)
  ·have hN:Hid (LQ s=none):=Hi (by rw[Rb,A9 YP]);have hvi:(s.length:Int) -4 < (v:Int):=(by omega);clear Rb
   go_in
   go_wp2_with fail;refine(JC _).mono ?_;rintro e w1⟨rfl,rfl⟩;go_wp2;go_ret3;exact wh hN.out rfl (Ai _ _)
end
section
open Go.RowKit Go.Maps
end
section
open Go.RowKit Go.Maps
section
variable {B:Nat}{w0 w:World}{b:Nat}{D:A8}{fp:Nat→Prop}
end
end
section
open Go.RowKit Go.WideShapes Go.ChangeShapes Go.Deep
theorem adC{α:Type}{P:Nat→α→Prop}:∀ (n:Nat),(∀ i,i < n→∃ x,P i x)→∃ l:List α,l.length=n∧∀ i,(h:i < l.length)→P i l[i]
 |0,_=>⟨[],rfl,fun i hi=>by simp at hi⟩
 |n+1,h=>by
  obtain⟨l,hl,hp⟩:=adC n (fun i hi=>h i (by omega));obtain⟨x,hx⟩:=h n (by omega);refine⟨l++[x],by simp[hl],fun i hi=>?_⟩;by_cases Dj:i < l.length
  ·rw[Uz Dj];exact hp i Dj
  ·have:i=l.length:=(by simp at hi;omega);subst this;rw[Xv (Ag _)];simp;rw[hl];exact hx
theorem af6{H:Type}{P:Program}{e:TypeId}{x:DataW H}{l:List (DataW H)}(h:x∈l){n:Nat}(hn:n∈DataW.weights P e x):n∈DataW.weightsAll P e l:=by
 induction l with
 |nil=>simp at h
 |cons y l ih=>
  simp only[DataW.weightsAll,Es];rcases Ch.1 h with rfl|h
  ·exact .inl hn
  ·exact .inr (ih h)
theorem Xh{cs:List Value}{n:Nat}(hl:cs.length=n)(j:Nat)(hj:j < n):(cs.drop j).take 1=[cs[j]'(by omega)]:=by
 rw[OH (by omega)];rfl
end
section
open Go.RowKit Go.WideShapes Go.ChangeShapes Go.Deep
end
section
open Go.RowKit Go.Maps
end
section
open Go.RowKit Go.Maps
end
section
open Go.RowKit Go.Maps
section
variable {B:Nat}{w0 w w':World}{b r:Nat}{D D' R R':A8}{fp fp' fr fr':Nat→Prop}
end
section
variable {B:Nat}{w0 w:World}{b r:Nat}{D R:A8}{fp fr:Nat→Prop}
end
end
section
open Go.RowKit Go.Maps
section
variable {B:Nat}{w0 w:World}{b r:Nat}{D R:A8}{fp fr:Nat→Prop}
end
end
section
namespace A8
theorem aEr(D:A8)(a:Nat)(s:List UInt8)(n:Nat):(writes D a s n).1.loose.length≤D.loose.length+n:=by
 induction n generalizing D a s with
 |zero=>exact Ag _
 |succ n ih=>
  simp only[writes];split
  ·show D.loose.length≤_;omega
  ·have:=ih { D with loose:=D.loose++[(a,s.take 64)],left:=max (D.left -1) (-1) } (a+1) (s.drop 64);have e:(D.loose++[(a,s.take 64)]).length=D.loose.length+1:=(by simp);simp only[e] at this;omega
theorem Ux(D:A8)(a:Int)(s:List UInt8):(D.write a s).1.loose.length≤D.loose.length+s.length / 64:=by
 unfold write;split
 ·exact Nat.le_add_right _ _
 ·split
  ·exact aEr _ _ _ _
  ·exact Nat.le_add_right _ _
theorem V7(D:A8):D.flush.1.loose.length≤D.loose.length:=by unfold flush;split<;>simp
end A8
end
section
open Go.RowKit Go.Maps
end
section
open Go.RowKit Go.Maps
theorem BP.kinds{w:World}{b:Nat}{D:A8}{fp:Nat→Prop}(h:BP w b D fp)(k:Nat)(hk:fp k):¬ Bf w k 9∧¬ Bf w k 61:=by
 obtain⟨m,lv,hI,rfl⟩:=h;have key:∀ t,(t=9∨t=61)→¬ Bf w k t:=by
  rintro t ht⟨cs,fr,hb⟩;rcases hk with rfl|rfl|hk
  ·rw[hI.struct] at hb;injection hb with hb
   injection hb with _ hb _
   subst hb;rcases ht with ht|ht<;>cases ht
  ·obtain⟨kv,⟨_,D',⟨es,clock,hm,_⟩,_⟩,_⟩:=hI.base;rw[hm] at hb;injection hb with hb
   cases hb
  ·rcases hI.loose.2 with⟨e1,_⟩|⟨g,cap,cur,e1,_,hg,_⟩
   ·subst e1;simp[Value.ownBlock] at hk
   ·subst e1;simp[Value.ownBlock] at hk;subst hk;rw[hg] at hb;injection hb with hb
    injection hb with _ hb _
    subst hb;rcases ht with ht|ht<;>cases ht
 exact⟨key _ (.inl rfl),key _ (.inr rfl)⟩
section
variable {B:Nat}{w0 w w':World}{b g1 g2 n:Nat}{D D':A8}{fp fp':Nat→Prop}{A K:List (List (List UInt8))}
end
end
section
open Go.RowKit Go.Maps
open Aw
def K9(w:World)(v:Value)(l:List (List UInt8)):Prop:=
 ∃ a cap,v=.slice a l.length cap∧∀ i (h:i < l.length),∃ g o,a=some ⟨g,o,none⟩∧Bf w g 9∧w.cell? ⟨g,o+i,none⟩=some ↑l[i]
theorem K9.upd{F:Nat→Prop}{w w':World}{v:Value}{l:List (List UInt8)}(h:K9 w v l)(hu:A7 F w w')(hF:∀ k,Bf w k 9→¬ F k):K9 w' v l:=by
 obtain⟨a,cap,e,h⟩:=h;refine⟨a,cap,e,fun i hi=>?_⟩;obtain⟨g,o,e1,e2,e3⟩:=h i hi;exact⟨g,o,e1,e2.upd hu (hF g e2),(hu.cell (p:=⟨g,o+i,none⟩) e2.lt (hF g e2)).trans e3⟩
theorem K9.texts{w:World}{v:Value}{l:List (List UInt8)}(h:K9 w v l):∃ a cap,v=.slice a l.length cap∧Dz w a l:=by
 obtain⟨a,cap,e,h⟩:=h;refine⟨a,cap,e,fun i hi=>?_⟩;obtain⟨g,o,e1,_,e3⟩:=h i hi;exact⟨⟨g,o,none⟩,e1,by rw[Wt];exact e3⟩
theorem K9.CR{w:World}{base:Nat}{v:Value}{l:List (List UInt8)}(h:w.ownsRow base 9 1 v l.length (strCells l)):K9 w v l:=by
 rcases h.2 with⟨e1,e2⟩|⟨g,cap,cur,e1,_,hg,_⟩
 ·exact⟨none,0,by rw[e1,e2],fun i hi=>by omega⟩
 ·subst e1;refine⟨_,cap,rfl,fun i hi=>⟨g,0,rfl,⟨_,_,hg⟩,?_⟩⟩;have:=h.cells (g:=g) rfl i _ (Zb l i hi);rw[add_plain] at this;rw[GQ];exact this
def Le(w:World)(v:Value)(L:List (List (List UInt8))):Prop:=
 ∃ cs:List Value,w.ownsRow 0 61 1 v L.length cs∧cs.length=L.length∧(∀ u∈cs,u.oneCell'=true)∧∀ i (h:i < L.length) (h':i < cs.length),K9 w cs[i] L[i]
theorem Le.upd{F:Nat→Prop}{w w':World}{v:Value}{L:List (List (List UInt8))}(h:Le w v L)(hu:A7 F w w')(hF:∀ k,Bf w k 9→¬ F k)(hG:∀ g,v.ownBlock=some g→¬ F g):Le w' v L:=by
 obtain⟨cs,h1,h2,h3,h4⟩:=h;exact⟨cs,BD h1 hu hG,h2,h3,fun i hi uE=>(h4 i hi uE).upd hu hF⟩
theorem Le.none(w:World):Le w ↑() []:=⟨[],DZ _ _ _ _,rfl,by simp,fun i hi=>by simp at hi⟩
structure BI where
 from_:Nat
 n:Nat
 gen:Nat
 used:Nat
 groups:List (List (List UInt8))
 fault:Int
def aq6(L:BI)(b:Nat)(gv:Value):Array Value:=#[.int .u64 (L.gen:Int),.int .i64 (L.used:Int),.pointer b,.int .i64 (L.from_:Int),.int .i64 (L.n:Int),gv,.int .i64 L.fault]
structure Cw(w:World)(x b:Nat)(gv:Value)(L:BI):Prop where
 struct:w.heap[x]?=some (.cells (aq6 L b gv) 224)
 groups:Le w gv L.groups
 gen:L.gen < 18446744073709551616
 used:L.used+1≤L.n
 n:L.from_+L.n≤16384
def BZ(x:Nat)(gv:Value)(k:Nat):Prop:=k=x∨gv.ownBlock=some k
theorem Cw.cells{w:World}{x b:Nat}{gv:Value}{L:BI}(h:Cw w x b gv L):
  w.cell? x=some (.int .u64 (L.gen:Int))∧w.cell? ⟨x,1,none⟩=some ↑(L.used:Int)∧w.cell? ⟨x,2,none⟩=some (.pointer b)∧w.cell? ⟨x,3,none⟩=some (.int .i64 (L.from_:Int))∧
  w.cell? ⟨x,4,none⟩=some ↑(L.n:Int)∧w.cell? ⟨x,5,none⟩=some gv∧w.cell? ⟨x,6,none⟩=some (.int .i64 L.fault)∧∀ j,w.frozen? ⟨x,j,none⟩=false:=by
 refine⟨?_,?_,?_,?_,?_,?_,?_,fun j=>CG w x j _ _ h.struct⟩<;>rw[BJ w x _ _ _ _ h.struct]<;>rfl
theorem Cw.lt{w:World}{x b:Nat}{gv:Value}{L:BI}(h:Cw w x b gv L):∀ k,BZ x gv k→k < w.heap.size:=by
 rintro k (rfl|hk)
 ·exact Ao h.struct
 ·obtain⟨cs,h1,_⟩:=h.groups;exact bM h1 hk
theorem Cw.ne{w:World}{x b:Nat}{gv:Value}{L:BI}(h:Cw w x b gv L):gv.ownBlock≠some x:=fun e=>by
 obtain⟨cs,h1,_⟩:=h.groups;exact Bf.ne (Cx h1 e) ⟨_,_,h.struct⟩ (by decide) rfl
theorem Cw.upd{F:Nat→Prop}{w w':World}{x b:Nat}{gv:Value}{L:BI}(h:Cw w x b gv L)(hu:A7 F w w')(hF:∀ k,Bf w k 9→¬ F k)(hG:∀ k,BZ x gv k→¬ F k):Cw w' x b gv L:=
 ⟨(hu.block x (Ao h.struct) (hG x (.inl rfl))).trans h.struct,h.groups.upd hu hF (fun g hg=>hG g (.inr hg)),h.gen,h.used,h.n⟩
theorem Cw.below{w w':World}{x b:Nat}{gv:Value}{L:BI}(h:Cw w x b gv L)(hb:Bw w w'):Cw w' x b gv L:=h.upd (ub hb) (fun _ _ f=>f) (fun _ _ f=>f)
theorem BP.ayP{w:World}{b:Nat}{D:A8}{fp:Nat→Prop}(h:BP w b D fp)(k:Nat)(hk:fp k):¬ Bf w k 224:=by
 obtain⟨m,lv,hI,rfl⟩:=h;rintro⟨cs,fr,hb⟩;rcases hk with rfl|rfl|hk
 ·rw[hI.struct] at hb;injection hb with hb
  injection hb with _ hb _
  cases hb
 ·obtain⟨kv,⟨_,D',⟨es,clock,hm,_⟩,_⟩,_⟩:=hI.base;rw[hm] at hb;injection hb with hb
  cases hb
 ·rcases hI.loose.2 with⟨e1,_⟩|⟨g,cap,cur,e1,_,hg,_⟩
  ·subst e1;simp[Value.ownBlock] at hk
  ·subst e1;simp[Value.ownBlock] at hk;subst hk;rw[hg] at hb;injection hb with hb
   injection hb with _ hb _
   cases hb
theorem Cw.disk{w w':World}{x b b':Nat}{gv:Value}{L:BI}{D:A8}{fp:Nat→Prop}(h:Cw w x b gv L)(hd:BP w b' D fp)(hu:A7 fp w w'):Cw w' x b gv L:=
 h.upd hu (fun k hk hf=>(hd.kinds k hf).1 hk) (fun k hk hf=>by
  rcases hk with rfl|hk
  ·exact hd.ayP k hf ⟨_,_,h.struct⟩
  ·obtain⟨cs,h1,_⟩:=h.groups;exact(hd.kinds k hf).2 (Cx h1 hk))
theorem K9.one{w:World}{v:Value}{l:List (List UInt8)}(h:K9 w v l):v.oneCell'=true:=by
 obtain⟨a,cap,rfl,_⟩:=h;rfl
theorem Cw.pushed{w w1 w2:World}{x b:Nat}{gv lv v':Value}{L:BI}{l:List (List UInt8)}{cs:List Value}(h:Cw w x b gv L)(hl:K9 w lv l)
  (BQ:cs.length=L.groups.length)(GG:∀ u∈cs,u.oneCell'=true)(Vg:∀ i (h:i < L.groups.length) (h':i < cs.length),K9 w cs[i] L.groups[i])
  (hb:Bw w w1)(AJ:w1.grownBy w2 gv.ownBlock)(hown:w2.ownsRow 0 61 1 v' (L.groups.length+1) (cs++[lv]))(hat:v'.ownBlock=gv.ownBlock∨v'.ownBlock=some w1.heap.size):
  Cw (w2.setCell ⟨x,5,none⟩ v') x b v' { L with groups:=L.groups++[l] }∧A7 (BZ x gv) w (w2.setCell ⟨x,5,none⟩ v')∧Dq (BZ x gv) (BZ x v') w:=by
 have hx:=Ao h.struct;have BS:=hb.size;have u1:A7 (fun k=>gv.ownBlock=some k) w w2:=(A7.of_below hb).trans (A7.of_grownBy (F:=fun k=>gv.ownBlock=some k) AJ (fun k e=>e)) (fun k hk=>.inl hk);have Ov:w2.heap[x]?=some (.cells (aq6 L b gv) 224):=(u1.block x hx (fun e=>h.ne e)).trans h.struct;have Om:∀ k,Bf w k 9→¬ gv.ownBlock=some k:=fun k hk e=>by
  obtain⟨cs',h1,_⟩:=h.groups;exact Bf.ne hk (Cx h1 e) (by decide) rfl
 have Kj:v'.ownBlock≠some x:=fun e=>by
  rcases hat with hat|hat
  ·exact h.ne (by rw[←hat,e])
  ·rw[e] at hat;have:=GR hat;omega
 have c1:A7 (fun k=>k=x) w2 (w2.setCell ⟨x,5,none⟩ v'):=(A7.refl (fun k=>k=x) w2).setCell (p:=⟨x,5,none⟩) (.inl rfl) _;have keep:∀ v l,K9 w v l→K9 (w2.setCell ⟨x,5,none⟩ v') v l:=fun v l hr=>(hr.upd u1 Om).upd c1 (fun k hk e=>by subst e;exact Bf.ne hk ⟨_,_,Ov⟩ (by decide) rfl)
 refine⟨⟨Cs w2 x 5 _ _ v' Ov,⟨cs++[lv],?_,by simp[BQ],?_,fun i hi uE=>?_⟩,h.gen,h.used,h.n⟩,?_,?_⟩
 ·show World.ownsRow _ 0 _ 1 v' (L.groups++[l]).length _
  rw[AA];exact BD hown c1 (fun g hg e=>Kj (by rw[hg,e]))
 ·intro u hu;rcases Es.1 hu with hu|hu
  ·exact GG u hu
  ·rw[Fu] at hu;subst hu;exact hl.one
 ·by_cases hlt:i < L.groups.length
  ·show K9 _ _ (L.groups++[l])[i]
   rw[Uz (by omega),Uz hlt];exact keep _ _ (Vg i hlt (by omega))
  ·have Jn:i < (L.groups++[l]).length:=hi;rw[AA,La] at Jn;have e:i=L.groups.length:=by omega
   show K9 _ _ (L.groups++[l])[i]
   rw[Xv (by omega),Xv (by omega)];simp only[List.getElem_singleton];exact keep _ _ hl
 ·exact(u1.mono (fun k e=>.inr e)).setCell (p:=⟨x,5,none⟩) (.inl (.inl rfl)) _
 ·rintro k (rfl|hk)
  ·exact .inl (.inl rfl)
  ·rcases hat with hat|hat
   ·exact .inl (.inr (by rw[←hat];exact hk))
   ·rw[hat] at hk;have:=GR hk;exact .inr (by omega)
end
namespace Aw
open Ab (le val FN)
theorem Zh(n v:Nat)(h:v < 256 ^ n):val (le n v)=v:=by rw[Ab.xV,Nat.mod_eq_of_lt h]
theorem aBa{t a:List UInt8}(R:List UInt8)(h:Er t=some a):Ea (a++R)=some (t,a.length):=by
 unfold Er at h;split at h
 ·rename_i hl
  simp only[Cu] at h;subst h;have h1:(le 2 t.length).length=2:=Ab.Cb _ _;have h2:((le 2 t.length++t)++R).take 2=le 2 t.length:=by rw[DJ,Jf h1]
  unfold Ea;rw[A9 (by simp[h1]),h2,Zh 2 _ (by show t.length < 65536;omega),Ae (by simp[h1])];have h3:((le 2 t.length++t)++R).take (2+t.length)=le 2 t.length++t:=Jf (by simp[h1]);rw[h3,Np h1];simp[h1]
 ·cases h
theorem aoh:∀ (l:List (List UInt8)) (a R:List UInt8),BL l=some a→EL l.length (a++R)=some (l,R)
 |[],a,R,h=>by
  simp only[BL,Cu] at h;subst h;rfl
 |t :: l,a,R,h=>by
  simp only[BL] at h;cases h1:Er t with
  |none=>rw[h1] at h;cases h
  |some x=>
   rw[h1] at h;simp only[CU] at h;cases h2:BL l with
   |none=>rw[h2] at h;cases h
   |some y=>
    rw[h2] at h;simp only[EZ,Cu] at h;subst h;simp only[BM,EL];rw[DJ,aBa _ h1];simp only[CU];rw[Np rfl,aoh l y R h2];rfl
theorem aof{l:List (List UInt8)}{a:List UInt8}(h:GM l=some a):Dv a=some l:=by
 unfold GM at h;split at h
 ·rename_i hl
  cases h1:BL l with
  |none=>rw[h1] at h;cases h
  |some y=>
   rw[h1] at h;simp only[EZ,Cu] at h;subst h;have h2:(le 2 l.length).length=2:=Ab.Cb _ _;unfold Dv;rw[A9 (by simp[h2]),Jf h2,Zh 2 _ (by show l.length < 65536;omega),Np h2];have:=aoh l y [] h1;rw[Eg] at this;rw[this];rfl
 ·cases h
theorem tq{l:List (List UInt8)}{s:List UInt8}(h:Ie l=some s):∃ a,GM l=some a∧s=pad (le 4 a.length++a):=by
 unfold Ie at h;cases h1:GM l with
 |none=>rw[h1] at h;cases h
 |some a=>
  rw[h1] at h;simp only[EZ,Cu] at h;exact⟨a,rfl,h.symm⟩
theorem kT{l:List (List UInt8)}{s:List UInt8}(h:Ie l=some s):s.length % 64=0∧64≤s.length:=by
 obtain⟨a,_,rfl⟩:=tq h;have:=Te (le 4 a.length++a);simp only[AA,Ab.Cb] at this;constructor
 ·exact anB _
 ·rw[this];omega
theorem aA1{l:List (List UInt8)}{s:List UInt8}(h:Ie l=some s)(hb:s.length < 4294967296)(R:List UInt8):LQ (s++R)=some (l,s.length):=by
 obtain⟨WG,h0⟩:=kT h;obtain⟨a,ha,rfl⟩:=tq h;have LH:(le 4 a.length).length=4:=Ab.Cb _ _;have GL:=Te (le 4 a.length++a);rw[AA,LH] at GL;obtain⟨z,hz⟩:∃ z,pad (le 4 a.length++a)=le 4 a.length++a++z:=⟨_,rfl⟩;have e4:(pad (le 4 a.length++a)++R).take 4=le 4 a.length:=by rw[hz,DJ,DJ,Jf LH]
 have hv:val (le 4 a.length)=a.length:=Zh 4 _ (by show a.length < 4294967296;omega);have e5:(pad (le 4 a.length++a)++R).take (4+a.length)=le 4 a.length++a:=by rw[hz,DJ,Jf (by rw[AA,LH])]
 unfold LQ;rw[e4,hv,e5,A9 (by rw[AA];omega),Ae (by rw[AA];omega),Np LH,aof ha];simp only[CU];rw[Jf rfl,Ae rfl]
def LD:List (List (List UInt8))→Option (List UInt8)
 |[]=>some []
 |l :: L=>(Ie l).bind fun a=>(LD L).map (a++ ·)
theorem avK{L:List (List (List UInt8))}{S:List UInt8}(h:LD L=some S){l:List (List UInt8)}{s:List UInt8}(hl:Ie l=some s):LD (L++[l])=some (S++s):=by
 induction L generalizing S with
 |nil=>
  simp only[LD,Cu] at h;subst h;simp[LD,hl]
 |cons t L ih=>
  simp only[LD] at h;cases h1:Ie t with
  |none=>rw[h1] at h;cases h
  |some a=>
   rw[h1] at h;simp only[CU] at h;cases h2:LD L with
   |none=>rw[h2] at h;cases h
   |some b=>
    rw[h2] at h;simp only[EZ,Cu] at h;subst h;simp only[I5,LD,h1,ih h2,CU,EZ,DJ]
theorem aA3{S:List UInt8}{l:List (List UInt8)}{k:Nat}(h:LQ S=some (l,k)):Ie l=some (S.take k):=by
 unfold LQ at h;split at h
 ·cases h
 ·split at h
  ·rename_i h0 hv
   cases h1:Dv ((S.take (4+val (S.take 4))).drop 4) with
   |none=>rw[h1] at h;cases h
   |some q=>
    rw[h1] at h;simp only[CU] at h;split at h
    ·rename_i h3
     simp only[Cu,Nr] at h;obtain⟨rfl,rfl⟩:=h;have hr:=o7 h1;have hl:((S.take (4+val (S.take 4))).drop 4).length=val (S.take 4):=(by rw[CF,Bc];omega);unfold Ie;rw[hr];simp only[EZ];rw[hl];have e:le 4 (val (S.take 4))=S.take 4:=by
      have:=Ab.nJ (S.take 4);rwa[Bc,Iq (by omega)] at this
     rw[e];have h5:S.take 4++(S.take (4+val (S.take 4))).drop 4=S.take (4+val (S.take 4)):=by
      generalize val (S.take 4)=v at*;have h6:S.take 4=(S.take (4+v)).take 4:=(by rw[List.take_take,Iq (by omega)]);rw[h6,Lb]
     rw[h5,←h3]
    ·cases h
  ·cases h
theorem aoe:∀ (f:Nat) (S:List UInt8) (L:List (List (List UInt8))),Ju f S=some L→LD L=some S
 |0,S,L,h=>by
  simp only[Ju] at h;split at h
  ·rename_i e
   simp only[Cu] at h;subst h;subst e;rfl
  ·cases h
 |f+1,S,L,h=>by
  simp only[Ju] at h;split at h
  ·rename_i e
   simp only[Cu] at h;subst h;subst e;rfl
  ·cases h1:LQ S with
   |none=>rw[h1] at h;cases h
   |some p=>
    rw[h1] at h;simp only[CU] at h;cases h2:Ju f (S.drop p.2) with
    |none=>rw[h2] at h;cases h
    |some q=>
     rw[h2] at h;simp only[EZ,Cu] at h;subst h;have g1:=aA3 (l:=p.1) (k:=p.2) h1;have g2:=aoe f _ _ h2;simp only[LD,g1,g2,CU,EZ,Lb]
theorem aod:∀ (L:List (List (List UInt8))) (S:List UInt8) (f:Nat),LD L=some S→S.length≤64*f→S.length < 4294967296→Ju f S=some L
 |[],S,f,h,_,_=>by
  simp only[LD,Cu] at h;subst h;exact aoc f
 |l :: L,S,f,h,hf,hb=>by
  simp only[LD] at h;cases h1:Ie l with
  |none=>rw[h1] at h;cases h
  |some a=>
   rw[h1] at h;simp only[CU] at h;cases h2:LD L with
   |none=>rw[h2] at h;cases h
   |some b=>
    rw[h2] at h;simp only[EZ,Cu] at h;subst h;obtain⟨g1,g2⟩:=kT h1;rw[AA] at hf hb;obtain⟨f,rfl⟩:∃ f',f=f'+1:=⟨f -1,by omega⟩;have hne:¬ (a++b=[]):=fun e=>by
     have:=congrArg List.length e;rw[AA,IV] at this;omega
    simp only[Ju,A9 hne,aA1 h1 (by omega) b,CU];rw[Np rfl,aod L b f h2 (by omega) (by omega)];rfl
theorem bG(gen used:Nat):∃ z,mark gen used=[76,79,71,49]++(le 8 gen++(le 4 used++z)):=by
 unfold mark pad Ab.FN;generalize List.replicate _ (0:UInt8)=z;generalize le 4 (Ab.sum _)=y;exact⟨y++z,by simp only[DJ]⟩
theorem azl(gen used:Nat):((mark gen used).take 12).drop 4=le 8 gen:=by
 obtain⟨z,e⟩:=bG gen used;have h8:(le 8 gen).length=8:=Ab.Cb _ _;rw[e];have e1:([76,79,71,49]++(le 8 gen++(le 4 used++z))).take 12=[76,79,71,49]++le 8 gen:=by
  rw[←DJ];exact Jf (by rw[AA,h8];rfl)
 rw[e1];exact Np rfl
theorem azn(gen used:Nat):((mark gen used).take 16).drop 12=le 4 used:=by
 obtain⟨z,e⟩:=bG gen used;have h8:(le 8 gen).length=8:=Ab.Cb _ _;have h4:(le 4 used).length=4:=Ab.Cb _ _;rw[e];have e1:([76,79,71,49]++(le 8 gen++(le 4 used++z))).take 16=([76,79,71,49]++le 8 gen)++le 4 used:=by
  rw[←DJ,←DJ];exact Jf (by rw[AA,AA,h8,h4];rfl)
 rw[e1];exact Np (by rw[AA,h8];rfl)
theorem vN(gen used:Nat):mark gen used≠pad [0]:=fun h=>by
 obtain⟨z,e⟩:=bG gen used;rw[e] at h;have:=congrArg (fun l:List UInt8=>l.head?) h
 revert this
 simp[pad]
theorem anr{gen used n:Nat}{L:List (List (List UInt8))}{S R:List UInt8}(hg:gen < 18446744073709551616)(hu:used≤n -1)(hb:used < 60000000)(hL:LD L=some S)(hS:S.length=64*used):
  JQ (mark gen used++(S++R)) n=some (gen,used,L):=by
 have FK:=OA gen used;have v1:val (le 8 gen)=gen:=Zh 8 _ hg;have v2:val (le 4 used)=used:=Zh 4 _ (by show used < 4294967296;omega);unfold JQ;rw[Jf FK,Np FK,A9 (vN _ _),azl,azn,v1,v2,Ae ⟨rfl,hu⟩,Jf hS,aod L S used hL (by omega) (by omega)];rfl
theorem nV{s:List UInt8}{n gen used:Nat}{L:List (List (List UInt8))}(h:JQ s n=some (gen,used,L))(hs:64*n≤s.length)(hn:1≤n):
  used≤n -1∧gen < 18446744073709551616∧LD L=some ((s.drop 64).take (64*used))∧((s.take 64=pad [0]∧gen=0∧used=0)∨s.take 64=mark gen used):=by
 unfold JQ at h;split at h
 ·rename_i h0
  simp only[Cu,Nr] at h;obtain⟨rfl,rfl,rfl⟩:=h;exact⟨by omega,by decide,rfl,.inl ⟨h0,rfl,rfl⟩⟩
 ·split at h
  ·rename_i hm
   obtain⟨h1,h2⟩:=hm;cases h3:Ju (val (((s.take 64).take 16).drop 12)) ((s.drop 64).take (64*val (((s.take 64).take 16).drop 12))) with
   |none=>rw[h3] at h;cases h
   |some q=>
    rw[h3] at h;simp only[EZ,Cu,Nr] at h;obtain⟨rfl,rfl,rfl⟩:=h;have hv:=Ab.Jw (((s.take 64).take 12).drop 4);have hl:(((s.take 64).take 12).drop 4).length=8:=(by simp only[CF,Bc];omega);rw[hl] at hv;exact⟨h2,hv,aoe _ _ _ h3,.inr h1⟩
  ·cases h
theorem aAc{s:List UInt8}{n gen used:Nat}{L:List (List (List UInt8))}(h:JQ s n=some (gen,used,L))(hs:64*n≤s.length)(hn:1≤n)(GJ:n≤16384){l:List (List UInt8)}{a R:List UInt8}(hl:Ie l=some a)(hk:used+a.length / 64≤n -1):
  JQ (mark gen (used+a.length / 64)++((s.drop 64).take (64*used)++(a++R))) n=some (gen,used+a.length / 64,L++[l]):=by
 obtain⟨h1,h2,h3,_⟩:=nV h hs hn;obtain⟨g1,g2⟩:=kT hl;have:=anr (gen:=gen) (used:=used+a.length / 64) (n:=n) (L:=L++[l]) (S:=(s.drop 64).take (64*used)++a) (R:=R) h2 hk (by omega) (avK h3 hl) (by rw[AA,Bc,CF];omega);rwa[DJ] at this
theorem aAd{s t:List UInt8}{n gen used:Nat}{L:List (List (List UInt8))}(h:JQ s n=some (gen,used,L))(hs:64*n≤s.length)(hn:1≤n)(e:s.take (64+64*used)=t.take (64+64*used)):JQ t n=some (gen,used,L):=by
 obtain⟨h1,h2,h3,_⟩:=nV h hs hn;have e1:t.take 64=s.take 64:=by
  have:=congrArg (List.take 64) e;rw[List.take_take,List.take_take,Iq (by omega)] at this;exact this.symm
 have e2:(t.drop 64).take (64*used)=(s.drop 64).take (64*used):=by
  have:=congrArg (List.drop 64) e;rw[List.drop_take,List.drop_take,Nat.add_sub_cancel_left] at this;exact this.symm
 rw[←h];unfold JQ at h ⊢;rw[e1];split
 ·rfl
 ·rename_i h0
  rw[A9 h0] at h;split
  ·rename_i hm
   rw[Ae hm] at h;cases h4:Ju (val (((s.take 64).take 16).drop 12)) ((s.drop 64).take (64*val (((s.take 64).take 16).drop 12))) with
   |none=>rw[h4] at h;cases h
   |some q=>
    rw[h4] at h;simp only[EZ,Cu,Nr] at h;obtain⟨_,hu,_⟩:=h;rw[hu] at h4 ⊢;rw[e2,h4]
  ·rfl
end Aw
section
open Aw
def BA:List (A8→A8×Int)→A8→A8×Int
 |[],D=>(D,0)
 |f :: l,D=>if(f D).2=0 then BA l (f D).1 else f D
theorem eH(f:A8→A8×Int)(l:List (A8→A8×Int))(D:A8):BA (f :: l) D=if(f D).2=0 then BA l (f D).1 else f D:=rfl
def BI.acts(L:BI)(s:List UInt8):List (A8→A8×Int):=
 [fun D=>D.write ((L.from_+1+L.used:Nat):Int) s,A8.flush,fun D=>D.write (L.from_:Int) (Aw.mark L.gen (L.used+s.length / 64)),A8.flush]
def BI.Mw(L:BI):List (A8→A8×Int):=
 [fun D=>D.write (L.from_:Int) (Aw.mark ((L.gen+1) % 18446744073709551616) 0),A8.flush]
def BI.fell(L:BI)(k:Int):BI:={ L with fault:=k }
def BI.grown(L:BI)(l:List (List UInt8))(k:Nat):BI:={ L with used:=L.used+k,groups:=L.groups++[l] }
def BI.V4(L:BI):BI:={ L with gen:=(L.gen+1) % 18446744073709551616,used:=0,groups:=[] }
def DN(D:A8)(L:BI)(l:List (List UInt8)):A8×BI×Int:=
 if L.fault≠0 then(D,L,L.fault) else match Ie l with
 |none=>(D,L,5)
 |some s=>if L.n -1 -L.used < s.length / 64 then(D,L,4) else
  if(BA (L.acts s) D).2=0 then((BA (L.acts s) D).1,L.grown l (s.length / 64),0) else((BA (L.acts s) D).1,L.fell (BA (L.acts s) D).2,(BA (L.acts s) D).2)
def DX(D:A8)(L:BI):A8×BI×Int:=
 if L.fault≠0 then(D,L,L.fault) else
  if(BA L.Mw D).2=0 then((BA L.Mw D).1,L.V4,0) else((BA L.Mw D).1,L.fell (BA L.Mw D).2,(BA L.Mw D).2)
theorem ahS(c:Nat):∀ (l:List (A8→A8×Int)) (D:A8),(∀ f∈l,∀ D,(f D).1.loose.length≤D.loose.length+c)→(BA l D).1.loose.length≤D.loose.length+c*l.length
 |[],D,_=>by simp[BA]
 |f :: l,D,h=>by
  rw[eH];have h1:=h f Gl D;rw[BM,Nat.mul_add];split
  ·have:=ahS c l (f D).1 (fun g hg=>h g (Fs _ hg));omega
  ·have:c≤c*l.length+c*1:=(by omega);omega
def puts(a:Nat)(s:List UInt8):Nat→List (Nat×List UInt8)
 |0=>[]
 |n+1=>(a,s.take 64) :: puts (a+1) (s.drop 64) n
theorem aEs(D:A8)(hd:D.down=false)(a:Nat)(s:List UInt8)(n:Nat):
  (A8.writes D a s n).1.base=D.base∧(A8.writes D a s n).1.n=D.n∧
  (((A8.writes D a s n).2=0∧(A8.writes D a s n).1.down=false∧(A8.writes D a s n).1.loose=D.loose++puts a s n)∨
   ((A8.writes D a s n).2=40∧(A8.writes D a s n).1.down=true∧∃ P,(A8.writes D a s n).1.loose=D.loose++P∧∀ p∈P,a≤p.1∧p.1 < a+n)):=by
 induction n generalizing D a s with
 |zero=>exact⟨rfl,rfl,.inl ⟨rfl,hd,by simp[A8.writes,puts]⟩⟩
 |succ n ih=>
  simp only[A8.writes];split
  ·exact⟨rfl,rfl,.inr ⟨rfl,rfl,[],by simp,by simp⟩⟩
  ·obtain⟨h1,h2,h3⟩:=ih { D with loose:=D.loose++[(a,s.take 64)],left:=max (D.left -1) (-1) } hd (a+1) (s.drop 64);refine⟨h1,h2,?_⟩;rcases h3 with⟨g1,g2,g3⟩|⟨g1,g2,P,g3,g4⟩
   ·exact .inl ⟨g1,g2,by rw[g3];simp[puts]⟩
   ·refine .inr ⟨g1,g2,(a,s.take 64) :: P,by rw[g3];simp,fun p hp=>?_⟩;rcases Ch.1 hp with rfl|hp
    ·exact⟨Ag _,by show a < a+(n+1);omega⟩
    ·have:=g4 p hp;omega
theorem adz(f:Nat→List UInt8)(l:List (Nat×List UInt8))(k:Nat)(h:∀ p∈l,p.1≠k):A8.lay f l k=f k:=by
 induction l generalizing f with
 |nil=>rfl
 |cons p l ih=>
  show A8.lay _ l k=_
  rw[ih _ (fun q hq=>h q (Fs _ hq))];rw[A9 (fun e=>h p Gl e.symm)]
theorem ao8{a:Nat}{s:List UInt8}{n:Nat}:∀ p∈puts a s n,a≤p.1∧p.1 < a+n:=by
 induction n generalizing a s with
 |zero=>intro p hp;simp[puts] at hp
 |succ n ih=>
  intro p hp;simp only[puts] at hp;rcases Ch.1 hp with rfl|hp
  ·exact⟨Ag _,by show a < a+(n+1);omega⟩
  ·have:=ih p hp;omega
theorem aeD(f:Nat→List UInt8)(a:Nat)(s:List UInt8)(n:Nat)(hs:s.length=64*n):A8.text (A8.lay f (puts a s n)) a n=s:=by
 induction n generalizing f a s with
 |zero=>exact(List.eq_nil_of_length_eq_zero (by omega)).symm
 |succ n ih=>
  show A8.lay _ (puts (a+1) (s.drop 64) n) a++A8.text (A8.lay _ (puts (a+1) (s.drop 64) n)) (a+1) n=s
  rw[adz _ _ _ (fun p hp=>by have:=ao8 p hp;omega),ih _ _ _ (by rw[CF];omega),Ae rfl,Lb]
end
namespace Ah
open Ab (le val FN)
open Aw (pad)
abbrev T:=List UInt8
theorem Td(a:T):¬ a < a:=List.lt_irrefl a
theorem YY{a b c:T}(h:a < b)(k:b < c):a < c:=List.lt_trans h k
theorem nL(a b:T):a < b∨a=b∨b < a:=by
 by_cases h1:a < b
 ·exact .inl h1
 ·by_cases h2:b < a
  ·exact .inr (.inr h2)
  ·exact .inr (.inl (List.le_antisymm (List.not_lt.1 h2) (List.not_lt.1 h1)))
theorem LM{a b:T}(h:a < b):a≠b:=fun e=>Td b (by rwa[e] at h)
theorem RJ{a b:T}(h:a < b):¬ b < a:=fun k=>Td _ (YY h k)
abbrev M:=List (T×T)
def Up(F:M):Prop:=F.Pairwise (fun a b=>a.1 < b.1)
def get(F:M)(k:T):Option T:=(F.find? (fun p=>p.1 == k)).map (·.2)
def del(k:T)(F:M):M:=F.filter (fun p=>!(p.1 == k))
def put(k v:T)(F:M):M:=F.filter (fun p=>decide (p.1 < k))++(k,v) :: F.filter (fun p=>decide (k < p.1))
theorem Up.nil:Up []:=List.Pairwise.nil
theorem Up.nodup{F:M}(h:Up F):(F.map (·.1)).Nodup:=by
 rw[List.nodup_iff_pairwise_ne];exact List.pairwise_map.2 (h.imp fun h=>LM h)
theorem Up.del{F:M}(h:Up F)(k:T):Up (del k F):=h.filter _
theorem Up.put{F:M}(h:Up F)(k v:T):Up (put k v F):=by
 unfold Ah.put;refine List.pairwise_append.2 ⟨h.filter _,Ky.2 ⟨fun b hb=>?_,h.filter _⟩,fun a ha b hb=>?_⟩
 ·simpa using(G9.1 hb).2
 ·have h1:a.1 < k:=by simpa using(G9.1 ha).2
  rcases Ch.1 hb with rfl|hb
  ·exact h1
  ·exact YY h1 (by simpa using(G9.1 hb).2)
theorem filter_none{F:M}{p:T×T→Bool}(h:∀ x∈F,p x=false):F.filter p=[]:=List.filter_eq_nil_iff.2 fun x hx=>by rw[h x hx];simp
theorem filter_all{F:M}{p:T×T→Bool}(h:∀ x∈F,p x=true):F.filter p=F:=List.filter_eq_self.2 h
theorem atC{F:M}(h:Up F)(k:T):del k F=F.filter (fun p=>decide (p.1 < k))++F.filter (fun p=>decide (k < p.1)):=by
 induction F with
 |nil=>rfl
 |cons p F ih=>
  obtain⟨h1,h2⟩:=Ky.1 h;have ih:=ih h2;unfold del at ih ⊢;rcases nL p.1 k with e|e|e
  ·rw[QI (by simpa using LM e),QI (by simpa using e),PK (by simpa using List.not_lt.1 (RJ e)),ih];rfl
  ·have h3:∀ x∈F,k < x.1:=fun x hx=>e▸h1 x hx
   rw[PK (by simpa using e),PK (by rw[e];simp),PK (by rw[e];simp),ih]
  ·have h3:∀ x∈F,k < x.1:=fun x hx=>YY e (h1 x hx)
   rw[QI (by simpa using Ne.symm (LM e)),PK (by simpa using List.not_lt.1 (RJ e)),QI (by simpa using e)];have a1:F.filter (fun p=>decide (p.1 < k))=[]:=filter_none (fun x hx=>by simpa using List.not_lt.1 (RJ (h3 x hx)));have a2:F.filter (fun p=>decide (k < p.1))=F:=filter_all (fun x hx=>by simpa using h3 x hx);have a3:F.filter (fun p=>!(p.1 == k))=F:=filter_all (fun x hx=>by simpa using Ne.symm (LM (h3 x hx)));rw[a1,a2,a3];rfl
theorem bP{F:M}(h:Up F)(k v:T):(put k v F).Perm ((k,v) :: del k F):=by
 rw[atC h];exact List.perm_middle
theorem get_some{F:M}{k v:T}(h:get F k=some v):(k,v)∈F:=by
 unfold get at h;obtain⟨p,hp,rfl⟩:=Tt.1 h;have h1:=List.find?_some hp;simp at h1;subst h1;exact List.mem_of_find?_eq_some hp
theorem get_mem{F:M}(h:Up F){k v:T}(hm:(k,v)∈F):get F k=some v:=by
 induction F with
 |nil=>simp at hm
 |cons p F ih=>
  obtain⟨h1,h2⟩:=Ky.1 h;unfold get;rcases Ch.1 hm with e|hm
  ·subst e;simp
  ·have:¬ p.1=k:=fun e=>Td k (by have:=h1 _ hm;rwa[e] at this)
   rw[List.find?_cons_of_neg (by simpa using this)];exact ih h2 hm
theorem get_none{F:M}{k:T}:get F k=none↔∀ p∈F,p.1≠k:=by
 unfold get;rw[Option.map_eq_none_iff,List.find?_eq_none];simp
theorem Uo{F:M}(h:Up F){k v:T}{p:T×T}:p∈put k v F↔p=(k,v)∨(p∈F∧p.1≠k):=by
 rw[(bP h k v).mem_iff,Ch];unfold del;rw[G9];simp
theorem YZ{F:M}{k:T}{p:T×T}:p∈del k F↔p∈F∧p.1≠k:=by
 unfold del;rw[G9];simp
theorem get_put{F:M}(h:Up F)(k v j:T):get (put k v F) j=if j=k then some v else get F j:=by
 by_cases e:j=k
 ·subst e;rw[Ae rfl];exact get_mem (h.put _ _) ((Uo h).2 (.inl rfl))
 ·rw[A9 e];cases hg:get F j with
  |none=>
   rw[get_none] at hg ⊢;intro p hp;rcases(Uo h).1 hp with rfl|⟨hp,_⟩
   ·exact fun e'=>e e'.symm
   ·exact hg p hp
  |some x=>exact get_mem (h.put _ _) ((Uo h).2 (.inr ⟨get_some hg,e⟩))
theorem kR{F:M}(h:Up F)(k j:T):get (del k F) j=if j=k then none else get F j:=by
 by_cases e:j=k
 ·subst e;rw[Ae rfl,get_none];exact fun p hp=>(YZ.1 hp).2
 ·rw[A9 e];cases hg:get F j with
  |none=>
   rw[get_none] at hg ⊢;exact fun p hp=>hg p (YZ.1 hp).1
  |some x=>exact get_mem (h.del _) (YZ.2 ⟨get_some hg,e⟩)
theorem bZ:∀ {F G:M},Up F→Up G→(∀ p,p∈F↔p∈G)→F=G
 |[],[],_,_,_=>rfl
 |[],q :: G,_,_,h=>absurd ((h q).2 Gl) (by simp)
 |p :: F,[],_,_,h=>absurd ((h p).1 Gl) (by simp)
 |p :: F,q :: G,hF,hG,h=>by
  obtain⟨f1,f2⟩:=Ky.1 hF;obtain⟨g1,g2⟩:=Ky.1 hG;have e:p=q:=by
   rcases Ch.1 ((h p).1 Gl) with e|e
   ·exact e
   ·rcases Ch.1 ((h q).2 Gl) with e2|e2
    ·exact e2.symm
    ·exact absurd (g1 _ e) (RJ (f1 _ e2))
  subst e;rw[bZ f2 g2 (fun x=>?_)];constructor
  ·intro hx;rcases Ch.1 ((h x).1 (Fs _ hx)) with e|e
   ·exact absurd (f1 _ hx) (by rw[e];exact Td _)
   ·exact e
  ·intro hx;rcases Ch.1 ((h x).2 (Fs _ hx)) with e|e
   ·exact absurd (g1 _ hx) (by rw[e];exact Td _)
   ·exact e
structure Am where
 name:T
 data:T
 gone:Bool
def EX(name data:T):Bool:=decide (name≠[]∧name.length≤32∧data.length≤65535)
def Am.may(c:Am):Bool:=EX c.name c.data && (!c.gone || c.data.isEmpty)
def Am.on(F:M)(c:Am):M:=if c.gone then del c.name F else put c.name c.data F
def made(F:M)(l:List Am):M:=l.foldl Am.on F
theorem vM(F:M)(l:List Am)(c:Am):made F (l++[c])=Am.on (made F l) c:=by unfold made;rw[List.foldl_append];rfl
theorem vL(F:M)(l k:List Am):made F (l++k)=made (made F l) k:=by unfold made;rw[List.foldl_append]
theorem Up.on{F:M}(h:Up F)(c:Am):Up (Am.on F c):=by unfold Am.on;split;exact h.del _;exact h.put _ _
theorem Up.made{F:M}(h:Up F)(l:List Am):Up (made F l):=by
 induction l generalizing F with
 |nil=>exact h
 |cons c l ih=>exact ih (h.on c)
def Good(F:M):Prop:=∀ p∈F,EX p.1 p.2=true
theorem Good.on{F:M}(h:Good F)(hu:Up F){c:Am}(hc:c.may=true):Good (Am.on F c):=by
 unfold Am.may at hc;simp only[Bool.and_eq_true] at hc;unfold Am.on;intro p hp;split at hp
 ·exact h p (YZ.1 hp).1
 ·rcases(Uo hu).1 hp with rfl|⟨hp,_⟩
  ·exact hc.1
  ·exact h p hp
theorem Good.made{F:M}(h:Good F)(hu:Up F){l:List Am}(hl:∀ c∈l,c.may=true):Good (made F l):=by
 induction l generalizing F with
 |nil=>exact h
 |cons c l ih=>exact ih (h.on hu (hl c Gl)) (hu.on c) (fun x hx=>hl x (Fs _ hx))
theorem aiX{F:M}(hu:Up F)(l:List Am)(k:T):get (made F l) k=match l.reverse.find? (fun c=>c.name == k) with|none=>get F k|some c=>if c.gone then none else some c.data:=by
 induction l generalizing F with
 |nil=>rfl
 |cons c l ih=>
  show get (made (Am.on F c) l) k=_
  rw[ih (hu.on c),List.reverse_cons,List.find?_append];cases h:l.reverse.find? (fun c=>c.name == k) with
  |some x=>rfl
  |none=>
   simp only[Option.none_or,List.find?_cons,List.find?_nil];by_cases e:c.name=k
   ·subst e;simp only[beq_self_eq_true];unfold Am.on;split
    ·rw[kR hu,Ae rfl]
    ·rw[get_put hu,Ae rfl]
   ·have e2:(c.name == k)=false:=(by simpa using e);rw[e2];simp only;unfold Am.on;split
    ·rw[kR hu,A9 (fun h=>e h.symm)]
    ·rw[get_put hu,A9 (fun h=>e h.symm)]
def cost(p:T×T):Nat:=8+p.1.length+p.2.length
def used(F:M):Nat:=4+(F.map cost).sum
def TP(p:T×T):T:=le 4 p.1.length++(p.1++(le 4 p.2.length++p.2))
def bytes(F:M):T:=le 4 F.length++F.flatMap TP
theorem au8(p:T×T):(TP p).length=cost p:=by unfold TP cost;simp[Ab.Cb];omega
theorem sI(F:M):(F.flatMap TP).length=(F.map cost).sum:=by
 induction F with
 |nil=>rfl
 |cons p F ih=>rw[PL,AA,ih,au8];rfl
theorem aas(F:M):(bytes F).length=used F:=by unfold bytes used;rw[AA,Ab.Cb,sI]
theorem apW{F:M}{p:T×T}(h:p∈F):cost p+4≤used F:=by
 unfold used;have:cost p≤(F.map cost).sum:=by
  induction F with
  |nil=>simp at h
  |cons q F ih=>
   rw[Ce,DY];rcases Ch.1 h with rfl|h
   ·omega
   ·have:=ih h;omega
 omega
theorem RV(F:M):4+8*F.length≤used F:=by
 unfold used;have:8*F.length≤(F.map cost).sum:=by
  induction F with
  |nil=>simp
  |cons q F ih=>rw[Ce,DY,BM];unfold cost at ih ⊢;omega
 omega
def cut(s:T):Option (T×T):=if s.length < 4 then none else if val (s.take 4)≤s.length -4 then some ((s.take (4+val (s.take 4))).drop 4,s.drop (4+val (s.take 4))) else none
def Un(last:Option T)(k:T):Bool:=match last with|none=>true|some x=>decide (x < k)
def Kn:Nat→Option T→T→Option (M×T)
 |0,_,s=>some ([],s)
 |n+1,last,s=>(cut s).bind fun p=>(cut p.2).bind fun q=>if EX p.1 q.1=true∧Un last p.1=true then(Kn n (some p.1) q.2).map fun r=>((p.1,q.1) :: r.1,r.2) else none
def read(s:T):Option M:=if s.length < 4 then none else(Kn (val (s.take 4)) none (s.drop 4)).bind fun r=>if r.2=[] then some r.1 else none
theorem aaG(s R:T)(h:s.length < 4294967296):cut (le 4 s.length++(s++R))=some (s,R):=by
 have e1:(le 4 s.length++(s++R)).take 4=le 4 s.length:=Jf (Ab.Cb _ _);have e2:val (le 4 s.length)=s.length:=Aw.Zh 4 _ (by omega);unfold cut;rw[e1,e2,A9 (by simp[Ab.Cb]),Ae (by simp[Ab.Cb])];have e3:(le 4 s.length++(s++R)).drop 4=s++R:=Np (Ab.Cb _ _);have e4:(le 4 s.length++(s++R)).drop (4+s.length)=R:=by rw[←List.drop_drop,e3,Np rfl]
 have e5:((le 4 s.length++(s++R)).take (4+s.length)).drop 4=s:=by
  rw[List.drop_take,e3,show 4+s.length -4=s.length by omega,Jf rfl]
 rw[e4,e5]
theorem Ww{s p q:T}(h:cut s=some (p,q)):4≤s.length∧p.length+q.length+4=s.length:=by
 unfold cut at h;split at h
 ·cases h
 ·split at h
  ·simp only[Cu,Nr] at h;obtain⟨rfl,rfl⟩:=h;rw[CF,CF,Bc];omega
  ·cases h
theorem aob:∀ (F:M) (last:Option T) (R:T),Up F→Good F→(∀ x,last=some x→∀ p∈F,x < p.1)→Kn F.length last (F.flatMap TP++R)=some (F,R)
 |[],_,R,_,_,_=>rfl
 |p :: F,last,R,hu,hg,hl=>by
  obtain⟨u1,u2⟩:=Ky.1 hu;have g1:=hg p Gl;have g2:p.1.length≤32∧p.2.length≤65535:=by unfold EX at g1;simp at g1;exact⟨g1.2.1,g1.2.2⟩
  rw[BM,PL];unfold Kn;have e1:TP p++F.flatMap TP++R=le 4 p.1.length++(p.1++(le 4 p.2.length++(p.2++(F.flatMap TP++R)))):=by unfold TP;simp only[DJ]
  rw[e1,aaG _ _ (by omega)];simp only[CU];rw[aaG _ _ (by omega)];simp only[CU];have hn:Un last p.1=true:=by
   cases last with
   |none=>rfl
   |some x=>simpa[Un] using hl x rfl p Gl
  rw[Ae ⟨g1,hn⟩,aob F (some p.1) R u2 (fun q hq=>hg q (Fs _ hq)) (fun x hx q hq=>by cases hx;exact u1 q hq)];rfl
theorem aBd{F:M}(hu:Up F)(hg:Good F)(hn:F.length < 4294967296):read (bytes F)=some F:=by
 unfold read bytes;rw[A9 (by simp[Ab.Cb]),Jf (Ab.Cb _ _),Np (Ab.Cb _ _),Aw.Zh 4 _ (by omega)];have:=aob F none [] hu hg (fun x e=>by cases e);rw[Eg] at this;rw[this];rfl
def V6(g:Bool):UInt8:=if g then 1 else 0
def group(l:List Am):List T:=l.flatMap fun c=>[V6 c.gone :: c.name,c.data]
def ungroup:List T→Option (List Am)
 |[]=>some []
 |[_]=>none
 |[] :: _ :: _=>none
 |(b :: n) :: d :: l=>if b.toNat≤1∧Am.may ⟨n,d,b == 1⟩=true then(ungroup l).map (⟨n,d,b == 1⟩ :: ·) else none
theorem avI(l:List Am)(c:Am):group (l++[c])=group l++[V6 c.gone :: c.name,c.data]:=by unfold group;simp
theorem aj0(l:List Am):(group l).length=2*l.length:=by
 induction l with
 |nil=>rfl
 |cons c l ih=>show(_ :: _ :: group l).length=_;simp[ih];omega
theorem apL:∀ (l:List Am),(∀ c∈l,c.may=true)→ungroup (group l)=some l
 |[],_=>rfl
 |c :: l,h=>by
  show ungroup ((V6 c.gone :: c.name) :: c.data :: group l)=_
  have hc:=h c Gl;have e:(V6 c.gone == 1)=c.gone:=by unfold V6;cases c.gone<;>rfl
  have e2:(V6 c.gone).toNat≤1:=by unfold V6;cases c.gone<;>decide
  simp only[ungroup];rw[e,Ae ⟨e2,hc⟩,apL l (fun x hx=>h x (Fs _ hx))];rfl
end Ah
section
open Aw
structure A8.Calm(D:A8):Prop where
 fine:D.Cg
 loose:D.loose=[]
 up:D.down=false
theorem A8.Calm.now{D:A8}(h:D.Calm):D.now=D.base:=by unfold A8.now;rw[h.loose];rfl
theorem ahR(a b:List (A8→A8×Int))(D:A8):BA (a++b) D=if(BA a D).2=0 then BA b (BA a D).1 else BA a D:=by
 induction a generalizing D with
 |nil=>simp[BA]
 |cons f a ih=>
  rw[I5,eH,eH];by_cases h:(f D).2=0
  ·rw[Ae h,Ae h,ih]
  ·rw[A9 h,A9 h,A9 h]
def Wrote(D:A8)(at_ k:Nat)(s:List UInt8)(r:A8×Int):Prop:=
 (r.2=0∧r.1.Calm∧r.1.n=D.n∧r.1.base=A8.lay D.base (puts at_ s k)∧(D.left= -1→r.1.left= -1))∨
 (r.2=40∧D.left≠ -1∧r.1.Cg∧r.1.down=true∧r.1.n=D.n∧∀ keep,∀ j,j < at_∨at_+k≤j∨k=1→(r.1.Od keep).base j=D.base j)
theorem aEq(D:A8)(a:Nat)(s:List UInt8)(n:Nat)(h:D.left= -1):(A8.writes D a s n).2=0∧(A8.writes D a s n).1.left= -1:=by
 induction n generalizing D a s with
 |zero=>exact⟨rfl,h⟩
 |succ n ih=>
  simp only[A8.writes];rw[A9 (by omega)];exact ih _ _ _ (by show max (D.left -1) (-1)= -1;omega)
theorem p9{D:A8}(h:D.Calm){at_ k:Nat}{s:List UInt8}(hs:s.length=64*k)(hk:at_+k≤D.n):Wrote D at_ k s (BA [fun D=>D.write (at_:Int) s,A8.flush] D):=by
 have hF:=h.fine;have GJ:=hF.n2;have hW:D.write (at_:Int) s=A8.writes D at_ s k:=by
  unfold A8.write;rw[A9 (by simp[h.up]),Ae ⟨by omega,by simp[A8.inside];omega⟩,show s.length / 64=k by omega];rfl
 have hl:=fun e=>aEq D at_ s k e
 obtain⟨w1,w2,w3⟩:=aEs D h.up at_ s k;have hF1:=hF.writes (at_:=at_) (s:=s) (n:=k) (by omega) (by omega);have gH:k=1→(A8.writes D at_ s k).2=40→(A8.writes D at_ s k).1.loose=[]:=by
  rintro rfl;simp only[A8.writes];split
  ·intro _;exact h.loose
  ·intro e;cases e
 rw[eH]
 show Wrote D at_ k s (if(D.write (at_:Int) s).2=0 then _ else D.write (at_:Int) s)
 rw[hW];generalize A8.writes D at_ s k=r at*;obtain⟨D1,e1⟩:=r;simp only at*;rcases w3 with⟨rfl,g2,g3⟩|⟨rfl,g2,P,g3,g4⟩
 ·rw[Ae rfl];rw[h.loose,EE] at g3;have J5:D1.flush=({ D1 with base:=A8.lay D1.base D1.loose,loose:=[] },0):=by unfold A8.flush;rw[A9 (by simp[g2])]
  have tK:=hF1.flush;rw[J5] at tK;rw[eH,J5,Ae rfl];refine .inl ⟨rfl,⟨tK,rfl,g2⟩,w2,?_,fun e=>(hl e).2⟩
  show A8.lay D1.base D1.loose=_
  rw[w1,g3]
 ·rw[A9 (by decide)];refine .inr ⟨rfl,fun e=>by have:=(hl e).1;simp at this,hF1,g2,w2,fun keep j hj=>?_⟩;have e2:(D1.Od keep).base=A8.lay D1.base (A8.kept D1 keep):=rfl;rw[e2,adz,w1];intro p hp;have EI:=A8.amn 0 _ p hp;rcases hj with hj|hj|hj
  ·rw[g3,h.loose,EE] at EI;have:=g4 p EI;omega
  ·rw[g3,h.loose,EE] at EI;have:=g4 p EI;omega
  ·rw[gH hj rfl] at EI;simp at EI
def logAt(f:Nat→List UInt8)(L:BI):Prop:=JQ (A8.text f L.from_ L.n) L.n=some (L.gen,L.used,L.groups)
theorem adE{f g:Nat→List UInt8}{L:BI}(h:logAt f L)(e:∀ j,L.from_≤j→j < L.from_+L.n→g j=f j):logAt g L:=by
 unfold logAt at*;rw[A8.QE (g:=f) _ _ (fun i a b=>e i a b)];exact h
theorem amJ{D:A8}(hD:D.Cg){L:BI}(h:logAt D.base L)(h1:1≤L.n)(hn:L.from_+L.n≤D.n){g:Nat→List UInt8}
  (e:∀ j,L.from_≤j→j < L.from_+1+L.used→g j=D.base j):logAt g L:=by
 unfold logAt at*;have GZ:(A8.text D.base L.from_ L.n).length=64*L.n:=A8.oH hD.base _ _ (by omega);have hu:=(nV h (by omega) h1).1;refine aAd h (by omega) h1 ?_;obtain⟨m,hm⟩:∃ m,L.n=1+L.used+m:=⟨L.n -(1+L.used),by omega⟩;have e2:=A8.QE (f:=g) (g:=D.base) L.from_ (1+L.used) (fun i a b=>e i a (by omega));rw[hm,A8.Zc D.base L.from_ (1+L.used) m,A8.Zc g L.from_ (1+L.used) m,e2];rw[show 64+64*L.used=64*(1+L.used) by omega,Jf (A8.YW (fun i a b=>hD.base i (by omega))),Jf (A8.YW (fun i a b=>hD.base i (by omega)))]
def aqt(D:A8)(L:BI)(l:List (List UInt8))(k:Nat)(r:A8×BI×Int):Prop:=
 (r.2.2=0∧r.2.1=L.grown l k∧r.1.Calm∧r.1.n=D.n∧logAt r.1.base (L.grown l k)∧(∀ j,j < L.from_∨L.from_+L.n≤j→r.1.base j=D.base j)∧(D.left= -1→r.1.left= -1))∨
 (r.2.2=40∧D.left≠ -1∧r.2.1=L.fell 40∧r.1.Cg∧r.1.down=true∧r.1.n=D.n∧∀ keep,logAt (r.1.Od keep).base L∧∀ j,j < L.from_∨L.from_+L.n≤j→(r.1.Od keep).base j=D.base j)
theorem RG(f:Nat→List UInt8)(a:Nat)(s:List UInt8)(k j:Nat)(h:j < a∨a+k≤j):A8.lay f (puts a s k) j=f j:=adz _ _ _ (fun p hp=>by have:=ao8 p hp;omega)
theorem adA(f:Nat→List UInt8)(a:Nat)(s:List UInt8)(hs:s.length=64):A8.lay f (puts a s 1) a=s:=by
 have:=aeD f a s 1 (by omega);simpa[A8.text] using this
theorem avN{f:Nat→List UInt8}{a n u k:Nat}{s M:List UInt8}(hs:s.length=64*k)(hM:M.length=64)(hk:u+k+1≤n)(hf:∀ i,a≤i→i < a+n→(f i).length=64):
  A8.text (A8.lay (A8.lay f (puts (a+1+u) s k)) (puts a M 1)) a n=M++(((A8.text f a n).drop 64).take (64*u)++(s++A8.text f (a+1+u+k) (n -1 -u -k))):=by
 obtain⟨m,KT⟩:∃ m,n=m+1:=⟨n -1,by omega⟩;subst KT
 show _++A8.text _ (a+1) m=_
 rw[adA _ _ _ hM]
 congr 1
 rw[A8.QE (g:=A8.lay f (puts (a+1+u) s k)) (a+1) m (fun i a1 a2=>RG _ _ _ _ _ (by omega))];obtain⟨q,rfl⟩:∃ q,m=u+(k+q):=⟨m -(u+k),by omega⟩;rw[A8.Zc,A8.Zc];have t1:A8.text (A8.lay f (puts (a+1+u) s k)) (a+1) u=((A8.text f a (u+(k+q)+1)).drop 64).take (64*u):=by
  rw[A8.QE (g:=f) (a+1) u (fun i a1 a2=>RG _ _ _ _ _ (by omega))]
  show _=((f a++A8.text f (a+1) _).drop 64).take _
  rw[Np (hf a (by omega) (by omega)),A8.Zc,Jf (A8.YW (fun i a1 a2=>hf i (by omega) (by omega)))]
 rw[t1,aeD _ _ _ _ hs,A8.QE (g:=f) (a+1+u+k) q (fun i a1 a2=>RG _ _ _ _ _ (by omega)),show u+(k+q)+1 -1 -u -k=q by omega]
theorem aEc{D:A8}{L:BI}(h:D.Calm)(hl:logAt D.base L)(hf:L.fault=0)(h2:2≤L.n)(hn:L.from_+L.n≤D.n){l:List (List UInt8)}{s:List UInt8}(hg:Ie l=some s)(Jo:¬ L.n -1 -L.used < s.length / 64):
  aqt D L l (s.length / 64) (DN D L l):=by
 obtain⟨WG,aFn⟩:=kT hg;have hF:=h.fine;have GJ:=hF.n2;have hlen:(A8.text D.base L.from_ L.n).length=64*L.n:=A8.oH hF.base _ _ (by omega);have hu:=(nV hl (by omega) (by omega)).1;obtain⟨k,hk⟩:∃ k,k=s.length / 64:=⟨_,rfl⟩;rw[←hk] at Jo ⊢;have CS:s.length=64*k:=by omega
 have hm:=Aw.OA L.gen (L.used+k);have abO:L.acts s=[fun D=>D.write ((L.from_+1+L.used:Nat):Int) s,A8.flush]++[fun D=>D.write (L.from_:Int) (Aw.mark L.gen (L.used+k)),A8.flush]:=by unfold BI.acts;rw[←hk];rfl
 have axk:DN D L l=if(BA (L.acts s) D).2=0 then((BA (L.acts s) D).1,L.grown l k,0) else((BA (L.acts s) D).1,L.fell (BA (L.acts s) D).2,(BA (L.acts s) D).2):=by
  unfold DN;rw[A9 (by simp[hf]),hg];simp only;rw[←hk,A9 Jo]
 rw[axk,abO,ahR];have w1:=p9 h (at_:=L.from_+1+L.used) (k:=k) (s:=s) CS (by omega);generalize BA [fun D=>D.write ((L.from_+1+L.used:Nat):Int) s,A8.flush] D=r1 at*;rcases w1 with⟨e1,c1,n1,b1,l1⟩|⟨e1,l1,f1,d1,n1,b1⟩
 ·rw[Ae e1];have w2:=p9 c1 (at_:=L.from_) (k:=1) (s:=Aw.mark L.gen (L.used+k)) (by omega) (by omega);generalize BA [fun D=>D.write (L.from_:Int) (Aw.mark L.gen (L.used+k)),A8.flush] r1.1=r2 at*;rcases w2 with⟨e2,c2,n2,b2,l2⟩|⟨e2,l2,f2,d2,n2,b2⟩
  ·rw[Ae e2];refine .inl ⟨rfl,rfl,c2,n2.trans n1,?_,fun j hj=>?_,fun e=>l2 (l1 e)⟩
   ·have U4:=aAc hl (by omega) (by omega) (by omega) hg (R:=A8.text D.base (L.from_+1+L.used+k) (L.n -1 -L.used -k)) (by omega)
    show JQ (A8.text _ L.from_ L.n) L.n=some (L.gen,L.used+k,L.groups++[l])
    rw[←hk] at U4;refine Eq.trans ?_ U4;rw[b2,b1]
    congr 1
    exact avN CS hm (by omega) (fun i a b=>hF.base i (by omega))
   ·rw[b2,RG _ _ _ _ _ (by omega),b1,RG _ _ _ _ _ (by omega)]
  ·rw[A9 (by rw[e2];decide),e2];refine .inr ⟨rfl,fun e=>l2 (l1 e),rfl,f2,d2,n2.trans n1,fun keep=>⟨?_,fun j hj=>?_⟩⟩
   ·refine amJ hF hl (by omega) hn (fun j a b=>?_);rw[b2 keep j (.inr (.inr rfl)),b1,RG _ _ _ _ _ (by omega)]
   ·rw[b2 keep j (.inr (.inr rfl)),b1,RG _ _ _ _ _ (by omega)]
 ·have hne:r1.2≠0:=by rw[e1];decide
  rw[A9 hne,A9 hne,e1];refine .inr ⟨rfl,l1,rfl,f1,d1,n1,fun keep=>⟨?_,fun j hj=>?_⟩⟩
  ·exact amJ hF hl (by omega) hn (fun j a b=>b1 keep j (by omega))
  ·exact b1 keep j (by omega)
def afi(D:A8)(L:BI)(r:A8×BI×Int):Prop:=
 (r.2.2=0∧r.2.1=L.V4∧r.1.Calm∧r.1.n=D.n∧logAt r.1.base L.V4∧(∀ j,j < L.from_∨L.from_+L.n≤j→r.1.base j=D.base j)∧(D.left= -1→r.1.left= -1))∨
 (r.2.2=40∧D.left≠ -1∧r.2.1=L.fell 40∧r.1.Cg∧r.1.down=true∧r.1.n=D.n∧∀ keep,∀ j,(r.1.Od keep).base j=D.base j)
theorem aqr{D:A8}{L:BI}(h:D.Calm)(hf:L.fault=0)(h2:2≤L.n)(hn:L.from_+L.n≤D.n):afi D L (DX D L):=by
 have hF:=h.fine;have GJ:=hF.n2;have hm:=Aw.OA ((L.gen+1) % 18446744073709551616) 0;have Ec:(L.gen+1) % 18446744073709551616 < 18446744073709551616:=Nat.mod_lt _ (by decide);have w1:=p9 h (at_:=L.from_) (k:=1) (s:=Aw.mark ((L.gen+1) % 18446744073709551616) 0) (by omega) (by omega);unfold DX BI.Mw;rw[A9 (by simp[hf])];have uy:L.V4={ L with gen:=(L.gen+1) % 18446744073709551616,used:=0,groups:=[] }:=rfl;unfold afi;rw[uy];generalize (L.gen+1) % 18446744073709551616=g2 at*;generalize BA [fun D=>D.write (L.from_:Int) (Aw.mark g2 0),A8.flush] D=r1 at*;rcases w1 with⟨e1,c1,n1,b1,l1⟩|⟨e1,l1,f1,d1,n1,b1⟩
 ·rw[Ae e1];refine .inl ⟨rfl,rfl,c1,n1,?_,fun j hj=>by show r1.1.base j=_;rw[b1,RG _ _ _ _ _ (by omega)],l1⟩
  show JQ (A8.text r1.1.base L.from_ L.n) L.n=some (g2,0,[])
  obtain⟨m,KT⟩:∃ m,L.n=m+1:=⟨L.n -1,by omega⟩;rw[KT,b1]
  show JQ (A8.lay D.base (puts L.from_ (Aw.mark g2 0) 1) L.from_++A8.text _ (L.from_+1) m) (m+1)=_
  rw[adA _ _ _ hm];exact anr (L:=[]) (S:=[]) Ec (by omega) (by decide) rfl rfl
 ·have hne:r1.2≠0:=by rw[e1];decide
  rw[A9 hne,e1];exact .inr ⟨rfl,l1,rfl,f1,d1,n1,fun keep j=>b1 keep j (.inr (.inr rfl))⟩
end
namespace Ah
open Ab (le val FN)
open Aw
structure St where
 log:Nat
 size:Nat
 AL:Nat
 m:M
 w:BI
 fault:Int
def lg(n:Nat):Nat:=max (n / 8) 2
def sz(n:Nat):Nat:=(n -1 -lg n) / 2
theorem bE{n:Nat}(h:8≤n):2≤lg n∧2≤sz n∧1+lg n+2*sz n≤n:=by unfold sz lg;omega
def mark(AL num:Nat):T:=pad (FN ([70,73,76,49]++[UInt8.ofNat AL]++le 8 num))
theorem OA(AL num:Nat):(mark AL num).length=64:=by
 unfold mark;rw[Te,Ab.RP];simp[Ab.Cb]
def D9(log size AL:Nat):Nat:=1+log+AL*size
def NU(f:Nat→T)(log size:Nat):Option (Nat×Nat×M):=
 if f 0=pad [0] then some (0,0,[]) else
 if((f 0).getD 4 0).toNat≤1∧f 0=mark ((f 0).getD 4 0).toNat (val (((f 0).take 13).drop 5)) then
  (cut (A8.text f (D9 log size ((f 0).getD 4 0).toNat) size)).bind fun p=>(read p.1).map fun m=>(((f 0).getD 4 0).toNat,val (((f 0).take 13).drop 5),m)
 else none
def QF:List (List T)→Option (List (List Am))
 |[]=>some []
 |g :: G=>(ungroup g).bind fun c=>(QF G).map (c :: ·)
def PE(m:M)(cs:List (List Am)):M:=cs.foldl made m
theorem aDq(G:List (List T))(g:List T):QF (G++[g])=(QF G).bind fun cs=>(ungroup g).map fun c=>cs++[c]:=by
 induction G with
 |nil=>cases h:ungroup g<;>simp[QF,h]
 |cons x G ih=>
  rw[I5];simp only[QF,ih];cases ungroup x with
  |none=>rfl
  |some a=>
   cases QF G with
   |none=>rfl
   |some b=>
    cases ungroup g with
    |none=>rfl
    |some c=>rfl
theorem amR(m:M)(cs:List (List Am))(c:List Am):PE m (cs++[c])=made (PE m cs) c:=by unfold PE;rw[List.foldl_append];rfl
theorem aeO:∀ (n:Nat) (l:List T) (cs:List Am),l.length≤n→ungroup l=some cs→∀ c∈cs,c.may=true:=by
 intro n
 induction n with
 |zero=>
  intro l cs hn h c hc;obtain rfl:l=[]:=List.eq_nil_of_length_eq_zero (by omega);simp only[ungroup,Cu] at h;subst h;simp at hc
 |succ n ih=>
  intro l cs hn h
  match l,h with
  |[],h=>
   simp only[ungroup,Cu] at h;subst h;intro c hc;simp at hc
  |[_],h=>simp[ungroup] at h
  |[] :: _ :: _,h=>simp[ungroup] at h
  |(b :: k) :: d :: l,h=>
   simp only[ungroup] at h;split at h
   ·rename_i hm
    obtain⟨ds,hd,rfl⟩:=Tt.1 h;intro c hc;rcases Ch.1 hc with rfl|hc
    ·exact hm.2
    ·exact ih l ds (by simp at hn;omega) hd c hc
   ·cases h
def iB(D:A8):Option St×A8×Int:=
 if D.n < 8 then(none,D,2) else if D.down=true then(none,D,40) else
 match NU D.now (lg D.n) (sz D.n) with
 |none=>(none,D,50)
 |some (a,num,m)=>match JQ (A8.text D.now 1 (lg D.n)) (lg D.n) with
  |none=>(none,D,50)
  |some (g,u,G)=>if 0 < num∧g < num -1 then(none,D,50) else
   match QF G with
   |none=>(none,D,50)
   |some cs=>if g < num then
     (if(DX D ⟨1,lg D.n,g,u,G,0⟩).2.2=0 then(some ⟨lg D.n,sz D.n,a,m,(DX D ⟨1,lg D.n,g,u,G,0⟩).2.1,0⟩,(DX D ⟨1,lg D.n,g,u,G,0⟩).1,0)
      else(none,(DX D ⟨1,lg D.n,g,u,G,0⟩).1,(DX D ⟨1,lg D.n,g,u,G,0⟩).2.2))
    else(some ⟨lg D.n,sz D.n,a,PE m cs,⟨1,lg D.n,g,u,G,0⟩,0⟩,D,0)
def R3(m:M):T:=pad (le 4 (bytes m).length++bytes m)
def Ik(F:St)(m:M):List (A8→A8×Int):=
 [fun D=>D.write ((D9 F.log F.size (1 -F.AL):Nat):Int) (R3 m),A8.flush,fun D=>D.write ((0:Nat):Int) (mark (1 -F.AL) ((F.w.gen+1) % 18446744073709551616)),A8.flush]
def PD(D:A8)(F:St)(m:M):A8×St×Int:=
 if(BA (Ik F m) D).2=0 then
  if(DX (BA (Ik F m) D).1 F.w).2.2=0 then((DX (BA (Ik F m) D).1 F.w).1,{ F with AL:=1 -F.AL,m:=m,w:=(DX (BA (Ik F m) D).1 F.w).2.1 },0)
  else((DX (BA (Ik F m) D).1 F.w).1,{ F with AL:=1 -F.AL,w:=(DX (BA (Ik F m) D).1 F.w).2.1,fault:=(DX (BA (Ik F m) D).1 F.w).2.2 },(DX (BA (Ik F m) D).1 F.w).2.2)
 else((BA (Ik F m) D).1,{ F with AL:=1 -F.AL,fault:=(BA (Ik F m) D).2 },(BA (Ik F m) D).2)
def St.room(F:St):Nat:=F.size*64 -4
def St.fits(F:St)(l:List T):Bool:=match Ie l with|none=>false|some s=>decide (s.length / 64≤F.w.n -1 -F.w.used)
def Kb(D:A8)(F:St)(l:List Am):A8×St×Int:=
 if F.fault≠0 then(D,F,F.fault) else if l.all Am.may=false then(D,F,2) else
 if F.room < used (made F.m l) then(D,F,4) else
 if F.fits (group l)=true then
  if(DN D F.w (group l)).2.2=0 then((DN D F.w (group l)).1,{ F with m:=made F.m l,w:=(DN D F.w (group l)).2.1 },0)
  else((DN D F.w (group l)).1,{ F with w:=(DN D F.w (group l)).2.1,fault:=(DN D F.w (group l)).2.2 },(DN D F.w (group l)).2.2)
 else PD D F (made F.m l)
structure Calm(D:A8)(F:St):Prop where
 disk:D.Calm
 n8:8≤D.n
 log:F.log=lg D.n
 size:F.size=sz D.n
 AL:F.AL≤1
 Uw:F.w.from_=1
 wn:F.w.n=F.log
 Ed:logAt D.base F.w
 wf:F.w.fault=0
 fault:F.fault=0
 good:Good F.m
 up:Up F.m
 room:used F.m≤F.room
 load:∃ num A cs,NU D.base F.log F.size=some (F.AL,num,A)∧num≤F.w.gen∧QF F.w.groups=some cs∧F.m=PE A cs
def r9(D:A8)(F:St)(D':A8):Prop:=iB D=(some F,D',0)∧Calm D' F∧D'.n=D.n
theorem Calm.opens{D:A8}{F:St}(h:Calm D F):r9 D F D:=by
 refine⟨?_,h,rfl⟩;obtain⟨num,A,cs,h1,h2,h3,h4⟩:=h.load;have hw:=h.Ed;unfold logAt at hw;rw[h.Uw,h.wn,h.log] at hw;rw[h.log,h.size] at h1;unfold iB;rw[A9 (by have:=h.n8;omega),A9 (by simp[h.disk.up]),h.disk.now,h1];simp only;rw[hw];simp only;rw[A9 (by omega),h3];simp only;rw[A9 (by omega),←h4];have e:(⟨1,lg D.n,F.w.gen,F.w.used,F.w.groups,0⟩:BI)=F.w:=by
  have a1:=h.Uw;have a2:=h.wn;have a3:=h.wf;have a4:=h.log;cases hF:F.w;rw[hF] at a1 a2 a3;simp only at a1 a2 a3;subst a1 a3;rw[a2,a4]
 rw[e];have a1:=h.log;have a2:=h.size;have a3:=h.fault;cases F;simp only at a1 a2 a3;subst a1 a2 a3;rfl
theorem amH{f g:Nat→T}{log size a num:Nat}{A:M}(h:NU f log size=some (a,num,A))(h0:g 0=f 0)(h1:∀ j,D9 log size a≤j→j < D9 log size a+size→g j=f j):NU g log size=some (a,num,A):=by
 unfold NU at*;rw[h0];by_cases h2:f 0=pad [0]
 ·rw[Ae h2] at h ⊢;exact h
 ·rw[A9 h2] at h ⊢;by_cases h3:((f 0).getD 4 0).toNat≤1∧f 0=mark ((f 0).getD 4 0).toNat (val (((f 0).take 13).drop 5))
  ·rw[Ae h3] at h;have ha:((f 0).getD 4 0).toNat=a:=by
    cases hc:cut (A8.text f (D9 log size ((f 0).getD 4 0).toNat) size) with
    |none=>rw[hc] at h;cases h
    |some p=>
     rw[hc] at h;simp only[CU] at h;obtain⟨m,_,e⟩:=Tt.1 h;simp only[Nr] at e;exact e.1
   rw[Ae h3,ha,A8.QE (g:=f) _ _ (fun i b c=>h1 i b (by omega))];rw[ha] at h;exact h
  ·rw[A9 h3] at h;cases h
theorem Calm.near{D E:A8}{F F':St}(h:Calm D F)(hE:E.Calm)(hn:E.n=D.n)(hl:logAt E.base F'.w)(e:F'={ F with w:=F'.w })(e1:F'.w.from_=1)(e2:F'.w.n=F.w.n)(e3:F'.w.fault=0)(hg:F.w.gen≤F'.w.gen)(hG:F'.w.groups=F.w.groups)
  (hb:∀ j,(j=0∨D9 F.log F.size F.AL≤j∧j < D9 F.log F.size F.AL+F.size)→E.base j=D.base j):Calm E F':=by
 obtain⟨num,A,cs,h1,h2,h3,h4⟩:=h.load;have f1:F'.log=F.log:=by rw[e]
 have f2:F'.size=F.size:=by rw[e]
 have f3:F'.AL=F.AL:=by rw[e]
 have f4:F'.m=F.m:=by rw[e]
 have f5:F'.fault=F.fault:=by rw[e]
 refine⟨hE,by rw[hn];exact h.n8,by rw[f1,hn];exact h.log,by rw[f2,hn];exact h.size,by rw[f3];exact h.AL,e1,by rw[e2,f1];exact h.wn,hl,e3,by rw[f5];exact h.fault,by rw[f4];exact h.good,by rw[f4];exact h.up,by unfold St.room;rw[f4,f2];exact h.room,num,A,cs,?_,by omega,by rw[hG];exact h3,by rw[f4];exact h4⟩;rw[f1,f2,f3];exact amH h1 (hb 0 (.inl rfl)) (fun j a b=>hb j (.inr ⟨a,b⟩))
theorem aAi:pad [0]=List.replicate 64 0:=rfl
theorem Calm.new{n:Nat}(h8:8≤n)(hn:n≤16384):Calm (A8.new n) ⟨lg n,sz n,0,[],⟨1,lg n,0,0,[],0⟩,0⟩:=by
 obtain⟨h1,h2,h3⟩:=bE h8;refine⟨⟨A8.Cg.new (by omega) hn,rfl,rfl⟩,h8,rfl,rfl,AV _,rfl,rfl,?_,rfl,rfl,fun p hp=>by simp at hp,Up.nil,by unfold used St.room;simp;omega,0,[],[],?_,Ag _,rfl,rfl⟩
 ·show JQ (A8.text (fun _=>NW) 1 (lg n)) (lg n)=some (0,0,[])
  rw[A8.apA];unfold JQ;have e:(List.replicate (64*lg n) (0:UInt8)).take 64=pad [0]:=by
   rw[List.take_replicate,Iq (by omega)];rfl
  rw[e,Ae rfl]
 ·show NU (fun _=>NW) _ _=_
  unfold NU;exact Ae rfl
theorem bG(a num:Nat):∃ z,mark a num=[70,73,76,49]++([UInt8.ofNat a]++(le 8 num++z)):=by
 unfold mark pad Ab.FN;simp only[DJ];exact⟨_,rfl⟩
theorem amW(a num:Nat)(ha:a≤1):(mark a num).getD 4 0=UInt8.ofNat a∧((mark a num).getD 4 0).toNat=a:=by
 obtain⟨z,e⟩:=bG a num;have e1:(mark a num).getD 4 0=UInt8.ofNat a:=by rw[e];rfl
 exact⟨e1,by rw[e1,Xp,Nat.mod_eq_of_lt (by omega)]⟩
theorem amX(a num:Nat)(hn:num < 18446744073709551616):val (((mark a num).take 13).drop 5)=num:=by
 obtain⟨z,e⟩:=bG a num;have e1:((mark a num).take 13).drop 5=le 8 num:=by
  rw[e,←DJ,List.drop_take,Np (show([70,73,76,49]++[UInt8.ofNat a]).length=5 from rfl),Jf (by rw[Ab.Cb])]
 rw[e1];exact Zh 8 _ (by omega)
theorem vN(a num:Nat):mark a num≠pad [0]:=fun h=>by
 obtain⟨z,e⟩:=bG a num;rw[e,aAi] at h;have:=congrArg (fun l=>l.head?) h;simp at this
theorem azb{f:Nat→T}{log size a num:Nat}{m:M}{R:T}(ha:a≤1)(hn:num < 18446744073709551616)(hu:Up m)(hg:Good m)(hb:used m < 4294967296)(h0:f 0=mark a num)(h1:A8.text f (D9 log size a) size=le 4 (bytes m).length++(bytes m++R)):NU f log size=some (a,num,m):=by
 unfold NU;rw[h0,A9 (vN a num),(amW a num ha).2,amX a num hn,Ae ⟨ha,rfl⟩,h1,aaG _ _ (by rw[aas];exact hb)];simp only[CU];rw[aBd hu hg (by have:=RV m;omega)];rfl
theorem agR(m:M):(R3 m).length=(4+used m+63) / 64*64:=by
 unfold R3;rw[Te,AA,Ab.Cb,aas]
theorem asu(m:M):∃ z,R3 m=le 4 (bytes m).length++(bytes m++z):=by
 unfold R3 pad;exact⟨_,by rw[DJ]⟩
structure aff(D:A8)(F:St)(l:List Am)(r:A8×St×Int):Prop where
 n:r.1.n=D.n
 fine:r.1.Cg
 same:r.2.1.log=F.log∧r.2.1.size=F.size
 out:(r.2.2=0∧Calm r.1 r.2.1∧r.2.1.m=made F.m l∧r.2.1.w.gen≤F.w.gen+1∧(D.left= -1→r.1.left= -1))∨
  (r.2.2=40∧D.left≠ -1∧r.2.1.fault=40∧r.2.1.m=F.m∧r.1.down=true∧∀ keep,∃ F' D',r9 (r.1.Od keep) F' D'∧D'.left= -1∧F'.w.gen≤F.w.gen+1∧(F'.m=F.m∨F'.m=made F.m l))
theorem rT{D:A8}(h:D.Cg)(keep:List UInt8):(D.Od keep).Calm:=⟨h.Od keep,rfl,rfl⟩
theorem ayY{D:A8}{F:St}(h:Calm D F)(aky:F.w.gen < 9223372036854775808){m:M}(hu:Up m)(hg:Good m)(hr:used m≤F.room){l:List Am}(hm:m=made F.m l):aff D F l (PD D F m):=by
 obtain⟨g1,g2,g3⟩:=bE h.n8;have mH:=h.log;have Ki:=h.size;have hF:=h.disk.fine;have GJ:=hF.n2;have hl:=h.Ed;have hwn:=h.wn;have hwf:=h.Uw;have lH:=h.AL;unfold St.room at hr;have hA:(1 -F.AL)≤1:=by omega
 have tZ:=agR m;obtain⟨k,hk⟩:∃ k,(R3 m).length=64*k:=⟨(4+used m+63) / 64,by omega⟩;have J8:k≤F.size:=by omega
 have awy:D9 F.log F.size (1 -F.AL)+F.size≤D.n∧1+F.log≤D9 F.log F.size (1 -F.AL)∧(D9 F.log F.size F.AL+F.size≤D9 F.log F.size (1 -F.AL)∨D9 F.log F.size (1 -F.AL)+F.size≤D9 F.log F.size F.AL):=by
  unfold D9;rcases Nat.lt_or_ge F.AL 1 with e|e
  ·obtain e0:F.AL=0:=(by omega);rw[e0];omega
  ·obtain e0:F.AL=1:=(by omega);rw[e0];omega
 obtain⟨b1,b2,b3⟩:=awy;have JI:(F.w.gen+1) % 18446744073709551616=F.w.gen+1:=Nat.mod_eq_of_lt (by omega);have FK:=OA (1 -F.AL) (F.w.gen+1);have abO:Ik F m=[fun D=>D.write ((D9 F.log F.size (1 -F.AL):Nat):Int) (R3 m),A8.flush]++[fun D=>D.write ((0:Nat):Int) (mark (1 -F.AL) (F.w.gen+1)),A8.flush]:=by unfold Ik;rw[JI];rfl
 have hold:∀ E:A8,E.Calm→E.n=D.n→(∀ j,j < D9 F.log F.size (1 -F.AL)∨D9 F.log F.size (1 -F.AL)+F.size≤j→E.base j=D.base j)→Calm E F:=fun E hE hn hb=>
  h.near hE hn (adE hl (fun j c d=>hb j (.inl (by omega)))) (by cases F;rfl) h.Uw rfl h.wf (Ag _) rfl (fun j hj=>hb j (by rcases hj with rfl|hj;exact .inl (by omega);omega))
 unfold PD;rw[abO,ahR];have w1:=p9 h.disk (at_:=D9 F.log F.size (1 -F.AL)) (k:=k) (s:=R3 m) hk (by omega);generalize BA [fun D=>D.write ((D9 F.log F.size (1 -F.AL):Nat):Int) (R3 m),A8.flush] D=r1 at*;rcases w1 with⟨e1,c1,n1,q1,l1⟩|⟨e1,l1,f1,d1,n1,q1⟩
 ·rw[Ae e1];have w2:=p9 c1 (at_:=0) (k:=1) (s:=mark (1 -F.AL) (F.w.gen+1)) (by omega) (by omega);generalize BA [fun D=>D.write ((0:Nat):Int) (mark (1 -F.AL) (F.w.gen+1)),A8.flush] r1.1=r2 at*;rcases w2 with⟨e2,c2,n2,q2,l2⟩|⟨e2,l2,f2,d2,n2,q2⟩
  ·rw[Ae e2];have Ac:∀ j,j≠0→(j < D9 F.log F.size (1 -F.AL)∨D9 F.log F.size (1 -F.AL)+F.size≤j)→r2.1.base j=D.base j:=fun j h0 hj=>by
    rw[q2,RG _ _ _ _ _ (by omega),q1,RG _ _ _ _ _ (by omega)]
   have Ho:logAt r2.1.base F.w:=adE hl (fun j c d=>Ac j (by omega) (.inl (by omega)));have w3:=aqr c2 (L:=F.w) h.wf (by omega) (by omega);obtain⟨z,ez⟩:=asu m;have akZ:∀ E:A8,(∀ j,j < 1∨1+F.log≤j→E.base j=r2.1.base j)→NU E.base F.log F.size=some (1 -F.AL,F.w.gen+1,m):=fun E hE=>by
    refine azb (R:=z++A8.text D.base (D9 F.log F.size (1 -F.AL)+k) (F.size -k)) hA (by omega) hu hg (by omega) ?_ ?_
    ·rw[hE 0 (by omega),q2,adA _ _ _ FK]
    ·obtain⟨q,hq⟩:∃ q,F.size=k+q:=⟨F.size -k,by omega⟩;have e3:A8.text E.base (D9 F.log F.size (1 -F.AL)) F.size=A8.text (A8.lay D.base (puts (D9 F.log F.size (1 -F.AL)) (R3 m) k)) (D9 F.log F.size (1 -F.AL)) F.size:=by
      refine A8.QE _ _ (fun i c d=>?_);rw[hE i (by omega),q2,RG _ _ _ _ _ (by omega),q1]
     rw[e3];generalize D9 F.log F.size (1 -F.AL)=B at*;rw[hq,A8.Zc,aeD _ _ _ _ hk,A8.QE (g:=D.base) (B+k) q (fun i c d=>RG _ _ _ _ _ (by omega)),ez,show k+q -k=q by omega];simp only[DJ]
   generalize DX r2.1 F.w=r3 at*;have uy:F.w.V4=⟨1,F.log,F.w.gen+1,0,[],0⟩:=by
    unfold BI.V4;rw[JI];have a1:=h.Uw;have a2:=h.wn;have a3:=h.wf;cases tK:F.w;rw[tK] at a1 a2 a3;simp only at a1 a2 a3 ⊢;subst a1 a2 a3;rfl
   have ajV:∀ E:A8,E.Calm→E.n=D.n→logAt E.base (⟨1,F.log,F.w.gen+1,0,[],0⟩:BI)→(∀ j,j < 1∨1+F.log≤j→E.base j=r2.1.base j)→Calm E ⟨F.log,F.size,1 -F.AL,m,⟨1,F.log,F.w.gen+1,0,[],0⟩,0⟩:=fun E hE hn hw hb=>
    ⟨hE,by rw[hn];exact h.n8,by rw[hn];exact h.log,by rw[hn];exact h.size,hA,rfl,rfl,hw,rfl,rfl,hg,hu,hr,F.w.gen+1,m,[],akZ E hb,Ag _,rfl,rfl⟩
   rcases w3 with⟨e3,o3,c3,n3,g3,q3,l3⟩|⟨e3,l3,o3,f3,d3,n3,q3⟩
   ·rw[Ae e3];rw[uy] at o3 g3;refine⟨n3.trans (n2.trans n1),c3.fine,⟨rfl,rfl⟩,.inl ⟨rfl,?_,hm,by rw[o3];exact Ag _,fun e=>l3 (l2 (l1 e))⟩⟩;have:=ajV r3.1 c3 (n3.trans (n2.trans n1)) g3 (fun j hj=>q3 j (by omega));rw[o3];have ako:=h.fault;cases F;simp only at ako;subst ako;exact this
   ·have hne:r3.2.2≠0:=(by rw[e3];decide);rw[A9 hne];refine⟨n3.trans (n2.trans n1),f3,⟨rfl,rfl⟩,.inr ⟨e3,fun e=>l3 (l2 (l1 e)),e3,rfl,d3,fun keep=>?_⟩⟩;have fq:(r3.1.Od keep).n=D.n:=n3.trans (n2.trans n1);have hEC:=rT f3 keep;have hEb:=q3 keep;have Ya:(r3.1.Od keep).left= -1:=rfl;generalize r3.1.Od keep=E at*;have hlE:logAt E.base F.w:=adE Ho (fun j _ _=>hEb j);have w4:=aqr hEC (L:=F.w) h.wf (by omega) (by omega);rcases w4 with⟨e4,o4,c4,n4,g4,q4,l4⟩|⟨_,l4,_⟩
    ·rw[uy] at o4 g4;refine⟨_,_,⟨?_,ajV (DX E F.w).1 c4 (n4.trans fq) g4 (fun j hj=>(q4 j (by omega)).trans (hEb j)),n4⟩,l4 Ya,Ag _,.inr hm⟩;have hw:=hlE;unfold logAt at hw;rw[h.Uw,h.wn,h.log] at hw;have uM:=akZ E (fun j _=>hEb j);rw[h.log,h.size] at uM;obtain⟨_,_,cs,_,_,DV,_⟩:=h.load;unfold iB;rw[fq,A9 (by have:=h.n8;omega),A9 (by simp[hEC.up]),hEC.now,uM];simp only;rw[hw];simp only;rw[A9 (by omega),DV];simp only;rw[Ae (by omega)];have e:(⟨1,lg D.n,F.w.gen,F.w.used,F.w.groups,0⟩:BI)=F.w:=by
      have a1:=h.Uw;have a2:=h.wn;have a3:=h.wf;have a4:=h.log;cases hF3:F.w;rw[hF3] at a1 a2 a3;simp only at a1 a2 a3;subst a1 a3;rw[a2,a4]
     rw[e,Ae e4,o4,h.log,h.size]
    ·exact absurd Ya l4
  ·have hne:r2.2≠0:=(by rw[e2];decide);rw[A9 hne];refine⟨n2.trans n1,f2,⟨rfl,rfl⟩,.inr ⟨e2,fun e=>l2 (l1 e),e2,rfl,d2,fun keep=>⟨F,_,(hold _ (rT f2 keep) (n2.trans n1) (fun j hj=>?_)).opens,rfl,by omega,.inl rfl⟩⟩⟩;rw[q2 keep j (.inr (.inr rfl)),q1,RG _ _ _ _ _ (by omega)]
 ·have hne:r1.2≠0:=by rw[e1];decide
  rw[A9 hne,A9 hne];exact⟨n1,f1,⟨rfl,rfl⟩,.inr ⟨e1,l1,e1,rfl,d1,fun keep=>⟨F,_,(hold _ (rT f1 keep) n1 (fun j hj=>q1 keep j (by omega))).opens,rfl,by omega,.inl rfl⟩⟩⟩
theorem aho{D:A8}{F:St}(h:Calm D F)(aky:F.w.gen < 9223372036854775808){l:List Am}(hl:l.all Am.may=true)(hr:used (made F.m l)≤F.room):aff D F l (Kb D F l):=by
 have hall:∀ c∈l,c.may=true:=Nl.1 hl;have hu:=h.up.made l;have hg:=h.good.made h.up hall;obtain⟨g1,g2,g3⟩:=bE h.n8;have mH:=h.log;have Ki:=h.size;have hwn:=h.wn;have hwf:=h.Uw;have lH:=h.AL;have hF:=h.disk.fine;unfold Kb;rw[A9 (by simp[h.fault]),A9 (by simp[hl]),A9 (by omega)];by_cases JH:F.fits (group l)=true
 ·rw[Ae JH];unfold St.fits at JH;cases J6:Ie (group l) with
  |none=>rw[J6] at JH;cases JH
  |some s=>
   rw[J6] at JH;have JH:s.length / 64≤F.w.n -1 -F.w.used:=(by simpa using JH);have w1:=aEc h.disk h.Ed h.wf (by omega) (by omega) J6 (by omega);generalize DN D F.w (group l)=r1 at*;obtain⟨num,A,cs,i1,i2,i3,i4⟩:=h.load;rcases w1 with⟨e1,o1,c1,n1,a1,q1,l1⟩|⟨e1,l1,o1,f1,d1,n1,q1⟩
   ·rw[Ae e1];refine⟨n1,c1.fine,⟨rfl,rfl⟩,.inl ⟨rfl,?_,rfl,by rw[o1];show F.w.gen≤_;omega,l1⟩⟩;refine⟨c1,by rw[n1];exact h.n8,by show F.log=lg r1.1.n;rw[n1];exact h.log,by show F.size=sz r1.1.n;rw[n1];exact h.size,h.AL,by rw[o1];exact h.Uw,by rw[o1];exact h.wn,by rw[o1];exact a1,by rw[o1];exact h.wf,h.fault,hg,hu,hr,num,A,cs++[l],?_,by rw[o1];exact i2,?_,?_⟩
    ·show NU r1.1.base F.log F.size=some (F.AL,num,A)
     have hb:1+F.log≤D9 F.log F.size F.AL:=(by unfold D9;omega);exact amH i1 (q1 0 (by omega)) (fun j b c=>q1 j (by omega))
    ·rw[o1]
     show QF (F.w.groups++[group l])=_
     rw[aDq,i3,apL l hall];rfl
    ·show made F.m l=_
     rw[amR,←i4]
   ·have hne:r1.2.2≠0:=(by rw[e1];decide);rw[A9 hne];refine⟨n1,f1,⟨rfl,rfl⟩,.inr ⟨e1,l1,e1,rfl,d1,fun keep=>⟨F,_,Calm.opens ?_,rfl,by omega,.inl rfl⟩⟩⟩;have hb:1+F.log≤D9 F.log F.size F.AL:=(by unfold D9;omega);exact h.near (rT f1 keep) n1 (q1 keep).1 (by cases F;rfl) h.Uw rfl h.wf (Ag _) rfl (fun j hj=>(q1 keep).2 j (by omega))
 ·rw[A9 JH];exact ayY h aky hu hg hr rfl
end Ah
section
open Go.RowKit Go.Maps
open Ah
theorem Za{kv:List (List UInt8×Value)}(hn:(kv.map (·.1)).Nodup){k:List UInt8}{v:Value}:Eb kv k=some v↔(k,v)∈kv:=by
 refine⟨xy,fun hm=>?_⟩
 induction kv with
 |nil=>simp at hm
 |cons p kv ih=>
  simp only[Ce,JV] at hn;unfold Eb;rcases Ch.1 hm with e|hm
  ·subst e;simp
  ·have:¬ p.1=k:=fun e=>hn.1 (by rw[e];exact I6 (f:=(·.1)) hm)
   rw[List.find?_cons_of_neg (by simpa using this)];exact ih hn.2 hm
theorem bV{kv bC:List (List UInt8×Value)}(hn:(kv.map (·.1)).Nodup)(h:kv.Perm bC)(k:List UInt8):Eb kv k=Eb bC k:=by
 have hn':(bC.map (·.1)).Nodup:=(h.map (·.1)).nodup_iff.1 hn;cases h1:Eb kv k with
 |none=>
  cases h2:Eb bC k with
  |none=>rfl
  |some v=>
   have:=(Za hn).2 (h.mem_iff.2 ((Za hn').1 h2));rw[h1] at this;cases this
 |some v=>exact((Za hn').2 (h.mem_iff.1 ((Za hn).1 h1))).symm
theorem aev{kv bC:List (List UInt8×Value)}(h:kv.Perm bC)(k:List UInt8):(Jv k kv).Perm (Jv k bC):=h.filter _
def Qg(F:M):List (List UInt8×Value):=F.map fun p=>(p.1,.agg #[p.2])
theorem aew(F:M)(k:List UInt8):Eb (Qg F) k=(Ah.get F k).map fun s=>.agg #[.string (bs s)]:=by
 induction F with
 |nil=>rfl
 |cons p F ih=>
  unfold Eb Ah.get Qg;rw[Ce];by_cases h:p.1=k
  ·subst h;simp
  ·rw[List.find?_cons_of_neg (by simpa using h),List.find?_cons_of_neg (by simpa using h)];exact ih
theorem aoZ(F:M)(k:List UInt8):Jv k (Qg F)=Qg (del k F):=by
 unfold Jv Qg del;rw[List.filter_map];rfl
def CV(w:World)(m:Nat)(F:M):Prop:=Up F∧∃ kv:List (List UInt8×Value),kv.Perm (Qg F)∧Gd prog 9 w m kv
theorem aD5:(prog.info? 109).map (fun i=>(i.zero,i.size))=some (some (.agg #[.string ByteArray.empty]),1):=by kernel_rfl
theorem apB(w:World):(zeroValue 109).run prog w=.ok (.agg #[.string ByteArray.empty]) w:=(zero_of_info aD5).1 w
section
variable {w w':World}{m:Nat}{F:M}
theorem CV.lt(h:CV w m F):m < w.heap.size:=h.2.choose_spec.2.lt
theorem CV.kept(h:CV w m F)(e:w'.heap[m]?=w.heap[m]?):CV w' m F:=by
 obtain⟨h1,kv,h2,h3⟩:=h;exact⟨h1,kv,h2,h3.kept e⟩
theorem CV.upd{P:Nat→Prop}(h:CV w m F)(hu:A7 P w w')(hP:¬ P m):CV w' m F:=h.kept (hu.block m h.lt hP)
theorem CV.below(h:CV w m F)(hb:Bw w w'):CV w' m F:=h.kept (hb.block m h.lt)
theorem CV.made(w:World):CV (w.alloc (.map #[] 0)) w.heap.size []:=⟨Up.nil,[],List.Perm.nil,Gd.made w⟩
theorem CV.is(h:CV w m F):∃ es clock,w.heap[m]?=some (.map es clock):=by
 obtain⟨_,kv,_,_,D,⟨es,clock,hm,_⟩,_⟩:=h;exact⟨es,clock,hm⟩
theorem CV.DI(h:CV w m F){t:TypeId}:¬ Bf w m t:=by
 obtain⟨es,clock,hm⟩:=h.is;rintro⟨cs,fr,hb⟩;rw[hm] at hb;injection hb with hb
 cases hb
theorem CV.nodup{kv:List (List UInt8×Value)}(h2:kv.Perm (Qg F))(h1:Up F):(kv.map (·.1)).Nodup:=by
 rw[(h2.map (·.1)).nodup_iff];unfold Qg;rw[Kv];exact h1.nodup
theorem CV.lookup(h:CV w m F)(k:List UInt8)(hk:k.length≤maxLen):
  (Instr.lookup 113 (.map (some m)) ↑k false).run prog w=.ok (.agg #[((Ah.get F k).getD [])]) w:=by
 obtain⟨h1,kv,h2,h3⟩:=h;rw[h3.lookup underlying9 underlying113 (apB w) k hk,bV (CV.nodup h2 h1) h2,aew];cases Ah.get F k<;>rfl
theorem CV.bF(h:CV w m F)(k:List UInt8)(hk:k.length≤maxLen):
  (Instr.lookup 113 (.map (some m)) ↑k true).run prog w=.ok (.tuple #[.agg #[((Ah.get F k).getD [])],.bool (Ah.get F k).isSome]) w:=by
 obtain⟨h1,kv,h2,h3⟩:=h;rw[h3.bF underlying9 underlying113 (apB w) k hk,bV (CV.nodup h2 h1) h2,aew];cases Ah.get F k<;>rfl
theorem CV.update(h:CV w m F)(k v:List UInt8)(hk:k.length≤maxLen)(Jo:F.length < maxLen):
  ∃ w',(Instr.mapUpdate 113 (.map (some m)) ↑k (.agg #[v])).run prog w=.ok () w'∧CV w' m (put k v F)∧w.grownBy w' (some m):=by
 obtain⟨h1,kv,h2,h3⟩:=h;obtain⟨w',hrun,h4,h5⟩:=h3.update underlying9 underlying113 k hk (.agg #[v]) (by rw[h2.length_eq];unfold Qg;rw[Ca];exact Jo);refine⟨w',hrun,⟨h1.put k v,_,?_,h4⟩,h5⟩;unfold RQ;refine(List.Perm.cons _ ((aev h2 k).trans (by rw[aoZ]))).trans ?_;exact((bP h1 k v).symm.map fun p=>(p.1,Value.agg #[p.2]))
theorem CV.delete(h:CV w m F)(k:List UInt8)(hk:k.length≤maxLen)(ty:TypeId):
  ∃ w',(Builtin.delete_ #[113,9] ty #[.map (some m),.string (bs k)]).run prog w=.ok (.tuple #[]) w'∧CV w' m (del k F)∧w.grownBy w' (some m):=by
 obtain⟨h1,kv,h2,h3⟩:=h;obtain⟨w',hrun,h4,h5⟩:=h3.delete underlying9 underlying113 k hk ty;exact⟨w',hrun,⟨h1.del k,_,(aev h2 k).trans (by rw[aoZ]),h4⟩,h5⟩
theorem CV.len(h:CV w m F)(ty:TypeId):(Builtin.len_ #[113] ty #[.map (some m)]).run prog w=.ok ↑(F.length:Int) w:=by
 obtain⟨h1,kv,h2,_,D,hown,_,BS,_⟩:=h;rw[hown.len underlying113 ty,BS,h2.length_eq];unfold Qg;rw[Ca]
end
def aup(F:St)(b m x:Nat):Array Value:=#[.pointer b,.int .i64 (F.log:Int),.int .i64 (F.size:Int),.int .i64 (F.AL:Int),.map (some m),.pointer x,.int .i64 F.fault]
structure Dp(w:World)(y b m x:Nat)(gv:Value)(F:St):Prop where
 struct:w.heap[y]?=some (.cells (aup F b m x) 116)
 map:CV w m F.m
 Ed:Cw w x b gv F.w
 fits:F.log≤16384∧F.size≤16384∧1≤F.size∧F.AL≤1
def WA(y m x:Nat)(gv:Value)(k:Nat):Prop:=k=y∨k=m∨BZ x gv k
section
variable {w w':World}{y b m x:Nat}{gv:Value}{F:St}
theorem Dp.cells(h:Dp w y b m x gv F):
  w.cell? y=some (.pointer b)∧w.cell? ⟨y,1,none⟩=some ↑(F.log:Int)∧w.cell? ⟨y,2,none⟩=some ↑(F.size:Int)∧w.cell? ⟨y,3,none⟩=some ↑(F.AL:Int)∧
  w.cell? ⟨y,4,none⟩=some (.map (some m))∧w.cell? ⟨y,5,none⟩=some (.pointer x)∧w.cell? ⟨y,6,none⟩=some (.int .i64 F.fault)∧∀ j,w.frozen? ⟨y,j,none⟩=false:=by
 refine⟨?_,?_,?_,?_,?_,?_,?_,fun j=>CG w y j _ _ h.struct⟩<;>rw[BJ w y _ _ _ _ h.struct]<;>rfl
theorem Dp.lt(h:Dp w y b m x gv F):∀ k,WA y m x gv k→k < w.heap.size:=by
 rintro k (rfl|rfl|hk)
 ·exact Ao h.struct
 ·exact h.map.lt
 ·exact h.Ed.lt k hk
theorem Dp.blk(h:Dp w y b m x gv F):Bf w y 116:=⟨_,_,h.struct⟩
theorem Cw.kind(h:Cw w x b gv F.w){k:Nat}(hk:BZ x gv k):Bf w k 224∨Bf w k 61:=by
 rcases hk with rfl|hk
 ·exact .inl ⟨_,_,h.struct⟩
 ·obtain⟨cs,h1,_⟩:=h.groups;exact .inr (Cx h1 hk)
theorem Dp.Z0(h:Dp w y b m x gv F):y≠m∧¬ BZ x gv y∧¬ BZ x gv m:=
 ⟨fun e=>h.map.DI (e▸h.blk),fun hk=>by
  rcases h.Ed.kind hk with e|e
  ·exact Bf.ne h.blk e (by decide) rfl
  ·exact Bf.ne h.blk e (by decide) rfl,fun hk=>by
  rcases h.Ed.kind hk with e|e<;>exact h.map.DI e⟩
theorem Dp.upd{P:Nat→Prop}(h:Dp w y b m x gv F)(hu:A7 P w w')(hP:∀ k,Bf w k 9→¬ P k)(hG:∀ k,WA y m x gv k→¬ P k):Dp w' y b m x gv F:=
 ⟨(hu.block y (Ao h.struct) (hG y (.inl rfl))).trans h.struct,h.map.upd hu (hG m (.inr (.inl rfl))),h.Ed.upd hu hP (fun k hk=>hG k (.inr (.inr hk))),h.fits⟩
theorem Dp.below(h:Dp w y b m x gv F)(hb:Bw w w'):Dp w' y b m x gv F:=h.upd (ub hb) (fun _ _ f=>f) (fun _ _ f=>f)
end
theorem BP.DI{w:World}{b:Nat}{D:A8}{fp:Nat→Prop}(h:BP w b D fp)(k:Nat)(hk:fp k){t:TypeId}(h1:t≠144)(h2:t≠242):¬ Bf w k t:=by
 obtain⟨m,lv,hI,rfl⟩:=h;rcases hk with rfl|rfl|hk
 ·exact fun hb=>Bf.ne hb ⟨_,_,hI.struct⟩ h1 rfl
 ·obtain⟨kv,⟨_,D',⟨es,clock,hm,_⟩,_⟩,_⟩:=hI.base;rintro⟨cs,fr,hb⟩;rw[hm] at hb;injection hb with hb
  cases hb
 ·exact fun hb=>Bf.ne hb (Cx hI.loose hk) h2 rfl
end
section
open Go.RowKit Go.Maps Go.Sort
open Ah
theorem sK(name data:T)(gone:Bool)(w:World)(hn:name.length≤maxLen)(hd:data.length≤maxLen):
  Calls prog 54 #[.agg #[name,data,gone]] w (Rt w (.bool (Am.may ⟨name,data,gone⟩))):=by
 have hb:=(Ai w.heap.size w).alloc (Ag _) (.cells #[name,data,gone] 57);have HB:=Hi hb;clear hb;unfold maxLen at hn hd;by_cases h1:name=[]
 ·have hv:Hid (Am.may ⟨name,data,gone⟩=false):=Hi (by unfold Am.may EX;simp[h1]);rw[hv.out];have hne:bs name=ByteArray.empty:=by rw[h1];rfl
  subst h1
  go_in
  go_wp2;go_ret;exact⟨rfl,HB⟩
 ·have he:name.isEmpty=false:=by simpa using h1
  by_cases h2:name.length≤32
  ·have kX:(name.length:Int)≤32:=(by omega);by_cases h3:data.length≤65535
   ·have h3i:(data.length:Int)≤65535:=(by omega);cases gone with
    |false=>
     have hv:Hid (Am.may ⟨name,data,false⟩=true):=Hi (by unfold Am.may EX;simp[h1,h2,h3]);clear h1;rw[hv.out]
     go_in
     go_wp2;go_ret;exact⟨rfl,HB⟩
    |true=>
     by_cases h4:data=[]
     ·have hv:Hid (Am.may ⟨name,data,true⟩=true):=Hi (by unfold Am.may EX;simp[h1,h2,h4]);have hf:data.isEmpty=true:=(by simpa using h4);clear h1 h4;rw[hv.out]
      go_in
      go_wp2;go_ret;exact⟨rfl,HB⟩
     ·have hv:Hid (Am.may ⟨name,data,true⟩=false):=Hi (by unfold Am.may EX;simp[h1,h2,h3,h4]);have hf:data.isEmpty=false:=(by simpa using h4);clear h1 h4;rw[hv.out]
      go_in
      go_wp2;go_ret;exact⟨rfl,HB⟩
   ·have hv:Hid (Am.may ⟨name,data,gone⟩=false):=Hi (by unfold Am.may EX;simp[h1,h2,h3]);clear h1;have h3i:¬ (data.length:Int)≤65535:=(by omega);rw[hv.out]
    go_in
    go_wp2;go_ret;exact⟨rfl,HB⟩
  ·have hv:Hid (Am.may ⟨name,data,gone⟩=false):=Hi (by unfold Am.may EX;simp[h1,h2]);clear h1;have kX:¬ (name.length:Int)≤32:=(by omega);rw[hv.out]
   go_in
   go_wp2;go_ret;exact⟨rfl,HB⟩
theorem sM(n:Nat)(w:World)(hn:n < 4294967296):
  Calls prog 140 #[(n:Int)] w (Rt w ↑(Ab.le 4 n)):=by
 go_in
 go_wp2_with fail;refine(bO n 4 _ hn (by decide) (by decide)).mono ?_;rintro e w1⟨rfl,hb⟩;go_wp2;go_ret;exact⟨rfl,hb⟩
theorem sO(s:List UInt8)(w:World)(hs:s.length≤100000000):
  Calls prog 139 #[s] w (Rt w ↑(Aw.pad s)):=by
 obtain⟨N,hN⟩:∃ N:Nat,N=(s.length+63) / 64*64:=⟨_,rfl⟩;have hq:((s.length:Int)+64 -1) / 64*64=(N:Int):=by omega
 obtain⟨m,hm⟩:∃ m:Nat,m=N -s.length:=⟨_,rfl⟩;have KT:(N:Int) -(s.length:Int)=(m:Int):=by omega
 have acE:Hid (Aw.pad s=s++List.replicate m 0):=Hi (by unfold Aw.pad;rw[←hN,←hm]);have aP:m≤100:=by omega
 have Ke:N≤100000100:=by omega
 obtain⟨C,Ot,Af⟩:=apI w m (by omega);have awH:=Xn prog (w.alloc (.cells C 5)) 54 5 9 underlying54 underlying5 underlying9 w.heap.size 0 m m (List.replicate m 0) List.length_replicate (fun i h=>by rw[GQ];exact Af.cell i h);clear Af hN hm
 go_in
 go_wp2;go_ret;rw[acE.out];exact⟨rfl,(Ai _ _).alloc (Ag _) _⟩
theorem ai6{s:List UInt8}(h:cut s=none)(w:World)(hs:s.length≤1000000000):
  Calls prog 161 #[s] w fun e w'=>e=.returned (.tuple #[.string ByteArray.empty,.string ByteArray.empty,false])∧w=w':=by
 by_cases h0:s.length < 4
 ·clear h
  go_in
  go_wp2;go_ret3;exact⟨rfl,rfl⟩
 ·have N7:∀ W,(Instr.slice 9 ↑s none (some (.int .i64 4)) none).run prog W=.ok ↑(s.take 4) W:=fun W=>OD prog W 9 underlying9 s 4 (by omega)
  have LH:(s.take 4).length=4:=by rw[Bc];omega
  have hv:=Ab.Jw (s.take 4);rw[LH] at hv;have JC:=Hi (fun(W:World)=>Y7 (s.take 4) W (by omega) (by omega));unfold cut at h;rw[A9 h0] at h;generalize Ab.val (s.take 4)=v at*;have YP:¬ v≤s.length -4:=fun e=>by rw[Ae e] at h;cases h
  have ad7:v < 4294967296:=hv;have Jr:IntKind.u64.wrap ((s.length:Int) -4)=(s.length:Int) -4:=IntWalk.u64_in _ (by omega);have hvi:(s.length:Int) -4 < (v:Int):=by omega
  clear h LH hv YP
  go_in
  go_wp2_with fail;refine(JC _).mono ?_;rintro e w1⟨rfl,rfl⟩;go_wp2;go_ret3;exact⟨rfl,rfl⟩
theorem sw{s p q:List UInt8}(h:cut s=some (p,q))(w:World)(hs:s.length≤1000000000):
  Calls prog 161 #[s] w (Rt w (.tuple #[p,q,true])):=by
 have h0:¬ s.length < 4:=by have:=Ww h;omega
 have N7:∀ W,(Instr.slice 9 ↑s none (some (.int .i64 4)) none).run prog W=.ok ↑(s.take 4) W:=fun W=>OD prog W 9 underlying9 s 4 (by omega)
 have LH:(s.take 4).length=4:=by rw[Bc];omega
 have hv:=Ab.Jw (s.take 4);rw[LH] at hv;have JC:=Hi (fun(W:World)=>Y7 (s.take 4) W (by omega) (by omega));unfold cut at h;rw[A9 h0] at h;generalize Ab.val (s.take 4)=v at*;have YP:v≤s.length -4:=by
  by_cases e:v≤s.length -4
  ·exact e
  ·rw[A9 e] at h;cases h
 rw[Ae YP] at h;simp only[Cu,Nr] at h;obtain⟨rfl,rfl⟩:=h;have ad7:v < 4294967296:=hv;have Jr:IntKind.u64.wrap ((s.length:Int) -4)=(s.length:Int) -4:=IntWalk.u64_in _ (by omega);have Mq:IntKind.u64.wrap (4+(v:Int))=4+(v:Int):=IntWalk.u64_in _ (by omega);have hvi:(v:Int)≤(s.length:Int) -4:=by omega
 have hcu:∀ W,(Instr.slice 9 ↑s (some (.int .i64 4)) (some (.int .u64 (4+(v:Int)))) none).run prog W=.ok ↑((s.take (4+v)).drop 4) W:=fun W=>by
  have:=aoL prog W 9 underlying9 s 4 (4+v) (by omega) (by omega);rw[Int.natCast_add] at this;exact this
 have Yn:∀ W,(Instr.slice 9 ↑s (some (.int .u64 (4+(v:Int)))) none none).run prog W=.ok ↑(s.drop (4+v)) W:=fun W=>by
  have g2:(4:Int)+(v:Int)≤(s.length:Int):=by omega
  have g3:((4:Int)+(v:Int)).toNat=4+v:=by omega
  have g4:(0:Int)≤4+(v:Int):=by omega
  simp[Instr.slice,He underlying9,Instr.sliceBounds,run_sliceBound,go_sem,g2,g3,g4]
 clear LH hv YP
 go_in
 go_wp2_with fail;refine(JC _).mono ?_;rintro e w1⟨rfl,rfl⟩;go_wp2;go_region;go_wp2;go_ret3;exact⟨rfl,(Ai _ _).drew⟩
theorem aio(AL num:Nat)(w:World)(ha:AL≤1)(hn:num < 18446744073709551616):
  Calls prog 142 #[(AL:Int),.int .u64 (num:Int)] w (Rt w ↑(Ah.mark AL num)):=by
 have HN:=Hi hn;have akp:({ data:=#[70,73,76,49] }:ByteArray)=bs [70,73,76,49]:=rfl;clear hn
 go_in
 go_wp2_with fail;refine(bO num 8 _ (by have:=HN.out;exact this) (by decide) (by decide)).mono ?_;rintro e w1⟨rfl,Ak⟩;have HB1:=Hi Ak;clear Ak;have SG:=aem prog w1 54 5 9 5 underlying54 underlying5 underlying9 (AL:Int) (UInt8.ofNat AL) (by rw[Xp,Nat.mod_eq_of_lt (by omega)]);go_wp2_with fail;refine(iN (70 :: 73 :: 76 :: 49 :: UInt8.ofNat AL :: Ab.le 8 num) _ (by simp[Ab.Cb])).mono ?_;rintro e w3⟨rfl,Av⟩;have Au:=Hi ((HB1.alloc HB1.size _).trans (Av.mono (by have:=HB1.size;rw[Az];omega)));clear Av SG;go_wp2_with fail;refine(sO (Ab.FN (70 :: 73 :: 76 :: 49 :: UInt8.ofNat AL :: Ab.le 8 num)) _ (by rw[Ab.RP];simp[Ab.Cb])).mono ?_;rintro e w4⟨rfl,AB⟩;have AX:=bH Au AB;clear AB;go_wp2;go_ret;exact⟨rfl,AX⟩
theorem ai2(v:Value)(log size AL:Nat)(w:World)(h1:log≤16384)(h2:size≤16384)(h3:AL≤1):
  Calls prog 138 #[.agg #[v,(log:Int),(size:Int),(AL:Int)],(AL:Int)] w (Rt w (.int .i64 ((D9 log size AL:Nat):Int))):=by
 have hb:=(Ai w.heap.size w).alloc (Ag _) (.cells #[v,(log:Int),(size:Int),(AL:Int)] 112);have HB:=Hi hb;clear hb;have hp:(AL:Int)*(size:Int)≤16384∧0≤(AL:Int)*(size:Int):=by
  rcases Nat.lt_or_ge AL 1 with e|e
  ·obtain rfl:AL=0:=(by omega);omega
  ·obtain rfl:AL=1:=(by omega);omega
 obtain⟨EI,JM⟩:=hp;have he:Hid (((D9 log size AL:Nat):Int)=1+(log:Int)+(AL:Int)*(size:Int)):=Hi (by unfold D9;rw[Int.natCast_add,Int.natCast_add,Int.natCast_mul];rfl);have hm:IntKind.i64.wrap ((AL:Int)*(size:Int))=(AL:Int)*(size:Int):=EN _ (by omega);have KT:IntKind.i64.wrap (1+(log:Int)+(AL:Int)*(size:Int))=1+(log:Int)+(AL:Int)*(size:Int):=EN _ (by omega);rw[he.out]
 go_in
 go_wp2;go_ret;exact⟨rfl,HB⟩
section
variable {w:World}{y b m x:Nat}{gv:Value}{F:St}
theorem aum(h:Dp w y b m x gv F)(k:T)(hk:k.length≤maxLen):
  Calls prog 16 #[y,k] w (Rt w (.tuple #[((Ah.get F.m k).getD []),.bool (Ah.get F.m k).isSome])):=by
 have hl:=h.map.bF k hk;obtain⟨_,_,_,_,c4,_⟩:=h.cells;clear h hk;generalize Ah.get F.m k=r at*;generalize r.isSome=u at*
 go_in
 go_wp2;go_ret2;exact⟨rfl,(Ai _ _).alloc (Ag _) _⟩
theorem aiu(h:Dp w y b m x gv F):
  Calls prog 58 #[y] w fun e w'=>e=.returned (F.room:Int)∧w=w':=by
 obtain⟨_,_,c2,_⟩:=h.cells;obtain⟨_,h2,h3,_⟩:=h.fits;have he:Hid ((F.room:Int)=(F.size:Int)*64 -4):=Hi (by unfold St.room;omega);rw[he.out];clear h;generalize F.size=n at*
 go_in
 go_wp2;go_ret;exact⟨rfl,rfl⟩
end
theorem atm{F:M}(hu:Up F){ss:List T}(hp:ss.Perm (F.map (·.1))):(ss.map fun k=>8+k.length+((Ah.get F k).getD []).length).sum=(F.map cost).sum:=by
 rw[(hp.map _).sum_nat,Kv]
 congr 1
 apply OI;intro p hp
 show 8+p.1.length+((Ah.get F p.1).getD []).length=cost p
 rw[get_mem hu (v:=p.2) hp];rfl
theorem ap3(kv:List (List UInt8×Value))(x:List UInt8):x∈kv.map (·.1)↔(Eb kv x).isSome=true:=by
 unfold Eb;rw[Option.isSome_map,List.find?_isSome,Bv];constructor
 ·rintro⟨p,hp,rfl⟩;exact⟨p,hp,by simp⟩
 ·rintro⟨p,hp,h⟩;exact⟨p,hp,by simpa using h⟩
theorem Gd.keyed{w:World}{m:Nat}{kv:List (List UInt8×Value)}(h:Gd prog 9 w m kv):∃ D:DataW Value,w.ownsMap prog 9 SK m kv.length D∧Maps.size D=kv.length∧(kv.map (·.1)).Perm (strKeys D):=by
 obtain⟨hn,D,hown,_,BS,hat⟩:=h;refine⟨D,hown,BS,Collected.perm (left:=fun _=>false) ⟨hn,fun x=>?_⟩ hown (string_keyed underlying9) underlying9 (fun _=>rfl)⟩;rw[lI (hat x),ap3];simp
theorem aic(F:M):(Qg F).map (·.1)=F.map (·.1):=by unfold Qg;rw[Kv];rfl
def R8(F:M)(ss:List T):Nat:=(ss.map fun k=>8+k.length+((Ah.get F k).getD []).length).sum
theorem aui(F:M)(ss:List T)(k s:T)(h:Ah.get F k=some s):R8 F (ss++[k])=R8 F ss+(8+k.length+s.length):=by
 unfold R8;rw[CQ,LX];simp[h]
theorem auh(F:M)(ss:List T)(h:∀ k∈ss,∃ s,Ah.get F k=some s):R8 F ss≤ss.length*used F:=by
 induction ss with
 |nil=>simp[R8]
 |cons k ss ih=>
  obtain⟨s,hs⟩:=h k Gl;have h1:=ih (fun x hx=>h x (Fs _ hx));have h2:=apW (get_some hs);have e:R8 F (k :: ss)=(8+k.length+s.length)+R8 F ss:=by unfold R8;rw[Ce,DY,hs];rfl
  unfold cost at h2;rw[e,BM,Nat.succ_mul];simp only at h2;omega
theorem avb{w:World}{m:Nat}{F:M}(h:CV w m F)(hc:used F≤1000000000):
  Calls prog 57 #[.map (some m)] w (Rt w (used F:Int)):=by
 have hlt:=h.lt;obtain⟨hu,kv,aS,hn,D,hown,ht,BS,hat⟩:=h;have hlen:=RV F;have E9:kv.length=F.length:=by rw[aS.length_eq];unfold Qg;rw[Ca]
 have HG:=Hi (fun(x:T)=>(bV hn aS x).trans (aew F x));have HU:=Hi (show used F=4+(F.map cost).sum from rfl);have FY:=Hi hu;have Jg:=Hi hat;have HP:=Hi aS;have HN:=Hi hn;have HC:=Hi hc;have M5:=Hi hlen;have DR:=Hi BS;have GU:=Hi E9;have Lj:=Hi hlt;have ag6:=Hi hown;clear hu aS hn ht hat hc hlen BS E9 hlt
 go_in
 go_wp2_with (first
  |(at_range;refine wpList_range_own _ rfl _ 113 rfl 9 109 (string_keyed underlying9) underlying113 _ m _ _ rfl hown ?_;intro w0 axT aD Rv)
  |fail)
 go_frame
 clear hown
 go_loopw [3] (fun n wr=>∃ (left:Lit→Bool) (cnt:Nat) (ss:List T),wr.ranges prog 9 SK m w.heap.size kv.length D left cnt∧Collected D left ss∧ss.length+cnt≤kv.length∧(∀ k∈ss,∃ s,Ah.get F k=some s)∧n= ↑((4+R8 F ss:Nat):Int)∧Bw w wr)
  (fun _ wr=>wr.rangeLeft m w.heap.size)
 case atStart=>exact⟨_,_,[],axT,Collected.start D,by rw[←DR.out];simp,by simp,rfl,(Ai _ _).grown aD (Ag _) (fun j hj=>by cases hj)⟩
 case round=>
  obtain⟨left,cnt,ss,ve,hC,um,hall,rfl,hb⟩:=hrel;have BQ:=auh F ss hall;have hcb:R8 F ss≤125000000*1000000000:=Ay BQ (Nat.mul_le_mul (by have:=M5.out;have:=HC.out;have:=GU.out;omega) HC);have QM:=Hi hC;have Ga:=Hi hall;have HB:=Hi hb;have UN:=Hi ve;have Tz:=Hi um;clear BQ hC hall hb um
  go_wp2_with (first
   |(at_next;refine wpList_next_ranges _ rfl _ rfl 9 (string_keyed underlying9) SK encStr id (fun key kl hk=>by obtain⟨x,hx,_⟩:=Maps.keyOf_str underlying9 hk;exact⟨x,hx⟩) (fun v _ _=>⟨v,rfl⟩) m w.heap.size kv.length _ _ _ rfl ve ?_ ?_)
   |fail)
  ·intro WQ N8;clear ve;go_wp2;go_ret;have hp:=QM.perm ag6 (string_keyed underlying9) underlying9 N8;have hk:(kv.map (·.1)).Perm (strKeys D):=Collected.perm (left:=fun _=>false) ⟨HN,fun x=>by rw[lI (Jg x),ap3];simp⟩ ag6 (string_keyed underlying9) underlying9 (fun _=>rfl);have J8:ss.Perm (F.map (·.1)):=(hp.trans hk.symm).trans (by rw[←aic];exact HP.map _);have he:R8 F ss=(F.map cost).sum:=atm FY J8;exact⟨by rw[HU.out,←he];rfl,HB⟩
  ·intro x c kl yd yp w2 cnt2 fO JK hv hat alD hlt Ec Ov aA;obtain⟨x',ex,rfl,Gv⟩:=Maps.keyOf_str underlying9 fO;obtain rfl:x=x':=encStr_inj ex;have Gi:(DataW.held c:DataW Value)=yd:=by injection hv with hv;injection hv
   subst Gi;obtain⟨s,hs,rfl⟩:∃ s,Ah.get F x=some s∧c=.agg #[.string (bs s)]:=by
    have h1:=Jg x .nil;rw[hat .nil,HG x] at h1;cases hg:Ah.get F x with
    |none=>rw[hg] at h1;cases h1
    |some s=>
     rw[hg] at h1;refine⟨s,rfl,?_⟩;injection h1
   have HS:=Hi hs;have QL:=Hi (QM.step JK hat);have agd:=Hi (alD.alloc (.cells #[.string (bs s)] 109));have afZ:=Hi hlt;have Aj:=Hi (HB.grown Ec HB.size (fun j hj=>by cases hj;exact Ag _));have Au:=Hi (Aj.alloc Aj.size (.cells #[.string (bs s)] 109));have CS:s.length+12+x.length≤used F:=(by have:=apW (get_some hs);unfold cost at this;simp only at this;omega);have Nb:Hid (R8 F (ss++[x])=R8 F ss+(8+x.length+s.length)):=Hi (aui F ss x s hs);have ES:=Hi HC.out;have hxb:x.length≤1000000000:=(by have:=HC.out;omega);have Ta:s.length≤1000000000:=(by have:=HC.out;omega);have exs:encStr x=.string (bs x):=rfl
   have Vj:Hid (∀ k∈ss++[x],∃ s,Ah.get F k=some s):=Hi (fun k hk=>by
    rcases Es.1 hk with hk|hk
    ·exact Ga k hk
    ·rw[Fu] at hk;subst hk;exact⟨s,hs⟩)
   rw[exs] at aA;clear ve fO ex hv hat alD hlt Ec Ov hs JK;simp only[exs];clear exs;go_wp2;go_roundw
   case rel=>exact⟨_,cnt2,ss++[x],agd,QL,by have:=afZ.out;have:=Tz.out;rw[AA,La];omega,Vj.out,by rw[Nb.out];go_num,Au⟩
   case measure=>rw[agd.left_eq,UN.left_eq];exact afZ.out
