/- DepR DepO AllD DepG DropP -/
import Derived.Test.YtmbbhdebddbhoaaGreatQ27
set_option maxHeartbeats 4000000
set_option maxRecDepth 100000
set_option linter.all false
namespace Go.Proofs.YtmbbhdebddbhoaaGreat
open Tryz
namespace Man
open Go.RowKit Go.Maps Go.Sort Go.Shelf Go.Lib
open Wal Fil
theorem mP{w:World}{base:Nat}{v:Value}{l:List (List UInt8)}(h:AQ w base v l)(hl:l.length≤1000000):
  Calls prog 42 #[v] w fun e w'=>∃ v',e=.returned v'∧AQ w' w.heap.size v' (Az l)∧Bw w w':=by
 have HC:=Hi (ajv h hl);have ay7:v.oneCell'=true:=by obtain⟨q,cap,rfl⟩:=AA h;rfl
 clear h;go_enter func42,ntmps42;go_wp2_with fail;refine HC.mono ?_;rintro e w1⟨v1,rfl,ho1,hn1,hb1⟩;rcases ho1.parts with⟨rfl,rfl⟩|⟨g,cap,rfl,hg,hlc,hcm,hgs⟩
 ·have HB1:=Hi hb1;clear ho1 hn1 hb1;go_wp2_with fail;refine(AnyM.slices_Sort_string_none Ux none 0 _).mono ?_;rintro e w2⟨rfl,rfl⟩;go_wp2_with fail;refine(Any.slices_Compact_string_empty af none 0 _).mono ?_;rintro e w3⟨rfl,rfl⟩;go_wp2_with fail;go_ret;exact⟨_,rfl,by unfold AQ;rw[show Az []=[] by simp[Az,Lib.compact,Lib.compactUpTo],GD];exact DJ _ _ _ _,HB1⟩
 ·have NS:=ho1;unfold AQ at NS;rw[GD] at NS;obtain⟨g2,cap2,e2,_,_,_,_,_,hH⟩:=holds_of_ownsRow NS (by simp);cases e2;have Cq:=Hi NS;have HB1:=Hi hb1;have HH:=Hi hH;clear ho1 NS hn1 hb1 hH;go_wp2_with fail;refine(AnyM.slices_Sort_string Ux g 0 cap l _ HH hgs (by omega)).mono ?_;rintro e w2⟨rfl,n,os,rfl⟩;have hsl:(l.mergeSort fun x y=>decide (x≤y)).length=l.length:=by simp
  have ho2:=ownsRow_putRow (q:=n) Cq hsl (Ab _);have hb2:=below_putRow (q:=n) (enc:=encStr) (d:=(l.mergeSort fun x y=>decide (x≤y)).toArray) HB1 hg;have ho3:=AL ho2 (ub (below_grow (Ad _ _) (Ab _) os)) (fun _ _ f=>f);have hb3:=below_grow hb2 hb2.size os;clear ho2 hb2;rw[ET (by rw[hsl];omega)] at ho3;obtain⟨S,OG⟩:∃ S,(l.mergeSort fun x y=>decide (x≤y))=S:=⟨_,rfl⟩;have hR:Hid (Az l=Lib.compact S):=Hi (by unfold Az;rw[OG]);rw[OG] at ho3 hb3 hsl ⊢;generalize Go.Sort.grow (Go.Sort.putRow encStr (Sort.ahead w1 n) g 0 S.toArray) os=w3 at*;obtain⟨g3,bR,e3,_,_,_,_,_,hH3⟩:=holds_of_ownsRow ho3 (by simp);cases e3;have axs:=Any.slices_Compact_string af g 0 cap S w3 hH3 (by omega) (by omega);rw[←hsl] at ho3;rw[show(kC.f 194)=116 from rfl,hsl] at axs;have mQ:=Hi axs;have K7:=Hi ho3;have HB3:=Hi hb3;have HH3:=Hi hH3;clear ho3 hb3 hH3 axs;go_wp2_with fail;refine mQ.mono ?_;rintro e w4⟨rfl,q,rfl⟩;rw[←hsl];have hcl:=compact_length_le S;have TG:=ownsRow_putRow (q:=q) (k:=(Lib.compact S).length) K7 (ys:=Lib.compact S++List.replicate (S.length -(Lib.compact S).length) []) (by simp;omega) hcl;have hb4:=below_putRow (q:=q) (enc:=encStr) (d:=(Lib.compact S++List.replicate (S.length -(Lib.compact S).length) []).toArray) HB3 hg;rw[Gf rfl] at TG;generalize Go.Sort.putRow encStr (Sort.ahead w3 q) g 0 (Lib.compact S++List.replicate (S.length -(Lib.compact S).length) []).toArray=w4 at*;have mR:=Hi TG;have Ay:=Hi hb4;clear TG hb4;go_wp2_with fail;go_ret;refine⟨_,rfl,?_,Ay⟩;unfold AQ;rw[hR.out,GD]
  exact mR.out
end Man
namespace Dep
open Go.RowKit Go.Maps
open Wal Fil Man Prs Kp BH Hex Sha Mem
theorem alE(name data:T):A8.Cn name data=if(Crc.Dj data).2=0 then(F6 (Crc.Dj data).1).bind fun l=>if l≠[]∧(CF l).length=l.length∧∀ p∈l,A8.nm p.1=name∧rowOk p=true then some l else none else none:=by
 rfl
theorem ab2{s:T}{l:List T}(h:C9 s=some l):l.length≤65535:=by
 unfold C9 at h;split at h
 ·cases h
 ·cases h1:readTs (Crc.val (s.take 2)) (s.drop 2) with
  |none=>rw[h1] at h;cases h
  |some r=>
   rw[h1] at h;simp only[BI] at h;split at h
   ·simp only[Bt] at h;obtain⟨e1,a,e2,e3⟩:=fQ (l:=r.1) (r:=r.2) h1;have hv:=Crc.Gg (s.take 2);have hl:(s.take 2).length≤2:=(by rw[Aw];omega);have hp:256 ^ (s.take 2).length≤256 ^ 2:=Nat.pow_le_pow_right (by decide) hl;have hv2:Crc.val (s.take 2) < 65536:=Di hv hp;rw[←h,e1];omega
   ·cases h
def ab3(w:World)(q:Option Addr)(cap:Nat)(l:M)(name:T)(i:Value)(wr:World):Prop:=∃ k:Nat,k≤l.length∧i=.int .i64 k∧Bw w wr∧AP wr w.heap.size (.slice q l.length cap) l∧∀ p∈l.take k,A8.nm p.1=name∧rowOk p=true
theorem alF(name data:T)(w:World)(hd:data.length≤1000000):Calls prog 162 #[.string (bs name),.string (bs data)] w fun e w'=>Mem.Il w (A8.Cn name data) e w':=by
 have HIS:=Hi (alE name data);have HO:=Hi (sJ data w (by omega));have hsl:(Crc.Dj data).1.length≤1000000:=by
  by_cases h:(Crc.Dj data).2=0
  ·have:=congrArg List.length (Crc.fO h);rw[Crc.Mc] at this;omega
  ·unfold Crc.Dj at h ⊢;split
   ·simp
   ·split
    ·rename_i h1 h2
     rw[Aa h1,Ac h2] at h;exact absurd rfl h
    ·simp
 generalize (Crc.Dj data).1=s at*;generalize (Crc.Dj data).2=c at*;have HG:=Hi (fun(W:World)=>aaH s W (by omega));by_cases hc:c=0
 ·subst hc;cases hg:F6 s with
  |none=>
   have hR:Hid (A8.Cn name data=none):=Hi (by rw[HIS.out,Ac rfl,hg];rfl);have HG2:=Hi (show ∀ W,Calls prog 194 #[.string (bs s)] W fun e w'=>e=.returned (.tuple #[.slice none 0 0,.int .i64 7])∧Bw W w' from fun W=>by have:=HG W;unfold PO at this;rw[hg] at this;exact this);clear HG HIS hg;go_enter func162,ntmps162;go_wp2_with fail;refine HO.mono ?_;rintro e w1⟨rfl,hb1⟩;have HB1:=Hi hb1;clear hb1;go_wp2_with fail;refine(HG2 _).mono ?_;rintro e w2⟨rfl,hb2⟩;have HB2:=Hi (HB1.trans (hb2.mono HB1.size));clear hb2;go_wp2_with fail;go_ret2;exact Mem.Hy hR.out rfl HB2.out
  |some l=>
   have HG2:=Hi (show ∀ W,Calls prog 194 #[.string (bs s)] W fun e w'=>∃ v,e=.returned (.tuple #[v,.int .i64 0])∧AP w' W.heap.size v l∧Bw W w' from fun W=>by have:=HG W;unfold PO at this;rw[hg] at this;exact this);have Tv:=Hi (show A8.Cn name data=if l≠[]∧(CF l).length=l.length∧∀ p∈l,A8.nm p.1=name∧rowOk p=true then some l else none from by rw[HIS.out,Ac rfl,hg];rfl);obtain⟨hl,hsh⟩:=mf hg;have MK:=Hi hsh;clear HG HIS hg hsh;by_cases hz:l=[]
   ·have hR:Hid (A8.Cn name data=none):=Hi (by rw[Tv.out,Aa (fun h=>h.1 hz)]);have hz0:(l.length:Int)=0:=(by rw[hz];rfl);clear hz;go_enter func162,ntmps162;go_wp2_with fail;refine HO.mono ?_;rintro e w1⟨rfl,hb1⟩;have HB1:=Hi hb1;clear hb1;go_wp2_with fail;refine(HG2 _).mono ?_;rintro e w2⟨v,rfl,ast,hb2⟩;obtain⟨q,cap,rfl,hqc,hcl⟩:=Dl ast;have HB2:=Hi (HB1.trans (hb2.mono HB1.size));clear hb2 ast;go_wp2_with fail;go_ret2;exact Mem.Hy hR.out rfl HB2.out
   ·have hz0:¬ (l.length:Int)=0:=fun e=>hz (IL.1 (by omega))
    have hzb:((l.length:Int) == 0)=false:=Fq.2 hz0;by_cases hk:(CF l).length=l.length
    ·have XA:=Hi (show A8.Cn name data=if ∀ p∈l,A8.nm p.1=name∧rowOk p=true then some l else none from by
      rw[Tv.out];by_cases h:∀ p∈l,A8.nm p.1=name∧rowOk p=true
      ·rw[Ac ⟨hz,hk,h⟩,Ac h]
      ·rw[Aa (fun x=>h x.2.2),Aa h])
     have Vk:((CF l).length:Int)=(l.length:Int):=(by omega);go_enter func162,ntmps162;go_wp2_with fail;refine HO.mono ?_;rintro e w1⟨rfl,hb1⟩;have HB1:=Hi hb1;clear hb1;go_wp2_with fail;refine(HG2 _).mono ?_;rintro e w2⟨v,rfl,ast,hb2⟩;obtain⟨q,cap,rfl,hqc,hcl⟩:=Dl ast;have HB2:=Hi (HB1.trans (hb2.mono HB1.size));have Ce:=Hi (Da ast HB1.size);have Gy:=Hi (Vn (w:=w2) (Av.BU ast) hqc (by omega));clear hb2 ast;go_wp2_with fail;refine Gy.mono ?_;rintro e w3⟨kv,rfl,hkr,hb3⟩;obtain⟨kq,kc,rfl⟩:=AA hkr;have Hm:=Hi (Bp Ce hb3);have HB3:=Hi (HB2.trans (hb3.mono HB2.size));clear hb3 hkr;go_wp2_with fail
     go_loopw [10,42] (fun _ i wr=>ab3 w q cap l name i wr) (fun _ i _=>l.length -(intOf i).toNat)
     case atStart=>exact⟨0,Ar _,rfl,HB3,Hm,fun p h=>by simp at h⟩
     case round=>
      obtain⟨k,hkl,rfl,hb,hr,asD⟩:=hrel;have HB:=Hi hb;have HR:=Hi hr;have HA:=Hi asD;clear asD HB3 Hm hb;by_cases hlt:k < l.length
      ·obtain⟨a,hix,ha,-⟩:=(Av.BU hr).index cap k hlt;have c0:=ha.key;have c1:=ha.val;have hsk:=(MK _ (BF hlt)).1;have hsv:=(MK _ (BF hlt)).2;have HT:=Hi (aaN (P:=fun p=>A8.nm p.1=name∧rowOk p=true) hlt HA)
       have HF:=Hi (show ¬ (A8.nm l[k].1=name∧rowOk l[k]=true)→A8.Cn name data=none from fun hne=>by
        rw[XA.out,Aa (fun h=>hne (h _ (BF hlt)))])
       generalize l[k]=x at*;have HN:=Hi (fun(W:World)=>bQ x.1 W (by omega));have HRR:=Hi (fun(W:World)=>Ww x.2 W (by omega));have HT2:=Hi (show A8.nm x.1=name∧rowOk x=true→∀ p∈l.take (k+1),A8.nm p.1=name∧rowOk p=true from HT.out);clear ha hr HT;generalize A8.nm x.1=nx at*;cases hrr:C9 x.2 with
       |none=>
        have Te:=Hi (show ∀ W,Calls prog 178 #[.string (bs x.2)] W fun e w'=>e=.returned (.tuple #[.slice none 0 0,.int .i64 7])∧Bw W w' from fun W=>by have:=HRR W;unfold Go.Proofs.YtmbbhdebddbhoaaGreat.Il at this;rw[hrr] at this;exact this);have hR:=Hi (HF (fun h=>by have:=h.2;unfold rowOk at this;rw[hrr] at this;cases this));clear HF HT2 HRR hrr HN;go_wp2_with fail;refine(Te _).mono ?_;rintro e w4⟨rfl,hb4⟩;have Ay:=Hi ((HB.alloc HB.size _).trans (hb4.mono (by have:=HB.size;rw[Ai];omega)));clear hb4;go_wp2_with fail;go_ret2;exact Mem.Hy hR.out rfl Ay.out
       |some kr=>
        have Te:=Hi (show ∀ W,Calls prog 178 #[.string (bs x.2)] W fun e w'=>∃ v,e=.returned (.tuple #[v,.int .i64 0])∧Man.AQ w' 0 v kr∧Bw W w' from fun W=>(HRR W).mono fun e w' h=>by
         unfold Go.Proofs.YtmbbhdebddbhoaaGreat.Il at h;rw[hrr] at h;obtain⟨v,h1,h2,h3,_⟩:=h;exact⟨v,h1,h2,h3⟩)
        have Q0:=ab2 hrr;have Jm:=Hi (show rowOk x=decide (Az kr=kr) from by unfold rowOk;rw[hrr]);have ab4:=Aq wr (.cells #[.string (bs x.1),.string (bs x.2)] 75);have bS:=Hi ab4;clear HRR hrr ab4;go_wp2_with fail;refine(Te _).mono ?_;rintro e w4⟨kv4,rfl,mU,hb4⟩;obtain⟨kq,kc,rfl⟩:=AA mU;have ab5:=(hb4.block _ (Ae bS)).trans bS.out;have d0:w4.cell? ⟨wr.heap.size,0,none⟩=some (.string (bs x.1)):=cr ab5;have HR4:=Hi (Bp (HR.alloc _) hb4);have Ay:=Hi ((HB.alloc HB.size _).trans (hb4.mono (by have:=HB.size;rw[Ai];omega)));have alG:=Hi mU;clear hb4 ab5 mU;go_wp2_with fail;refine(HN _).mono ?_;rintro e w5⟨rfl,hb5⟩;have JK:=Hi (Bp HR4 hb5);have BG:=Hi (Ay.trans (hb5.mono Ay.size));have mW:=Bp alG hb5;have Dn:=Hi (mP mW (by omega));have alH:=Hi mW;clear hb5 mW;by_cases heq:nx=name
        ·have alI:(nx == name)=true:=beq_iff_eq.2 heq;go_wp2_with fail;refine Dn.mono ?_;rintro e w6⟨rv,rfl,mX,hb6⟩;obtain⟨rq,rc,rfl⟩:=AA mX;have hrl:=Ox kr;have mY:=Hi (ajx (Bp alH hb6) mX (by omega) (by omega));have IB:=Hi (Bp JK hb6);have Em:=Hi (BG.trans (hb6.mono BG.size));clear hb6 mX;go_wp2_with fail;refine mY.mono ?_;rintro e w7⟨rfl,D8⟩;have HR7:=Hi (Bp IB D8);have CX:=Hi (Em.trans (D8.mono Em.size));clear D8;by_cases Vt:kr=Az kr
         ·have hdr:decide (kr=Az kr)=true:=Gs Vt;have Ca:=Hi (show ab3 w q cap l name (.int .i64 ((k:Int)+1)) w7 from⟨k+1,by omega,by go_num,CX,HR7,HT2 ⟨heq,by rw[Jm.out];exact Gs Vt.symm⟩⟩);rw[hdr];clear Vt hdr HT2 HF Jm;go_wp2_with fail;go_roundw
          case rel=>exact Ca.out
          case measure=>
           show l.length -((k:Int)+1).toNat < l.length -((k:Int)).toNat
           omega
         ·have hdr:decide (kr=Az kr)=false:=Ma Vt;have hR:=Hi (HF (fun h=>Vt (by have:=h.2;rw[Jm.out] at this;exact(Ld this).symm)));rw[hdr];clear Vt hdr HT2 HF Jm;go_wp2_with fail;go_ret2;exact Mem.Hy hR.out rfl CX.out
        ·have alI:(nx == name)=false:=Fq.2 heq;have hR:=Hi (HF (fun h=>heq h.1));clear HT2 HF Jm;go_wp2_with fail;go_ret2;exact Mem.Hy hR.out rfl BG.out
      ·obtain rfl:k=l.length:=by omega
       have hR:Hid (A8.Cn name data=some l):=Hi (by
        rw[XA.out,Ac];have:=HA.out;rwa[Ck] at this)
       clear hr;go_wp2_with fail;go_ret2;exact Mem.Wu hR.out rfl HR hqc HB.out
    ·have hR:Hid (A8.Cn name data=none):=Hi (by rw[Tv.out,Aa (fun h=>hk h.2.1)]);have Vk:¬ ((CF l).length:Int)=(l.length:Int):=(by omega);have hkb:(((CF l).length:Int) != (l.length:Int))=true:=bne_iff_ne.2 Vk;go_enter func162,ntmps162;go_wp2_with fail;refine HO.mono ?_;rintro e w1⟨rfl,hb1⟩;have HB1:=Hi hb1;clear hb1;go_wp2_with fail;refine(HG2 _).mono ?_;rintro e w2⟨v,rfl,ast,hb2⟩;obtain⟨q,cap,rfl,hqc,hcl⟩:=Dl ast;have HB2:=Hi (HB1.trans (hb2.mono HB1.size));have Gy:=Hi (Vn (w:=w2) (Av.BU ast) hqc (by omega));clear hb2 ast;go_wp2_with fail;refine Gy.mono ?_;rintro e w3⟨kv,rfl,hkr,hb3⟩;obtain⟨kq,kc,rfl⟩:=AA hkr;have HB3:=Hi (HB2.trans (hb3.mono HB2.size));clear hb3 hkr;go_wp2_with fail;go_ret2;exact Mem.Hy hR.out rfl HB3.out
 ·have hR:Hid (A8.Cn name data=none):=Hi (by rw[HIS.out,Aa hc]);clear HG HIS;go_enter func162,ntmps162;go_wp2_with fail;refine HO.mono ?_;rintro e w1⟨rfl,hb1⟩;have HB1:=Hi hb1;clear hb1;go_wp2_with fail;go_ret2;exact Mem.Hy hR.out rfl HB1.out
end Dep
namespace Dep
open Go.RowKit Go.Maps
open Wal Fil Man Prs Kp BH Hex Sha Mem
def Ex(w:World)(p y:Nat):Prop:=w.heap[p]?=some (.cells #[.pointer (some ⟨y,0,none⟩)] 136)
theorem Ex.cell{w:World}{p y:Nat}(h:Ex w p y):w.cell? ⟨p,0,none⟩=some (.pointer (some ⟨y,0,none⟩)):=by
 rw[AY _ _ _ _ _ _ h];rfl
theorem Ex.lt{w:World}{p y:Nat}(h:Ex w p y):p < w.heap.size:=Ae h
theorem Ex.below{w w':World}{p y:Nat}(h:Ex w p y)(hb:Bw w w'):Ex w' p y:=(hb.block p (Ae h)).trans h
theorem alK(y:Nat)(w:World):Calls prog 20 #[.pointer (some ⟨y,0,none⟩)] w fun e w'=>∃ p,e=.returned (.tuple #[.pointer (some ⟨p,0,none⟩),.int .i64 0])∧Ex w' p y∧w.heap.size≤p∧Bw w w':=by
 go_enter func20,ntmps20;go_wp2_with fail;go_ret2;exact⟨_,rfl,Aq w _,Ab _,Am w _⟩
theorem bT{w:World}{p y:Nat}{A:M}(hm:Ex w p y)(hg:Man.JR w y A)(name:T)(hn:name.length≤1000):Calls prog 81 #[.pointer (some ⟨p,0,none⟩),.string (bs name)] w fun e w'=>KW A8 w A name e w':=by
 have c:=hm.cell;have HG:=Hi (hg.gets w (Ad _ _) name hn);have hs:=hg.small name;have HF:=Hi (show fileOf A8 A name=(Fil.get A name).bind (A8.Cn name) from rfl);clear hg hm;cases hx:Fil.get A name with
 |none=>
  rw[hx] at HG HF;have hF:fileOf A8 A name=none:=HF.out;have HP:=Hi (show ∀ W',Bw w W'→KW A8 w A name (.returned (.tuple #[.slice none 0 0,.bool false,.bool false])) W' from fun W' hb=>⟨none,0,by rw[hF,hx];rfl,by rw[hF];exact PQ _ _,fun _=>rfl,hb⟩);clear hx HF hF hs;go_enter func81,ntmps81;go_wp2_with fail;refine HG.mono ?_;rintro e w1⟨rfl,hb1⟩;have HB1:=Hi hb1;clear hb1;go_wp2_with fail;exact Dt (v:=.tuple #[.slice none 0 0,.bool false,.bool false]) (by simp[results,results81,go_sem]) rfl (HP _ HB1)
 |some d=>
  rw[hx] at HG HF;have hF:fileOf A8 A name=A8.Cn name d:=HF.out;have hdl:d.length≤1000000:=by rw[hx] at hs;exact hs
  have HR:=Hi (fun(W:World)=>alF name d W hdl);have LV:=Hi (show(Fil.get A name).isSome=true from by rw[hx];rfl);clear HF hs hx;cases hr:A8.Cn name d with
  |none=>
   rw[hr] at HR hF;have HP:=Hi (show ∀ W',Bw w W'→KW A8 w A name (.returned (.tuple #[.slice none 0 0,.bool true,.bool false])) W' from fun W' hb=>⟨none,0,by rw[hF,LV.out];rfl,by rw[hF];exact PQ _ _,fun _=>rfl,hb⟩);clear hF hr LV;go_enter func81,ntmps81;go_wp2_with fail;refine HG.mono ?_;rintro e w1⟨rfl,hb1⟩;have HB1:=Hi hb1;clear hb1;go_wp2_with fail;refine(HR _).mono ?_;rintro e w2⟨rfl,hb2⟩;have HB2:=Hi (HB1.trans (hb2.mono HB1.size));clear hb2;go_wp2_with fail;exact Dt (v:=.tuple #[.slice none 0 0,.bool true,.bool false]) (by simp[results,results81,go_sem]) rfl (HP _ HB2)
  |some l=>
   rw[hr] at HR hF;have HP:=Hi (show ∀ (W':World) (q:Option Addr) (cap:Nat),AP W' w.heap.size (.slice q l.length cap) l→(q=none→cap=0)→Bw w W'→KW A8 w A name (.returned (.tuple #[.slice q l.length cap,.bool true,.bool true])) W' from fun W' q cap h1 h2 hb=>⟨q,cap,by rw[hF,LV.out];rfl,by rw[hF];exact h1,h2,hb⟩);clear hF hr LV;go_enter func81,ntmps81;go_wp2_with fail;refine HG.mono ?_;rintro e w1⟨rfl,hb1⟩;have HB1:=Hi hb1;clear hb1;go_wp2_with fail;refine(HR _).mono ?_;rintro e w2⟨q,cap,rfl,ast,hqc,hb2⟩;have HB2:=Hi (HB1.trans (hb2.mono HB1.size));have HW:=Hi (Da ast HB1.size);clear hb2 ast;go_wp2_with fail;exact Dt (v:=.tuple #[.slice q l.length cap,.bool true,.bool true]) (by simp[results,results81,go_sem]) rfl (HP _ _ _ HW hqc HB2)
theorem ab6{w:World}{p y:Nat}{c:Int}{P:World→World→Prop}(hm:Ex w p y)(hf:Calls prog 140 #[.pointer (some ⟨y,0,none⟩)] w fun e w'=>e=.returned (.int .i64 c)∧P w w'):
  Calls prog 78 #[.pointer (some ⟨p,0,none⟩)] w fun e w'=>e=.returned (.int .i64 c)∧P w w':=by
 have c0:=hm.cell;have HF:=Hi hf;clear hf hm;go_enter func78,ntmps78;go_wp2_with fail;refine HF.mono ?_;rintro e w1⟨rfl,hb1⟩;go_wp2_with fail;go_ret;exact⟨rfl,hb1⟩
end Dep
namespace Dep
open Go.RowKit Go.Maps
open Wal Fil Man Prs Kp BH Hex Sha Al Mem
theorem ab7(p:Nat)(w:World):
  Calls prog 40 #[.pointer (some ⟨p,0,none⟩)] w fun e w'=>e=.returned (.func (.func 111) #[] #[.pointer (some ⟨w.heap.size,0,none⟩)])∧w'=w.alloc (.cells #[.pointer (some ⟨p,0,none⟩)] 37):=by
 go_enter func40,ntmps40;go_wp2_with fail;go_ret;exact⟨rfl,rfl⟩
theorem ab8(n:Nat)(hn:1≤n){w:World}{p y:Nat}{A:M}(hm:Ex w p y)(hf:I8 w y A)(oc Bx:Nat){J:Nat→List T→World→Prop}(hJ:Rj w oc J)(w1:World):
  SH n prog 111 #[.pointer (some ⟨Bx,0,none⟩)] bC (LZ w oc Bx (.pointer (some ⟨p,0,none⟩)) 37 A8 A J) (PT w oc Bx (.pointer (some ⟨p,0,none⟩)) 37 A8 A J) (fun xs=>xs.map (·.name)=GK A8 A) w1:=by
 intro l Bk W OC hY hW h0 hk0;have h00:Bw w W∧w.heap.size≤oc∧oc < Bx∧W.heap[Bx]?=some (.cells #[.pointer (some ⟨p,0,none⟩)] 37)∧∃ B,B≤W.heap.size∧J B [] W:=by
  rcases h0 with⟨-,h⟩|⟨B0,q0,c0,g1,-,g2,g3⟩
  ·exact h
  ·exact⟨g1.Ao,g1.low,g1.lt,g1.box,B0,g1.size,g3⟩
 obtain⟨g1,g2,g3,g4,B0,g5,g6⟩:=h00;clear h0;have hbx:W.cell? ⟨Bx,0,none⟩=some (.pointer (some ⟨p,0,none⟩)):=cr g4;have hmc:=(hm.below g1).cell;have Gb:=Hi (hf.names W g1);have G1:=Hi g1;have G2:=Hi g2;have G3:=Hi g3;have G4:=Hi g4;have G5:=Hi g5;have G6:=Hi g6;have GJ:=Hi hk0;have MJ:=Hi OC;have HJ:=Hi hJ;have HM:=Hi hm;have HF:=Hi hf;have hlen:=hf.len;clear g1 g2 g3 g4 g5 g6 hk0 OC hJ hm hf;refine callsIn_of_wp func111 rfl trivial ?_ rfl;simp only[ntmps111,Ih,AX,FN,Nat.reduceAdd,Nat.reduceSub,JB,JA,Jz,JC,DI,FL]
 gi_wp2
 refine⟨trivial,(Cu.2 Gb).mono ?_⟩;rintro e w2⟨v,rfl,ast,hb2,hown⟩;have HB2:=Hi (G1.trans (hb2.mono G1.size));have ayo:Bk w2:=MJ _ _ GJ (OE (ub hb2) (fun _ _ f=>f.elim));have hj2:J w2.heap.size [] w2:=HJ.raise _ _ _ (HJ.below _ _ _ _ G6 hb2) (Ah G5 hb2.size) (Ab _);obtain⟨q,c,rfl⟩:∃ q c,v=.slice q (A.map (·.1)).length c:=by
  rw[BQ];exact AA ast
 have hal:Jo w oc Bx w2.heap.size (.pointer (some ⟨p,0,none⟩)) 37 q c (A.map (·.1)) w2:=⟨HB2,G2,G3,Di (Ae G4) hb2.size,Ab _,(hb2.block _ (Ae G4)).trans G4,by rw[BQ] at ast ⊢;exact ast,fun k hk=>⟨Di (Nat.lt_trans G3 (Ae G4)) (hown k hk),by
  obtain⟨cs,fz,h⟩:=Bi ast hk;exact Ae h⟩⟩
 have NK:=Hi hal;have HJ2:=Hi hj2;have XD:=Hi ayo;generalize w2.heap.size=B at*;clear hal hj2 ayo ast hb2 hown Gb G1 G2 G3 G4 G5 G6 GJ;have Sm:=Hi (show ∀ t∈A.map (·.1),t.length≤1000 from fun t ht=>HF.short t ht);have hll:((A.map (·.1)).length:Int)=(A.length:Int):=by rw[BQ]
 gi_wp2
 gi_loopw [16] (fun i wr=>bG w oc Bx B (.pointer (some ⟨p,0,none⟩)) 37 q c A8 A J Bk i wr) (fun i _=>A.length -(intOf i).toNat)
 case atStart=>exact⟨0,[],Ar _,rfl,NK,fun z hz=>by simp at hz,rfl,HJ2,XD⟩
 case round=>
  obtain⟨k,xs,hk,rfl,h1,hgh,h2,h3,h4⟩:=hrel;have Tx:=Hi hgh;have H1:=Hi h1;have H2:=Hi h2;have H3:=Hi h3;have H4:=Hi h4;clear h2 h3 h4 hgh NK HJ2 XD;by_cases hlt:k < A.length
  ·have NL:k < (A.map (·.1)).length:=(by rw[BQ];exact hlt);obtain⟨a,hix,c0⟩:=(CP (c:=c) h1.row).index c k NL;simp only[BQ] at hix;have hnm:∀ t∈A.map (·.1),t.length≤1000:=Sm.out;have hnk:=hnm _ (BF NL);have Bo:=Hi (mh (f:=A8.ours) NL);have Ty:=Hi (aaU (f:=A8.ours) NL);generalize (A.map (·.1))[k]=name at*;have HO:=Hi (alC name wr (by omega));clear hnm;have Tz:wr.cell? ⟨Bx,0,none⟩=some (.pointer (some ⟨p,0,none⟩)):=cr h1.box;have hB0:=h1.Ao;have HB0:=Hi hB0;clear h1 hB0
   gi_wp2
   refine⟨trivial,(Cu.2 HO).mono ?_⟩;rintro e w3⟨rfl,hb3⟩;have mo:w3.cell? ⟨Bx,0,none⟩=some (.pointer (some ⟨p,0,none⟩)):=(hb3.cell (Bz Tz)).trans Tz;have Fz:=Hi (H1.below hb3);have XE:=Hi (HJ.below _ _ _ _ H3 hb3);have F3:=Hi (MJ _ _ H4 (OE (ub hb3) (fun _ _ f=>f.elim)));clear hb3 hix c0 HO Tz;cases hou:A8.ours name with
   |false=>
    have HX:=Hi (show xs.map (·.name)=((A.map (·.1)).take (k+1)).filter A8.ours from by rw[Bo.out,hou,H2.out];simp);clear Bo Ty hou
    gi_wp2
    go_roundw
    case rel=>exact⟨k+1,xs,by omega,by go_num,Fz,Tx,HX,XE,F3⟩
    case measure=>
     show A.length -((k:Int)+1).toNat < A.length -((k:Int)).toNat
     omega
   |true=>
    have HX:=Hi (show xs.map (·.name)++[name]=((A.map (·.1)).take (k+1)).filter A8.ours from by rw[Bo.out,hou,H2.out];simp);have mq:=Hi (show xs.map (·.name)++name :: ((A.map (·.1)).drop (k+1)).filter A8.ours=GK A8 A from by rw[H2.out];exact Ty hou);have EO:=Hi (bT (HM.below (Fz.Ao)) (HF.bB Fz.Ao) name hnk);clear Bo Ty hou
    gi_wp2
    refine⟨trivial,(Cu.2 EO).mono ?_⟩;rintro e w4⟨q2,c2,rfl,ast,hqc,hb4⟩;have Mx:=Hi (Fz.below hb4);have mr:=Hi (HJ.below _ _ _ _ XE hb4);have KX:=Hi (MJ _ _ F3 (OE (ub hb4) (fun _ _ f=>f.elim)));obtain⟨x,El,ED,NM,PU,PV⟩:∃ x:FU,x.name=name∧x.row=.slice q2 ((fileOf A8 A name).getD []).length c2∧x.B=B∧x.q=q∧x.c=c:=⟨⟨name,_,B,q,c⟩,rfl,rfl,rfl,rfl,rfl⟩;have R8:PT w oc Bx (.pointer (some ⟨p,0,none⟩)) 37 A8 A J xs x w4:=⟨by rw[NM,PU,PV];exact Mx.out,by rw[NM,PU,PV];exact Tx.out,⟨_,by rw[El];exact mq.out⟩,by rw[NM];exact mr.out,⟨q2,c2,by rw[El];exact ED,by rw[El];exact Av.BU ast,hqc,by rw[El];exact aaT ast⟩⟩;obtain⟨fn,tmps,assign,body,hy,hR⟩:=hY xs _ w4 R8 KX.out;have HR:=Hi hR;unfold bC at hy;rw[El,ED] at hy;have mD:=Hi (show(xs++[x]).map (·.name)=((A.map (·.1)).take (k+1)).filter A8.ours from by rw[C8,List.map_singleton,El];exact HX.out);have mE:=Hi (show x.B=B∧x.q=q∧x.c=c from⟨NM,PU,PV⟩);have XF:=Hi (show x∈xs++[x] from by simp);generalize (xs++[x])=mF at*;clear El ED NM PU PV hR R8 ast hb4 mo;generalize ((fileOf A8 A name).getD []).length=ln at*
    gi_wp2
    refine HR.mono ?_;rintro e w5⟨rfl,h5,h6⟩
    have Ca:=Hi (show bG w oc Bx B (.pointer (some ⟨p,0,none⟩)) 37 q c A8 A J Bk (.int .i64 ((k:Int)+1)) w5 from by
     rcases h5 with⟨e,-⟩|⟨B',q',c',k1,k2,k3,k4⟩
     ·have:=XF.out;rw[e] at this;simp at this
     ·obtain⟨e1,e2,e3⟩:=k2 _ XF;obtain⟨f1,f2,f3⟩:=mE.out;obtain rfl:B'=B:=e1.symm.trans f1;obtain rfl:q'=q:=e2.symm.trans f2;obtain rfl:c'=c:=e3.symm.trans f3;exact⟨k+1,mF,by omega,by go_num,k1,k2,mD,k4,h6⟩)
    clear h5 h6 hy HR
    gi_wp2
    go_roundw
    case rel=>exact Ca.out
    case measure=>
     show A.length -((k:Int)+1).toNat < A.length -((k:Int)).toNat
     omega
  ·obtain rfl:k=A.length:=by omega
   have HE:=Hi (show xs.map (·.name)=GK A8 A from by
    rw[H2.out,ET (by rw[BQ];exact Ab _)];rfl)
   clear h1
   gi_wp2
   go_end0
   exact⟨⟨_,rfl⟩,xs,HE,.inr ⟨B,q,c,H1,Tx,⟨[],by rw[E8,HE.out]⟩,H3⟩,H4.out⟩
theorem XN(w:World)(base:Nat):Man.AQ w base (.slice none 0 0) []:=by unfold Man.AQ;rw[GD];exact DJ _ _ _ _
theorem ab9{w:World}{base:Nat}{e:TypeId}{s n:Nat}{v:Value}{cs:List Value}(h:w.ownsRow 0 e s v n cs)(hg:∀ g,v.ownBlock=some g→base≤g):w.ownsRow base e s v n cs:=by
 refine⟨h.1,?_⟩;rcases h.2 with h|⟨g,cap,cur,k1,k2,k3⟩
 ·exact .inl h
 ·exact .inr ⟨g,cap,cur,k1,hg g (by rw[k1];rfl),k3⟩
def getU(A:M)(run:T):List T×Bool×Int:=if(Fil.get A (A8.nm run)).isSome=true∧(fileOf A8 A (A8.nm run)).isSome=false then([],false,50) else match Ct A8 A run with
 |some v=>((C9 v).getD [],true,0)
 |none=>([],false,0)
theorem alL(A:M)(key:T)(h1:(Fil.get A (A8.nm key)).isSome=true)(h2:(fileOf A8 A (A8.nm key)).isSome=false):getU A key=([],false,50):=Ac ⟨h1,h2⟩
theorem alM(A:M)(key:T)(h:¬ ((Fil.get A (A8.nm key)).isSome=true∧(fileOf A8 A (A8.nm key)).isSome=false)):getU A key=match Fil.get ((fileOf A8 A (A8.nm key)).getD []) key with
 |some v=>((C9 v).getD [],true,0)
 |none=>([],false,0):=by unfold getU;rw[Aa h,XB]
theorem XO(key:T):(A8.nm key).length=17:=FH.len key
theorem abb(p:T×T)(w:World)(hp:p.2.length≤65535):Calls prog 107 #[.agg #[.string (bs p.1),.string (bs p.2)]] w fun e w'=>∃ v,e=.returned v∧Man.AQ w' w.heap.size v ((C9 p.2).getD [])∧Bw w w':=by
 have HR:=Hi (fun(W:World)=>Ww p.2 W (by omega));have Ag:=Hi (Am w (.cells #[.string (bs p.1),.string (bs p.2)] 75));unfold Go.Proofs.YtmbbhdebddbhoaaGreat.Il at HR;cases hr:C9 p.2 with
 |none=>
  simp only[hr] at HR;clear hr;go_enter func107,ntmps107;go_wp2_with fail;refine(HR _).mono ?_;rintro e w1⟨rfl,hb⟩;have HB:=Hi (Ag.trans (hb.mono Ag.size));clear hb;go_wp2_with fail;go_ret;exact⟨_,rfl,XN _ _,HB⟩
 |some l=>
  simp only[hr] at HR;clear hr;go_enter func107,ntmps107;go_wp2_with fail;refine(HR _).mono ?_;rintro e w1⟨v,rfl,ast,hb,hg⟩;obtain⟨q,c,rfl⟩:=AA ast;have HB:=Hi (Ag.trans (hb.mono Ag.size));have HRW:=Hi (ab9 (base:=w.heap.size) ast (fun g hg'=>Ah Ag.size (hg g hg')));clear hb ast hg;go_wp2_with fail;go_ret;exact⟨_,rfl,HRW,HB⟩
theorem abd{w:World}{p y:Nat}{A:M}(hm:Ex w p y)(hg:Man.JR w y A)(key:T)(hk:key.length≤1000000):
  Calls prog 35 #[.pointer (some ⟨p,0,none⟩),.string (bs key)] w fun e w'=>∃ v,e=.returned (.tuple #[v,.bool (getU A key).2.1,.int .i64 (getU A key).2.2])∧Man.AQ w' w.heap.size v (getU A key).1∧Bw w w':=by
 have HN:=Hi (bQ key w hk);have HO:=Hi (fun(W:World) (hW:Bw w W)=>bT (hm.below hW) (OJ hg hW) (A8.nm key) (by rw[XO];decide));have HV:=Hi (alM A key);have HB:=Hi (alL A key);obtain⟨hl,hsh⟩:=@PR A8 A (A8.nm key);unfold KW at HO;clear hm hg;generalize (fileOf A8 A (A8.nm key)).getD []=l at*;generalize (fileOf A8 A (A8.nm key)).isSome=good at*;generalize (Fil.get A (A8.nm key)).isSome=PS at*;generalize getU A key=V at*;generalize A8.nm key=name at*;by_cases av2:PS=true∧good=false
 ·obtain⟨rfl,rfl⟩:=av2;have hV:=HB rfl rfl;clear HB HV;subst hV;go_enter func35,ntmps35;go_wp2_with fail;refine HN.mono ?_;rintro e w1⟨rfl,hb1⟩;have HB1:=Hi hb1;clear hb1;go_wp2_with fail;refine(HO _ HB1).mono ?_;rintro e w2⟨q,cap,rfl,ast,hqc,hb2⟩;have HB2:=Hi (HB1.trans (hb2.mono HB1.size));clear hb2 ast;go_wp2_with fail;exact Dt (v:=.tuple #[.slice none 0 0,.bool false,.int .i64 50]) (by simp[results,results35,go_sem]) rfl ⟨_,rfl,XN _ _,HB2⟩
 ·have Ri:=Hi (HV av2);clear HB HV;have hcs:PS=false∨(PS=true∧good=true):=by
   cases PS<;>cases good<;>simp_all
  clear av2;rcases hcs with rfl|⟨rfl,rfl⟩
  all_goals
   go_enter func35,ntmps35;go_wp2_with fail;refine HN.mono ?_;rintro e w1⟨rfl,hb1⟩;have HB1:=Hi hb1;clear hb1;go_wp2_with fail;refine(HO _ HB1).mono ?_;rintro e w2⟨q,cap,rfl,ast,hqc,hb2⟩;have HB2:=Hi (HB1.trans (hb2.mono HB1.size));have HP:=Hi (Av.BU ast);clear hb2 ast;go_wp2_with fail
   go_loopw [11,29] (fun _ i wr=>bA w q cap l key i wr) (fun _ i _=>l.length -(intOf i).toNat)
   case atStart=>exact⟨0,Ar _,rfl,HB2,HP,rfl⟩
   case round=>
    obtain⟨k,hkl,rfl,hb,hp,av3⟩:=hrel;have HB3:=Hi hb;have OL:=Hi hp;have HG:=Hi av3;clear HB2 HP hb av3;by_cases hlt:k < l.length
    ·obtain⟨a,hix,ha,-⟩:=hp.index cap k hlt;have c0:=ha.key;have c1:=ha.val;have HD:=Hi (HG.trans (aaP hlt key));have hsv:=(hsh _ (BF hlt)).2;generalize l[k]=x at*;clear ha hp;by_cases heq:x.1=key
     ·have hV:=Ri.out;rw[HD.out,Ac heq] at hV;subst hV;obtain⟨xk,xv⟩:=x;have heq:xk=key:=heq;subst heq;have Tw:(xk == xk)=true:=beq_self_eq_true xk;have HKK:=Hi (fun(W:World)=>abb (xk,xv) W hsv);have c0:wr.cell? a=some (.string (bs xk)):=c0;have c1:wr.cell? ⟨a.block,a.off+1,none⟩=some (.string (bs xv)):=c1;have agc:=HB3.size;go_wp2_with fail;refine(HKK _).mono ?_;rintro e w5⟨kv,rfl,hkr,hb5⟩;obtain⟨kq,kc,rfl⟩:=AA hkr;have LB:=Hi (Da hkr (by rw[Ai];omega:w.heap.size≤(wr.alloc _).heap.size));have BG:=Hi ((HB3.alloc HB3.size _).trans (hb5.mono (by rw[Ai];omega)));clear hkr hb5;go_wp2_with fail;exact Dt (v:=.tuple #[.slice kq ((C9 xv).getD []).length kc,.bool true,.int .i64 0]) (by simp[results,results35,go_sem]) rfl ⟨_,rfl,LB,BG⟩
     ·have Tw:(x.1 == key)=false:=Fq.2 heq;have HD2:=Hi (HD.trans (Aa heq));go_wp2_with fail;go_roundw
      case rel=>
       have GX:=Hi (show ∀ o,bA w q cap l key (.int .i64 ((k:Int)+1)) (wr.alloc o) from fun o=>⟨k+1,by omega,by go_num,HB3.alloc HB3.size o,OL.below (Am wr o),HD2⟩)
       first
       |exact GX _
       |(repeat apply Exists.intro
         refine⟨?_,rfl⟩;exact GX _)
      case measure=>
       show l.length -((k:Int)+1).toNat < l.length -((k:Int)).toNat
       omega
    ·obtain rfl:k=l.length:=(by omega);have hV:=Ri.out;rw[HG.out,List.drop_length] at hV;have hV:V=([],false,0):=hV;subst hV;clear hp;go_wp2_with fail;exact Dt (v:=.tuple #[.slice none 0 0,.bool false,.int .i64 0]) (by simp[results,results35,go_sem]) rfl ⟨_,rfl,XN _ _,HB3⟩
end Dep
namespace Kp
open Go.Lib Go.RowKit Fil Man Wal Prs
structure Gc(K:Kind)(A:M)(kt:List T)(L:List (T×M)):Prop where
 nodup:(L.map (·.1)).Nodup
 names:∀ t,t∈L.map (·.1)↔t∈kt.map K.nm
 rows:∀ x∈L,x.2=EM K A kt x.1
section
variable {K:Kind}{A:M}
theorem Gc.nil:Gc K A [] []:=⟨by simp,fun t=>by simp,fun x hx=>by simp at hx⟩
theorem alN{kt:List T}{name:T}:∀ p∈EM K A kt name,K.nm p.1=name:=by
 intro p hp;unfold EM at hp;have h1:=(CU.1 hp).1;cases hf:fileOf K A name with
 |none=>rw[hf] at h1;simp at h1
 |some l=>
  rw[hf] at h1;unfold fileOf at hf;cases hg:get A name with
  |none=>rw[hg] at hf;cases hf
  |some d=>
   rw[hg] at hf;exact((KR hf).2.2.1 _ h1).1
theorem bU(kt:List T)(k name:T):EM K A (kt++[k]) name=(EM K A kt name).filter fun p=>!(p.1 == k):=by
 unfold EM;rw[List.filter_filter];refine List.filter_congr fun p _=>?_
 by_cases h1:p.1=k<;>by_cases h2:p.1∈kt<;>simp[h1,h2]
theorem mZ(kt:List T){k name:T}(h:K.nm k≠name):EM K A (kt++[k]) name=EM K A kt name:=by
 rw[bU];refine List.filter_eq_self.2 fun p hp=>?_
 have:=alN p hp;have:p.1≠k:=fun e=>h (by rw[←e];exact this)
 simpa using this
def setRow(L:List (T×M))(name:T)(l:M):List (T×M):=L.map fun x=>if x.1=name then(x.1,l) else x
theorem Vu(L:List (T×M))(name:T)(l:M):(setRow L name l).map (·.1)=L.map (·.1):=by
 unfold setRow;rw[List.map_map];exact Nb fun x _=>by
  show(if x.1=name then(x.1,l) else x).1=x.1
  split<;>rfl
theorem Gc.more{kt:List T}{L:List (T×M)}(h:Gc K A kt L){k:T}(hk:K.nm k∈L.map (·.1)):Gc K A (kt++[k]) (setRow L (K.nm k) ((EM K A kt (K.nm k)).filter fun p=>!(p.1 == k))):=by
 refine⟨by rw[Vu];exact h.nodup,fun t=>?_,fun x hx=>?_⟩
 ·rw[Vu,h.names,C8,Ee];constructor
  ·exact .inl
  ·rintro(e|e)
   ·exact e
   ·rw[List.map_singleton,DT] at e;rw[e];exact(h.names _).1 hk
 ·unfold setRow at hx;obtain⟨y,hy,rfl⟩:=AV.1 hx;by_cases e:y.1=K.nm k
  ·rw[Ac e]
   show _=EM K A (kt++[k]) y.1
   rw[e,bU]
  ·rw[Aa e,mZ _ (fun e'=>e e'.symm)];exact h.rows y hy
theorem Gc.new{kt:List T}{L:List (T×M)}(h:Gc K A kt L){k:T}(hk:K.nm k∉L.map (·.1)):Gc K A (kt++[k]) ((K.nm k,((fileOf K A (K.nm k)).getD []).filter fun p=>!(p.1 == k)) :: L):=by
 refine⟨Hu.2 ⟨hk,h.nodup⟩,fun t=>?_,fun x hx=>?_⟩
 ·rw[Bg,AZ,h.names,C8,Ee];constructor
  ·rintro(e|e)
   ·exact .inr (by simp[e])
   ·exact .inl e
  ·rintro(e|e)
   ·exact .inr e
   ·exact .inl (by simpa using e)
 ·rcases AZ.1 hx with rfl|hx
  ·show _=EM K A (kt++[k]) (K.nm k)
   have e:((fileOf K A (K.nm k)).getD []).filter (fun p=>decide (p.1∉kt))=(fileOf K A (K.nm k)).getD []:=List.filter_eq_self.2 fun p hp=>by
    have h1:K.nm p.1=K.nm k:=by
     cases hf:fileOf K A (K.nm k) with
     |none=>rw[hf] at hp;simp at hp
     |some l=>
      rw[hf] at hp;unfold fileOf at hf;cases hg:get A (K.nm k) with
      |none=>rw[hg] at hf;cases hf
      |some d=>
       rw[hg] at hf;exact((KR hf).2.2.1 _ hp).1
    have:p.1∉kt:=fun e=>hk ((h.names _).2 (AV.2 ⟨p.1,e,h1⟩))
    simpa using this
   rw[bU];unfold EM;rw[e]
  ·rw[h.rows x hx,mZ _ (fun e=>hk (by rw[e];exact ES hx))]
theorem Gc.XP{ks:List T}{L:List (T×M)}(hg:Fil.Good A)(h:Gc K A ks L)(ht:There K A ks):Ho L=DC K A ks∧KY L=true:=by
 have hn:BX L=Az (ks.map K.nm):=by
  rw[bL h.nodup];refine LK (Ew _) (Ew _) fun t=>?_
  rw[Df,Df];exact h.names t
 have hr:∀ t∈BX L,rowOf L t=EM K A ks t:=fun t ht=>by
  obtain⟨x,hx,rfl⟩:=AV.1 (XI.1 ht);rw[XH h.nodup hx,h.rows x hx]
 constructor
 ·unfold Ho DC;rw[←hn];refine Nb fun t ht=>?_
  rw[hr t ht];rfl
 ·unfold KY;rw[Kl];intro t hm;rw[hr t hm];rw[hn] at hm;obtain⟨d,l,h1,h2,h3,h4,h5⟩:=Xm hg ht hm;have e:EM K A ks t=l.filter (fun p=>decide (p.1∉ks)):=by unfold EM;rw[h3];rfl
  unfold J4;rw[e];rcases h5 with⟨h5,_⟩|⟨s,h5,h6,_⟩
  ·rw[h5];rfl
  ·rw[h6];simp
end
end Kp
end Go.Proofs.YtmbbhdebddbhoaaGreat
