/- MemG FilDown AllS AllM MemK MemL MapK ChgP DropP PutP PutQ SetP RPrs RefSha RefBlk -/
import Derived.Test.YtkmninbcgipliaaGreatDoorW8
set_option maxHeartbeats 4000000
set_option maxRecDepth 100000
set_option linter.all false
namespace Go.Proofs.YtkmninbcgipliaaGreatDoor
open Tryz hiding t1 t2
namespace Mem
open Go.RowKit Go.Maps
open Aw Ah Aq Bu Kp Bz Hex BH
def MW(K:Kind)(A:M)(key:T):T×Bool×Int:=if(Ah.get A (K.nm key)).isSome=true∧(fileOf K A (K.nm key)).isSome=false then([],false,50) else match BU K A key with
 |some v=>(v,true,0)
 |none=>([],false,0)
theorem oP(K:Kind)(A:M)(key:T):BU K A key=Ah.get ((fileOf K A (K.nm key)).getD []) key:=by
 unfold BU;cases fileOf K A (K.nm key)<;>rfl
theorem aiW{l:M}{k:Nat}(hk:k < l.length)(key:T):Ah.get (l.drop k) key=if l[k].1=key then some l[k].2 else Ah.get (l.drop (k+1)) key:=by
 rw[OH hk];unfold Ah.get;by_cases h:l[k].1=key
 ·rw[Ae h,List.find?_cons_of_pos (by simpa using h)];rfl
 ·rw[A9 h,List.find?_cons_of_neg (by simpa using h)]
theorem eQ{K:Kind}{A:M}{name:T}:((fileOf K A name).getD []).length≤65535∧∀ p∈(fileOf K A name).getD [],p.1.length≤65535∧p.2.length≤65535:=by
 cases h:fileOf K A name with
 |none=>exact⟨by simp,fun p hp=>by simp at hp⟩
 |some l=>
  unfold fileOf at h;cases hg:Ah.get A name with
  |none=>rw[hg] at h;cases h
  |some d=>rw[hg] at h;exact iJ h
theorem avw{K:Kind}{A:M}{key:T}(h1:(Ah.get A (K.nm key)).isSome=true)(h2:(fileOf K A (K.nm key)).isSome=false):MW K A key=([],false,50):=Ae ⟨h1,h2⟩
theorem avx{K:Kind}{A:M}{key:T}(h:¬ ((Ah.get A (K.nm key)).isSome=true∧(fileOf K A (K.nm key)).isSome=false)):MW K A key=match Ah.get ((fileOf K A (K.nm key)).getD []) key with
 |some v=>(v,true,0)
 |none=>([],false,0):=by unfold MW;rw[A9 h,oP]
def pJ(w:World)(q:Option Addr)(cap:Nat)(l:M)(key:T)(i:Value)(wr:World):Prop:=∃ k:Nat,k≤l.length∧i=.int .i64 k∧Bw w wr∧Bg wr q l∧Ah.get l key=Ah.get (l.drop k) key
theorem Y8{w w':World}{y:Nat}{A:M}(h:Aq.PO w y A)(hb:Bw w w'):Aq.PO w' y A:=⟨fun W hW k hk=>h.gets W (bT hb hW) k hk,h.small⟩
theorem nO(key:T):(Ad.nm key).length=17:=Jc.len key
theorem adM{w:World}{p y:Nat}{A:M}(hm:Gq w p y)(hg:Aq.PO w y A)(key:T)(hk:key.length≤1000000):
  Calls prog 21 #[p,key] w (Rt w (.tuple #[(MW Ad A key).1,.bool (MW Ad A key).2.1,.int .i64 (MW Ad A key).2.2])):=by
 have HN:=Hi (bI key w hk);have HO:=Hi (fun(W:World) (hW:Bw w W)=>adN (hm.below hW) (Y8 hg hW) (Ad.nm key) (by rw[nO];decide));have HV:=Hi (@avx Ad A key);have HB:=Hi (@avw Ad A key);obtain⟨hl,-⟩:=@eQ Ad A (Ad.nm key);unfold QY at HO;clear hm hg;generalize (fileOf Ad A (Ad.nm key)).getD []=l at*;generalize (fileOf Ad A (Ad.nm key)).isSome=good at*;generalize (Ah.get A (Ad.nm key)).isSome=Xe at*;generalize MW Ad A key=V at*;generalize Ad.nm key=name at*;by_cases KL:Xe=true∧good=false
 ·obtain⟨rfl,rfl⟩:=KL;have hV:=HB rfl rfl;clear HB HV;subst hV
  go_in
  go_wp2_with fail;refine HN.mono ?_;rintro e w1⟨rfl,Ak⟩;have HB1:=Hi Ak;clear Ak;go_wp2_with fail;refine(HO _ HB1).mono ?_;rintro e w2⟨q,cap,rfl,Af,Hr,Ac⟩;have Aj:=bH HB1 Ac;clear Ac Af;go_wp2_with fail;exact EO (v:=.tuple #[.string (bs []),false,.int .i64 50]) (by simp[results,results21,go_sem];rfl) rfl ⟨rfl,Aj⟩
 ·have P7:=Hi (HV KL);clear HB HV;have DV:Xe=false∨(Xe=true∧good=true):=by
   cases Xe<;>cases good<;>simp_all
  clear KL;rcases DV with rfl|⟨rfl,rfl⟩
  all_goals
   go_in
   go_wp2_with fail;refine HN.mono ?_;rintro e w1⟨rfl,Ak⟩;have HB1:=Hi Ak;clear Ak;go_wp2_with fail;refine(HO _ HB1).mono ?_;rintro e w2⟨q,cap,rfl,Af,Hr,Ac⟩;have Aj:=bH HB1 Ac;have HP:=Hi (Bg.CR Af);clear Ac Af;go_wp2
   go_loopw [10,28] (fun _ i wr=>pJ w q cap l key i wr) (fun _ i _=>l.length -(intOf i).toNat)
   case atStart=>exact⟨0,AV _,rfl,Aj,HP,rfl⟩
   case round=>
    obtain⟨k,E9,rfl,hb,hp,LG⟩:=hrel;have Au:=Hi hb;have ZB:=Hi hp;have HG:=Hi LG;clear Aj HP hb LG;by_cases hlt:k < l.length
    ·obtain⟨a,Cn,ha,-⟩:=hp.index cap k hlt;have c0:=ha.key;have c1:=ha.val;have HD:=Hi (HG.trans (aiW hlt key));generalize l[k]=x at*;clear ha hp;by_cases heq:x.1=key
     ·have hV:=P7.out;rw[HD.out,Ae heq] at hV;subst hV;have aU:(x.1 == key)=true:=beq_iff_eq.2 heq;go_wp2_with fail;exact EO (v:=.tuple #[x.2,true,.int .i64 0]) (by simp[results,results21,go_sem]) rfl ⟨rfl,Au.alloc Au.size _⟩
     ·have aU:(x.1 == key)=false:=Ev.2 heq;have O5:=Hi (HD.trans (A9 heq));go_wp2;go_roundw
      case rel=>
       have Iz:=Hi (show ∀ o,pJ w q cap l key (.int .i64 ((k:Int)+1)) (wr.alloc o) from fun o=>⟨k+1,by omega,by go_num,Au.alloc Au.size o,ZB.below (AQ wr o),O5⟩)
       first
       |exact Iz _
       |(repeat apply Exists.intro
         refine⟨?_,rfl⟩;exact Iz _)
      case measure=>
       show l.length -((k:Int)+1).toNat < l.length -((k:Int)).toNat
       omega
    ·obtain rfl:k=l.length:=(by omega);have hV:=P7.out;rw[HG.out,List.drop_length] at hV;change V=([],false,0) at hV;subst hV;clear hp;go_wp2_with fail;exact EO (v:=.tuple #[.string (bs []),false,.int .i64 0]) (by simp[results,results21,go_sem];rfl) rfl ⟨rfl,Au⟩
theorem azE{w:World}{p y:Nat}{A:M}(hm:Gq w p y)(hg:Aq.PO w y A)(key:T)(hk:key.length≤1000000):
  Calls prog 152 #[p,key] w (Rt w (.bool (MW Ad A key).2.1)):=by
 have H:=Hi (adM hm hg key hk);clear hm hg;generalize MW Ad A key=V at*
 go_in
 go_wp2_with fail;refine H.mono ?_;rintro e w1⟨rfl,Ak⟩;have HB1:=Hi Ak;clear Ak;go_wp2;go_ret;exact⟨rfl,HB1⟩
theorem azt{w:World}{p y:Nat}{c:Int}{P:World→World→Prop}(hm:Gq w p y)(hf:Calls prog 175 #[y] w fun e w'=>e=.returned (.int .i64 c)∧P w w'):
  Calls prog 92 #[p] w fun e w'=>e=.returned (.int .i64 c)∧P w w':=by
 have c0:=hm.cell;have HF:=Hi hf;clear hf hm
 go_in
 go_wp2_with fail;refine HF.mono ?_;rintro e w1⟨rfl,Ak⟩;go_wp2;go_ret;exact⟨rfl,Ak⟩
end Mem
section
open Go.RowKit Go.Maps
open Ah
section
variable {w w':World}{b y n N:Nat}{bl:Nat→Prop}{A A':M}{dn:Bool}
end
end
namespace Al
open Go.RowKit Go.Maps
open Aw Ah Aq Bu Kp Bz Hex BH
structure Hf(w:World)(y:Nat)(A:M):Prop where
 gets:Aq.PO w y A
 names:∀ W,Bw w W→Calls prog 28 #[y] W fun e w'=>∃ v,e=.returned v∧w'.ownsRow 0 9 1 v A.length (strCells (A.map (·.1)))∧Bw W w'∧∀ k,v.ownBlock=some k→W.heap.size≤k
 up:Ah.Up A
 good:Ah.Good A
 len:A.length≤1000000
theorem Hf.below{w w':World}{y:Nat}{A:M}(h:Hf w y A)(hb:Bw w w'):Hf w' y A:=
 ⟨Mem.Y8 h.gets hb,fun W hW=>h.names W (bT hb hW),h.up,h.good,h.len⟩
theorem Hf.abh{w w':World}{y:Nat}{A:M}(h:Hf w y A)(hb:Bw w w'):Aq.PO w' y A:=Mem.Y8 h.gets hb
theorem Hf.short{w:World}{y:Nat}{A:M}(h:Hf w y A)(t:T)(ht:t∈A.map (·.1)):t.length≤1000:=by
 obtain⟨x,hx,rfl⟩:=Bv.1 ht;have:=h.good x hx;unfold EX at this;have:=(O0 this).2.1;omega
theorem sG{fz:Bool}{w:World}{b y n N:Nat}{bl:Nat→Prop}{A:M}(h:Gn fz w b y bl n N A):Hf w y A:=by
 have Jo:=bU h.up.2.2.2.2;have Ij:=RV A;have DF:=h.up;refine⟨Aq.sZ h,fun W hW=>(av8 (h.below hW)).mono ?_,DF.1,DF.2.1,by omega⟩;rintro e w'⟨v,rfl,p1,_,p2,p3⟩;exact⟨v,rfl,p1,p2,p3⟩
structure EF(et ct:TypeId)(s:Nat)(w:World)(oc B:Nat)(W:World)(n:Nat)(cs:List Value)(v:Value):Prop where
 AR:Bw w W
 low:w.heap.size≤oc
 lt:oc < B
 size:B≤W.heap.size
 box:W.heap[oc]?=some (.cells #[v] ct)
 row:W.ownsRow B et s v n cs
section
variable {et ct:TypeId}{s:Nat}{w:World}{oc B:Nat}{W W1 W2:World}{n:Nat}{cs:List Value}{v:Value}
theorem EF.ne(h:EF et ct s w oc B W n cs v){k:Nat}(hk:v.ownBlock=some k):k≠oc∧B≤k:=by
 have:=DT h.row hk;have:=h.lt;omega
theorem EF.upd{F:Nat→Prop}(h:EF et ct s w oc B W n cs v)(hu:A7 F W W1)(hB:∀ k,F k→w.heap.size≤k)(h1:¬ F oc)(h2:∀ k,v.ownBlock=some k→¬ F k):EF et ct s w oc B W1 n cs v:=by
 have h3:=h.low;have h4:=h.lt;have h5:=h.size;exact⟨Cz h.AR hu hB (by omega),h3,h4,Ay h5 hu.size,(hu.block oc (Ao h.box) h1).trans h.box,BD h.row hu h2⟩
theorem EF.below(h:EF et ct s w oc B W n cs v)(hb:Bw W W1):EF et ct s w oc B W1 n cs v:=h.upd (ub hb) (fun _ f=>f.elim) (fun f=>f) (fun _ _ f=>f)
theorem EF.put(h:EF et ct s w oc B W n cs v){k:Nat}{o o':Obj}(ho:W.heap[k]?=some o)(hc:o.isCells=false)(hk:w.heap.size≤k):EF et ct s w oc B (W.putObj k o') n cs v:=by
 refine h.upd (F:=fun i=>i=k) (A7.of_grownBy (F:=fun i=>i=k) (grownBy_putObj' W k o') (fun i e=>by cases e;rfl)) (fun i e=>by rw[e];exact hk) (fun e=>?_) (fun i hi e=>?_)
 ·rw[←e,h.box] at ho;injection ho with ho
  subst ho;exact absurd hc (by simp[Obj.isCells])
 ·obtain⟨cs,fz,h2⟩:=Cx h.row hi;rw[e,ho] at h2;injection h2 with h2
  subst h2;exact absurd hc (by simp[Obj.isCells])
theorem EF.raise{B':Nat}(h:EF et ct s w oc B W 0 [] ↑())(h1:B≤B')(h2:B'≤W.heap.size):EF et ct s w oc B' W 0 [] ↑():=
 ⟨h.AR,h.low,Ip h.lt h1,h2,h.box,DZ _ _ _ _⟩
theorem EF.add(h:EF et ct s w oc B W n cs v)(hb:Bw W W1)(hg:W1.grownBy W2 v.ownBlock){v':Value}{n':Nat}{cs':List Value}(ho:W2.ownsRow B et s v' n' cs'):
  EF et ct s w oc B (W2.setCell oc v') n' cs' v':=by
 have h1:=h.below hb;have h3:=h.low;have h4:=h.lt;have h5:=h1.size;have uh:W2.heap[oc]?=some (.cells #[v] ct):=(hg.block oc (Ao h1.box) (fun e=>(h1.ne e.symm).1 rfl)).trans h1.box;have hu:=(A7.refl (fun k=>k=oc) W2).setCell (p:=⟨oc,0,none⟩) (.inl rfl) v';refine⟨(h1.AR.grown hg (by omega) (fun k e=>by have:=(h1.ne e).2;omega)).setCell (p:=⟨oc,0,none⟩) h3 v',h3,h4,Ay (Ay h5 hg.size) hu.size,Cs W2 oc 0 _ _ v' uh,?_⟩;refine BD ho hu (fun g hg e=>?_);have:=DT ho hg;omega
theorem EF.keeps(h:EF et ct s w oc B W n cs v)(hb:Bw W W1)(hg:W1.grownBy W2 v.ownBlock)(v':Value):KeepsOthers W (W2.setCell oc v'):=by
 have h1:=h.below hb;refine((Vy (ub hb) (fun _ _ f=>f.elim)).trans (KeepsOthers.of_grownBy hg fun j o e ho=>?_)).trans (KeepsOthers.setCell _ _ _);obtain⟨cs,fz,h2⟩:=Cx h1.row e;rw[ho] at h2;injection h2 with h2
 subst h2;rfl
theorem EF.turned(h:EF et ct s w oc B W n cs v)(hb:Bw W W1)(hg:W1.grownBy W2 v.ownBlock)(v':Value):A7 (fun k=>k=oc∨B≤k) W (W2.setCell oc v'):=
 ((A7.of_below (F:=fun k=>k=oc∨B≤k) hb).trans (A7.of_grownBy (F:=fun k=>k=oc∨B≤k) hg (fun k e=>.inr ((h.below hb).ne e).2)) (fun _ f=>.inl f)).setCell (p:=⟨oc,0,none⟩) (.inl (.inl rfl)) v'
end
structure MI(w:World)(oc Bx B:Nat)(pv:Value)(ty:TypeId)(q:Option Addr)(c:Nat)(L:List T)(W:World):Prop where
 AR:Bw w W
 low:w.heap.size≤oc
 lt:oc < Bx
 lt2:Bx < B
 size:B≤W.heap.size
 box:W.heap[Bx]?=some (.cells #[pv] ty)
 row:W.ownsRow 0 9 1 (.slice q L.length c) L.length (strCells L)
 own:∀ k,(Value.slice q L.length c).ownBlock=some k→oc < k∧k < B
section
variable {w W W':World}{oc Bx B:Nat}{pv:Value}{ty:TypeId}{q:Option Addr}{c:Nat}{L:List T}
theorem MI.upd{F:Nat→Prop}(h:MI w oc Bx B pv ty q c L W)(hu:A7 F W W')(hF:∀ k,F k→k=oc∨B≤k):MI w oc Bx B pv ty q c L W':=by
 have h1:=h.low;have h2:=h.lt;have h3:=h.lt2;have h4:=h.size;refine⟨Cz h.AR hu (fun k f=>by have:=hF k f;omega) (by omega),h1,h2,h3,Ay h4 hu.size,(hu.block Bx (Ao h.box) (fun f=>by have:=hF _ f;omega)).trans h.box,BD h.row hu (fun k hk f=>?_),h.own⟩;have h5:=h.own k hk;have:=hF k f;omega
theorem MI.below(h:MI w oc Bx B pv ty q c L W)(hb:Bw W W'):MI w oc Bx B pv ty q c L W':=h.upd (ub hb) (fun _ f=>f.elim)
theorem MI.put(h:MI w oc Bx B pv ty q c L W){k:Nat}{o o':Obj}(ho:W.heap[k]?=some o)(hc:o.isCells=false)(hk:w.heap.size≤k):MI w oc Bx B pv ty q c L (W.putObj k o'):=by
 have h1:=h.low;have h2:=h.lt;have h3:=h.lt2;have h4:=h.size;have hu:A7 (fun i=>i=k) W (W.putObj k o'):=A7.of_grownBy (F:=fun i=>i=k) (grownBy_putObj' W k o') (fun i e=>by cases e;rfl);refine⟨Cz h.AR hu (fun i e=>by rw[e];exact hk) (by omega),h1,h2,h3,Ay h4 hu.size,Tf h.box ho hc,BD h.row hu (fun i hi e=>?_),h.own⟩;obtain⟨cs,fz,h5⟩:=Cx h.row hi;rw[e,ho] at h5;injection h5 with h5
 subst h5;exact absurd hc (by simp[Obj.isCells])
end
structure Gz where
 name:T
 row:Value
 B:Nat
 q:Option Addr
 c:Nat
structure asc(K:Kind)(A:M)(x:Gz)(W:World):Prop where
 row:∃ q c,x.row=.slice q ((fileOf K A x.name).getD []).length c∧Bg W q ((fileOf K A x.name).getD [])∧(q=none→c=0)∧∀ p,q=some p→(fileOf K A x.name).getD []≠[]→Bf W p.block 51
theorem anP{w:World}{base c:Nat}{q:Option Addr}{l:M}(h:BK w base (.slice q l.length c) l):∀ p,q=some p→l≠[]→Bf w p.block 51:=fun p e hne=>by
 subst e;rcases h.2 with⟨e1,e2⟩|⟨g,cap',cur,e1,_⟩
 ·exact absurd (Ku.1 e2) hne
 ·have e2:p=⟨g,0,none⟩:=by injection e1 with e1;injection e1
  subst e2;exact Cx h (by rw[e1];rfl)
def Il(K:Kind)(A:M):List T:=(A.map (·.1)).filter K.ours
def su(x:Gz):Array Value:=#[.string (bs x.name),x.row]
structure XU(w:World)(oc:Nat)(J:Nat→List T→World→Prop):Prop where
 below:∀ B ks W W',J B ks W→Bw W W'→J B ks W'
 raise:∀ B B' W,J B [] W→B≤B'→B'≤W.heap.size→J B' [] W
 put:∀ B ks W k o o',J B ks W→W.heap[k]?=some o→o.isCells=false→w.heap.size≤k→J B ks (W.putObj k o')
def OL(w:World)(oc Bx:Nat)(pv:Value)(ty:TypeId)(K:Kind)(A:M)(J:Nat→List T→World→Prop)(xs:List Gz)(W:World):Prop:=
 (xs=[]∧Bw w W∧w.heap.size≤oc∧oc < Bx∧W.heap[Bx]?=some (.cells #[pv] ty)∧∃ B,B≤W.heap.size∧J B [] W)∨
 ∃ B q c,MI w oc Bx B pv ty q c (A.map (·.1)) W∧(∀ x∈xs,x.B=B∧x.q=q∧x.c=c)∧(∃ ts,xs.map (·.name)++ts=Il K A)∧J B (xs.map (·.name)) W
def UB(w:World)(oc Bx:Nat)(pv:Value)(ty:TypeId)(K:Kind)(A:M)(J:Nat→List T→World→Prop)(xs:List Gz)(x:Gz)(W:World):Prop:=
 MI w oc Bx x.B pv ty x.q x.c (A.map (·.1)) W∧(∀ z∈xs,z.B=x.B∧z.q=x.q∧z.c=x.c)∧(∃ ts,xs.map (·.name)++x.name :: ts=Il K A)∧J x.B (xs.map (·.name)) W∧asc K A x W
theorem aAz{W:World}{q:Option Addr}{l:M}(h:Bg W q l){k:Nat}{o o':Obj}(ho:W.heap[k]?=some o)(hc:o.isCells=false):Bg (W.putObj k o') q l:=fun i hi=>by
 obtain⟨p,e,hp⟩:=h i hi;exact⟨p,e,aax hp.key ho hc,aax hp.val ho hc⟩
section
variable {w:World}{oc Bx:Nat}{pv:Value}{ty:TypeId}{K:Kind}{A:M}{J:Nat→List T→World→Prop}
theorem kg(hJ:XU w oc J){B0:Nat}(hB:w.heap.size≤B0)(xs:List Gz):NC B0 (OL w oc Bx pv ty K A J xs):=by
 constructor
 ·intro V k o o' hk h ho hc;rcases h with⟨h1,h2,h3,h4,h5,B,h6,h7⟩|⟨B,q,c,h1,hg,h2,h3⟩
  ·have hu:A7 (fun i=>i=k) V (V.putObj k o'):=A7.of_grownBy (F:=fun i=>i=k) (grownBy_putObj' V k o') (fun i e=>by cases e;rfl);refine .inl ⟨h1,Cz h2 hu (fun i e=>by rw[e];omega) h2.size,h3,h4,Tf h5 ho hc,B,Ay h6 hu.size,hJ.put _ _ _ _ _ _ h7 ho hc (by omega)⟩
  ·exact .inr ⟨B,q,c,h1.put ho hc (by omega),hg,h2,hJ.put _ _ _ _ _ _ h3 ho hc (by omega)⟩
 ·intro V o h;have hb:=AQ V o;rcases h with⟨h1,h2,h3,h4,h5,B,h6,h7⟩|⟨B,q,c,h1,hg,h2,h3⟩
  ·exact .inl ⟨h1,h2.trans (hb.mono h2.size),h3,h4,(hb.block _ (Ao h5)).trans h5,B,Ay h6 hb.size,hJ.below _ _ _ _ h7 hb⟩
  ·exact .inr ⟨B,q,c,h1.below hb,hg,h2,hJ.below _ _ _ _ h3 hb⟩
theorem ku(hJ:XU w oc J){B0:Nat}(hB:w.heap.size≤B0)(xs:List Gz)(x:Gz):NC B0 (UB w oc Bx pv ty K A J xs x):=by
 constructor
 ·rintro V k o o' hk ⟨h1,hg,h2,h3,⟨q2,c2,e,hp,hq,Rs⟩⟩ ho hc
  exact⟨h1.put ho hc (by omega),hg,h2,hJ.put _ _ _ _ _ _ h3 ho hc (by omega),⟨q2,c2,e,aAz hp ho hc,hq,fun p e1 e2=>by
   obtain⟨cs,fr,hb⟩:=Rs p e1 e2
   exact⟨cs,fr,by
    rw[World.putObj_heap_other (fun e=>?_)]
    ·exact hb
    ·subst e;rw[hb] at ho;injection ho with ho
     subst ho;cases hc⟩⟩⟩
 ·rintro V o ⟨h1,hg,h2,h3,⟨q2,c2,e,hp,hq,Rs⟩⟩;have hb:=AQ V o
  exact⟨h1.below hb,hg,h2,hJ.below _ _ _ _ h3 hb,⟨q2,c2,e,hp.below hb,hq,fun p e1 e2=>by
   obtain⟨cs,fr,Ac⟩:=Rs p e1 e2;exact⟨cs,fr,(hb.block _ (Ao Ac)).trans Ac⟩⟩⟩
theorem ky{xs:List Gz}{x:Gz}{W W':World}(h:MI w oc Bx x.B pv ty x.q x.c (A.map (·.1)) W)(hg:∀ z∈xs,z.B=x.B∧z.q=x.q∧z.c=x.c)(hs:∃ ts,xs.map (·.name)++x.name :: ts=Il K A)(hu:A7 (fun k=>k=oc∨x.B≤k) W W')(hj:J x.B (xs.map (·.name)++[x.name]) W'):OL w oc Bx pv ty K A J (xs++[x]) W':=by
 obtain⟨ts,hs⟩:=hs;refine .inr ⟨x.B,x.q,x.c,h.upd hu (fun _ f=>f),fun z hz=>?_,⟨ts,?_⟩,?_⟩
 ·rcases Es.1 hz with e|e
  ·exact hg z e
  ·rw[Fu.1 e];exact⟨rfl,rfl,rfl⟩
 ·rw[CQ,DJ,←hs];rfl
 ·rw[CQ];exact hj
end
end Al
namespace Mem
open Go.RowKit Go.Maps
open Aw Ah Aq Bu Kp Bz Hex BH Al
theorem vZ{L:List T}{f:T→Bool}{k:Nat}(hk:k < L.length):(L.take (k+1)).filter f=(L.take k).filter f++(if f L[k]=true then[L[k]] else[]):=by
 rw[Cr hk,IQ]
 congr 1
 by_cases h:f L[k]=true<;>simp[h]
theorem aih{L:List T}{f:T→Bool}{k:Nat}(hk:k < L.length)(h:f L[k]=true):(L.take k).filter f++L[k] :: (L.drop (k+1)).filter f=L.filter f:=by
 conv=>rhs;rw[←Lb (k+1) L,IQ,vZ hk,Ae h]
 simp
def pF(w:World)(oc Bx B:Nat)(pv:Value)(ty:TypeId)(q:Option Addr)(c:Nat)(K:Kind)(A:M)(J:Nat→List T→World→Prop)(Bk:World→Prop)(i:Value)(wr:World):Prop:=
 ∃ (k:Nat) (xs:List Gz),k≤A.length∧i=.int .i64 k∧MI w oc Bx B pv ty q c (A.map (·.1)) wr∧(∀ z∈xs,z.B=B∧z.q=q∧z.c=c)∧xs.map (·.name)=((A.map (·.1)).take k).filter K.ours∧J B (xs.map (·.name)) wr∧Bk wr
theorem amU(n:Nat)(hn:1≤n){w:World}{p y:Nat}{A:M}(hm:Gq w p y)(hf:Hf w y A)(oc Bx:Nat){J:Nat→List T→World→Prop}(hJ:XU w oc J)(w1:World):
  XV n prog 198 #[.pointer Bx] su (OL w oc Bx (.pointer p) 43 Ad A J) (UB w oc Bx (.pointer p) 43 Ad A J) (fun xs=>xs.map (·.name)=Il Ad A) w1:=by
 intro l Bk W Vb hY hW h0 KQ;have kV:Bw w W∧w.heap.size≤oc∧oc < Bx∧W.heap[Bx]?=some (.cells #[p] 43)∧∃ B,B≤W.heap.size∧J B [] W:=by
  rcases h0 with⟨-,h⟩|⟨B0,q0,c0,g1,-,g2,g3⟩
  ·exact h
  ·exact⟨g1.AR,g1.low,g1.lt,g1.box,B0,g1.size,g3⟩
 obtain⟨g1,g2,g3,g4,B0,g5,g6⟩:=kV;clear h0;have JG:W.cell? Bx=some (.pointer p):=cr g4;have Vn:=(hm.below g1).cell;have Iw:=Hi (hf.names W g1);have G1:=Hi g1;have G2:=Hi g2;have G3:=Hi g3;have G4:=Hi g4;have G5:=Hi g5;have G6:=Hi g6;have XG:=Hi KQ;have Sc:=Hi Vb;have HJ:=Hi hJ;have HM:=Hi hm;have HF:=Hi hf;have hlen:=hf.len;clear g1 g2 g3 g4 g5 g6 KQ Vb hJ hm hf;refine callsIn_of_wp func198 rfl trivial ?_ rfl;simp only[ntmps198,Kz,BM,IV,Nat.reduceAdd,Nat.reduceSub,Nj,Nk,Nq,Nn,EE,I5]
 gi_wp2
 refine⟨trivial,(DK.2 Iw).mono ?_⟩;rintro e w2⟨v,rfl,Af,Ac,hown⟩;have Aj:=bH G1 Ac;have lL:Bk w2:=Sc _ _ XG (Vy (ub Ac) (fun _ _ f=>f.elim));have Rl:J w2.heap.size [] w2:=HJ.raise _ _ _ (HJ.below _ _ _ _ G6 Ac) (Ay G5 Ac.size) (Ag _);obtain⟨q,c,rfl⟩:∃ q c,v=.slice q (A.map (·.1)).length c:=by
  rw[Ca];exact Bp Af
 have Yg:MI w oc Bx w2.heap.size (.pointer p) 43 q c (A.map (·.1)) w2:=⟨Aj,G2,G3,Ip (Ao G4) Ac.size,Ag _,(Ac.block _ (Ao G4)).trans G4,by rw[Ca] at Af ⊢;exact Af,fun k hk=>⟨Ip (Nat.lt_trans G3 (Ao G4)) (hown k hk),by
  obtain⟨cs,fz,h⟩:=Cx Af hk;exact Ao h⟩⟩
 have Tx:=Hi Yg;have Zw:=Hi Rl;have jl:=Hi lL;generalize w2.heap.size=B at*;clear Yg Rl lL Af Ac hown Iw G1 G2 G3 G4 G5 G6 XG;have Zz:=Hi (show ∀ t∈A.map (·.1),t.length≤1000 from fun t ht=>HF.short t ht);have EA:((A.map (·.1)).length:Int)=(A.length:Int):=by rw[Ca]
 gi_wp2
 gi_loopw [16] (fun i wr=>pF w oc Bx B (.pointer p) 43 q c Ad A J Bk i wr) (fun i _=>A.length -(intOf i).toNat)
 case atStart=>exact⟨0,[],AV _,rfl,Tx,fun z hz=>by simp at hz,rfl,Zw,jl⟩
 case round=>
  obtain⟨k,xs,hk,rfl,h1,mf,h2,h3,h4⟩:=hrel;have Zt:=Hi mf;have H1:=Hi h1;have H2:=Hi h2;have H3:=Hi h3;have H4:=Hi h4;clear h2 h3 h4 mf Tx Zw jl;by_cases hlt:k < A.length
  ·have U8:k < (A.map (·.1)).length:=(by rw[Ca];exact hlt);obtain⟨a,Cn,c0⟩:=(Hd (c:=c) h1.row).index c k U8;simp only[Ca] at Cn;have IJ:∀ t∈A.map (·.1),t.length≤1000:=Zz.out;have LJ:=IJ _ (CK U8);have CL:=Hi (vZ (f:=Ad.ours) U8);have TI:=Hi (aih (f:=Ad.ours) U8);generalize (A.map (·.1))[k]=name at*;have HO:=Hi (azK name wr (by omega));clear IJ;have av:wr.cell? Bx=some (.pointer p):=cr h1.box;have Qj:=h1.AR;have AP:=Hi Qj;clear h1 Qj
   gi_wp2
   refine⟨trivial,(DK.2 HO).mono ?_⟩;rintro e w3⟨rfl,Av⟩;have abZ:w3.cell? Bx=some (.pointer p):=(Av.cell (Cv av)).trans av;have K7:=Hi (H1.below Av);have jI:=Hi (HJ.below _ _ _ _ H3 Av);have PW:=Hi (Sc _ _ H4 (Vy (ub Av) (fun _ _ f=>f.elim)));clear Av Cn c0 HO av;cases Ub:Ad.ours name with
   |false=>
    have HX:=Hi (show xs.map (·.name)=((A.map (·.1)).take (k+1)).filter Ad.ours from by rw[CL.out,Ub,H2.out];simp);clear CL TI Ub
    gi_wp2
    go_roundw
    case rel=>exact⟨k+1,xs,by omega,by go_num,K7,Zt,HX,jI,PW⟩
    case measure=>
     show A.length -((k:Int)+1).toNat < A.length -((k:Int)).toNat
     omega
   |true=>
    have HX:=Hi (show xs.map (·.name)++[name]=((A.map (·.1)).take (k+1)).filter Ad.ours from by rw[CL.out,Ub,H2.out];simp);have zF:=Hi (show xs.map (·.name)++name :: ((A.map (·.1)).drop (k+1)).filter Ad.ours=Il Ad A from by rw[H2.out];exact TI Ub);have Fx:=Hi (adN (HM.below (K7.AR)) (HF.abh K7.AR) name LJ);clear CL TI Ub
    gi_wp2
    refine⟨trivial,(DK.2 Fx).mono ?_⟩;rintro e w4⟨q2,c2,rfl,Af,Hr,AB⟩;have ZH:=Hi (K7.below AB);have yS:=Hi (HJ.below _ _ _ _ jI AB);have OT:=Hi (Sc _ _ PW (Vy (ub AB) (fun _ _ f=>f.elim)));obtain⟨x,Hu,FV,Ul,Xb,Xa⟩:∃ x:Gz,x.name=name∧x.row=.slice q2 ((fileOf Ad A name).getD []).length c2∧x.B=B∧x.q=q∧x.c=c:=⟨⟨name,_,B,q,c⟩,rfl,rfl,rfl,rfl,rfl⟩;have Yx:UB w oc Bx (.pointer p) 43 Ad A J xs x w4:=⟨by rw[Ul,Xb,Xa];exact ZH.out,by rw[Ul,Xb,Xa];exact Zt.out,⟨_,by rw[Hu];exact zF.out⟩,by rw[Ul];exact yS.out,⟨q2,c2,by rw[Hu];exact FV,by rw[Hu];exact Bg.CR Af,Hr,by rw[Hu];exact anP Af⟩⟩;obtain⟨fn,tmps,assign,body,hy,hR⟩:=hY xs _ w4 Yx OT.out;have HR:=Hi hR;unfold su at hy;rw[Hu,FV] at hy;have zQ:=Hi (show(xs++[x]).map (·.name)=((A.map (·.1)).take (k+1)).filter Ad.ours from by rw[CQ,List.map_singleton,Hu];exact HX.out);have zU:=Hi (show x.B=B∧x.q=q∧x.c=c from⟨Ul,Xb,Xa⟩);have jZ:=Hi (show x∈xs++[x] from by simp);generalize (xs++[x])=xs2 at*;clear Hu FV Ul Xb Xa hR Yx Af AB abZ;generalize ((fileOf Ad A name).getD []).length=ln at*
    gi_wp2
    refine HR.mono ?_;rintro e w5⟨rfl,h5,h6⟩
    have CJ:=Hi (show pF w oc Bx B (.pointer p) 43 q c Ad A J Bk (.int .i64 ((k:Int)+1)) w5 from by
     rcases h5 with⟨e,-⟩|⟨B',q',c',k1,k2,k3,k4⟩
     ·have:=jZ.out;rw[e] at this;simp at this
     ·obtain⟨e1,e2,e3⟩:=k2 _ jZ;obtain⟨f1,f2,f3⟩:=zU.out;obtain rfl:B'=B:=e1.symm.trans f1;obtain rfl:q'=q:=e2.symm.trans f2;obtain rfl:c'=c:=e3.symm.trans f3;exact⟨k+1,xs2,by omega,by go_num,k1,k2,zQ,k4,h6⟩)
    clear h5 h6 hy HR
    gi_wp2
    go_roundw
    case rel=>exact CJ.out
    case measure=>
     show A.length -((k:Int)+1).toNat < A.length -((k:Int)).toNat
     omega
  ·obtain rfl:k=A.length:=by omega
   have HE:=Hi (show xs.map (·.name)=Il Ad A from by
    rw[H2.out,Gx (by rw[Ca];exact Ag _)];rfl)
   clear h1
   gi_wp2
   go_end0
   exact⟨⟨_,rfl⟩,xs,HE,.inr ⟨B,q,c,H1,Zt,⟨[],by rw[Eg,HE.out]⟩,H3⟩,H4.out⟩
end Mem
namespace Mem
open Go.RowKit Go.Maps
open Aw Ah Aq Bu Kp Bz Hex BH Al
attribute [local go_sem] OJ
attribute [local go_sem ↓] ed
theorem af8{α:Type}{P:Program}{n:Nat}{g:Operand}{q1 q2 s:Nat}{assign body:Code}{Q:Exit→Act→World→Prop}{a:Act}{w:World}(h1:1≤n)
  {gf:Nat}{lb:Array Value}(hg:a.eval g=.func (.func gf) #[] lb)(eg:∀ args w,(callFunc gf args).run P w=.ok (.enter gf args) w){e1 e2:α→Value}
  {Ia:List α→World→Prop}{Iy:List α→α→World→Prop}{S:List α→Prop}(Vd:∀ xs,NC w.heap.size (Ia xs))(ag:∀ xs x,NC w.heap.size (Iy xs x))
  (Ml:XV (n -1) P gf lb (fun x=>#[e1 x,e2 x]) Ia Iy S w)(h0:Ia [] w)
  (ai:∀ (l:Nat) (x:α) (W:World) (K:Act→World→Prop),K { tmps:=((a.tmps.setIfInBounds q1 (e1 x)).setIfInBounds q2 (e2 x)).setIfInBounds s (e2 x),defers:=[] } W→
   assign.wpIn (Fence.wide.inRound l) (n -1 -1) P (Exit.then K (fun _ _ _=>False)) { tmps:=(a.tmps.setIfInBounds q1 (e1 x)).setIfInBounds q2 (e2 x),defers:=[] } W)
  (aj:∀ (l:Nat) (pre:List α) (x:α) (W:World),Iy pre x W→body.wpIn (Fence.wide.inRound l) (n -1 -1) P (xK Ia (pre++[x]) W) { tmps:=((a.tmps.setIfInBounds q1 (e1 x)).setIfInBounds q2 (e2 x)).setIfInBounds s (e2 x),defers:=[] } W)
  (SH:∀ (D:Nat) (xs:List α) (W:World),w.heap.size≤D→S xs→Ia xs W→W.heap[D]?=some (.deferred (some []))→Q .normal { a with defers:={ target:=.collected D,args:=#[] } :: a.defers } W):
  (Code.rangeFunc g #[q1,q2] assign body).wpIn Fence.wide n P Q a w:=
 xZ h1 hg eg (fun _=>rfl) Vd ag Ml h0 (fun x=>{ tmps:=((a.tmps.setIfInBounds q1 (e1 x)).setIfInBounds q2 (e2 x)).setIfInBounds s (e2 x),defers:=[] }) (fun l x W K hK=>by
  have hz:(#[q1,q2].zip #[e1 x,e2 x])=#[(q1,e1 x),(q2,e2 x)]:=by simp
  rw[hz];exact ai l x W K hK) aj SH
theorem aAy{W:World}{B n:Nat}{v:Value}{l k:M}(h:W.ownsRow B 51 2 v n (Dr l)){q:Option Addr}{cap:Nat}(hk:Bg W q k)(hq:q=none→cap=0)(hn:n+k.length≤1000000000)(hb:B≤W.heap.size):
  ∃ v' w2,(UX #[30,30] 30 #[v,.slice q k.length cap]).run prog W=.ok v' w2∧w2.ownsRow B 51 2 v' (n+k.length) (Dr (l++k))∧W.grownBy w2 v.ownBlock:=by
 obtain⟨i0,Bh,AY,AZ,Bb⟩:=Dy RO;cases q with
 |none=>
  obtain rfl:k=[]:=by
   cases k with
   |nil=>rfl
   |cons y k=>
    obtain⟨p,hp,_⟩:=hk 0 (by simp);cases hp
  rw[hq rfl];refine⟨v,W,run_append_owned_none (P:=prog) (w:=W) B 30 30 51 i0 2 underlying30 Bh v n (Dr l) h,?_,World.grownBy.refl W _⟩;rw[Eg];exact h
 |some ad=>
  obtain⟨v',w2,h1,h2,h3,_,_⟩:=run_append_own_at (P:=prog) W B 30 30 51 i0 _ 2 32 underlying30 Bh AY AZ Bb rfl (by decide) v n (Dr l) h ad k.length cap (Dr k) (eP k) hk.cells (aib k) (by unfold maxLen;omega) (by omega) hb;exact⟨v',w2,h1,by rw[aia];exact h2,h3⟩
def Kq(K:Kind)(A:M)(ks:List T):M:=ks.flatMap fun t=>(fileOf K A t).getD []
theorem om(K:Kind)(A:M)(ks:List T)(t:T):Kq K A (ks++[t])=Kq K A ks++(fileOf K A t).getD []:=by
 unfold Kq;rw[LV];simp
theorem wZ{K:Kind}{A:M}(hu:Up A):Kq K A (Il K A)=EW K A:=by
 unfold Kq Il EW
 suffices ∀ L:M,(∀ p∈L,p∈A)→(((L.map (·.1)).filter K.ours).flatMap fun t=>(fileOf K A t).getD [])=L.flatMap fun p=>if K.ours p.1=true then(K.Cm p.1 p.2).getD [] else[] from this A fun p h=>h
 intro L
 induction L with
 |nil=>exact fun _=>rfl
 |cons p L ih=>
  intro h;have e:(fileOf K A p.1).getD []=(K.Cm p.1 p.2).getD []:=by
   unfold fileOf;rw[get_mem hu (show(p.1,p.2)∈A from h p (by simp))];rfl
  rw[Ce,List.filter_cons,PL,←ih fun x hx=>h x (Fs _ hx)];by_cases ho:K.ours p.1=true
  ·rw[Ae ho,Ae ho,PL,e]
  ·rw[A9 ho,A9 ho,EE]
theorem aoG{K:Kind}{A:M}{ks ts:List T}:(Kq K A ks).length≤(Kq K A (ks++ts)).length:=by
 unfold Kq;rw[LV,AA];omega
theorem ko{w:World}{oc Bx:Nat}{pv:Value}{ty:TypeId}{K:Kind}{A:M}{J:Nat→List T→World→Prop}{xs:List Gz}{W:World}(h:OL w oc Bx pv ty K A J xs W):∃ B,J B (xs.map (·.name)) W:=by
 rcases h with⟨rfl,-,-,-,-,B,-,h⟩|⟨B,q,c,-,-,-,h⟩
 ·exact⟨B,h⟩
 ·exact⟨B,h⟩
def JP(K:Kind)(A:M)(w:World)(oc B:Nat)(ks:List T)(W:World):Prop:=
 ∃ v,EF 51 30 2 w oc B W (Kq K A ks).length (Dr (Kq K A ks)) v∧(ks=[]→v= ↑())
theorem ado(K:Kind)(A:M)(w:World)(oc:Nat):XU w oc (JP K A w oc) where
 below:=fun B ks W W' ⟨v,h1,h2⟩ hb=>⟨v,h1.below hb,h2⟩
 raise:=fun B B' W ⟨v,h1,h2⟩ hb hs=>by
  have e:=h2 rfl;subst e;have e2:Kq K A []=[]:=rfl;rw[e2,R9] at h1;exact⟨_,by rw[e2,R9];exact EF.raise h1 hb hs,fun _=>rfl⟩
 put:=fun B ks W k o o' ⟨v,h1,h2⟩ ho hc hk=>⟨v,h1.put ho hc hk,h2⟩
theorem amV(p:Nat)(w:World):
  Calls prog 121 #[p] w fun e w'=>e=.returned (.func (.func 198) #[] #[.pointer w.heap.size])∧w'=w.alloc (.cells #[p] 43):=by
 go_in
 go_wp2;go_ret;exact⟨rfl,rfl⟩
theorem ana{w:World}{p y:Nat}{A:M}(hm:Gq w p y)(hf:Hf w y A)(hl:(EW Ad A).length≤1000000):
  Calls prog 45 #[p] w fun e w'=>∃ v,e=.returned v∧Aq.Bt w' w.heap.size v (Bn Ad A)∧Bw w w':=by
 refine(DK (n:=3)).1 ?_;have Rn:prog.follows .mixedOrders=true:=by kernel_rfl
 have HM:=Hi hm;have HF:=Hi hf;have HE:=Hi (wZ (K:=Ad) hf.up);have HL:=Hi hl;clear hm hf hl;refine callsIn_of_wp_marks func45 rfl trivial ?_ rfl;simp only[ntmps45,Kz,BM,IV,Nat.reduceAdd,Nat.reduceSub,Nj,Nk,Nq,Nn,EE,I5]
 gi_wp2
 have Be:=AQ w (.cells #[()] 30);have JL:EF 51 30 2 w w.heap.size (w.heap.size+1) (w.alloc (.cells #[()] 30)) 0 [] ↑():=⟨Be,Ag _,Nat.lt_succ_self _,by rw[Az];exact Ag _,AU w _,DZ _ _ _ _⟩;have PY:=Hi JL;refine⟨trivial,(DK.2 (amV p _)).mono ?_⟩;rintro e w2⟨rfl,Mq⟩;subst Mq
 gi_wp2
 have ER:=Hi (AU (w.alloc (.cells #[()] 30)) (.cells #[p] 43));have Ac:=AQ (w.alloc (.cells #[()] 30)) (.cells #[p] 43);have Dc:=Hi (PY.below Ac);have DR:=Hi (Az w (.cells #[()] 30));obtain⟨Bx,IE⟩:=ex ((w.alloc (.cells #[()] 30)).heap.size);rw[IE] at ER DR;rw[show w.heap.size+1=Bx from DR.symm];obtain⟨U,hU⟩:=ex ((w.alloc (.cells #[()] 30)).alloc (.cells #[p] 43));rw[hU] at ER Dc ⊢;clear Be Ac JL PY IE hU;refine af8 (s:=5) (by omega) (gf:=198) (lb:=#[.pointer Bx]) rfl (enters_of func198 (by kernel_rfl) rfl) (e1:=fun x:Gz=>↑x.name) (e2:=fun x:Gz=>x.row)
  (Ia:=OL w w.heap.size Bx (.pointer p) 43 Ad A (JP Ad A w w.heap.size)) (Iy:=UB w w.heap.size Bx (.pointer p) 43 Ad A (JP Ad A w w.heap.size))
  (fun xs=>kg (ado _ _ _ _) Dc.AR.size xs) (fun xs x=>ku (ado _ _ _ _) Dc.AR.size xs x)
  (amU 2 (by omega) HM HF w.heap.size Bx (ado _ _ _ _) U) (.inl ⟨rfl,Dc.AR,Ag _,by have:=DR.out;omega,ER,w.heap.size+1,Dc.size,↑(),by rw[show Kq Ad A []=[] from rfl,R9];exact Dc.out,fun _=>rfl⟩)
  ?assign ?body ?done
 case assign=>
  intro l x W K hK;simp only[np] at hK ⊢
  gi_wp2
  exact hK
 case body=>
  intro l2 pre x W hy;obtain⟨hS,hG,hT,⟨v,hO,-⟩,⟨q2,c2,FV,hP,Dw,-⟩⟩:=hy;have hlen:(Kq Ad A (pre.map (·.name))).length+((fileOf Ad A x.name).getD []).length≤1000000:=by
   obtain⟨ts,Jp⟩:=hT;have h1:=aoG (K:=Ad) (A:=A) (ks:=pre.map (·.name)++[x.name]) (ts:=ts);rw[DJ,List.singleton_append,Jp,HE.out,om,AA] at h1;have:=HL.out;omega
  obtain⟨v7,w7,Ru,Mi,IG⟩:=aAy (W:=W) hO.row hP Dw (by omega) hO.size;obtain⟨qv,cv,rfl,-,-⟩:=FQ hO.row;obtain⟨q7,c7,rfl⟩:=Bp Mi;have Me:=Ai W.heap.size W;have yh:=Hi (hO.add Me IG Mi);have VQ:=Hi (hO.keeps Me IG (.slice q7 ((Kq Ad A (pre.map (·.name))).length+((fileOf Ad A x.name).getD []).length) c7));have ZK:=Hi (hO.turned Me IG (.slice q7 ((Kq Ad A (pre.map (·.name))).length+((fileOf Ad A x.name).getD []).length) c7));have CW:=Hi (show OL w w.heap.size Bx (.pointer p) 43 Ad A (JP Ad A w w.heap.size) (pre++[x]) (w7.setCell w.heap.size (.slice q7 ((Kq Ad A (pre.map (·.name))).length+((fileOf Ad A x.name).getD []).length) c7)) from ky hS hG hT ZK ⟨_,by rw[om,AA];exact yh.out,fun e=>by simp at e⟩);have Oj:=(IG.block w.heap.size (Ao hO.box) (fun e=>(hO.ne e.symm).1 rfl)).trans hO.box;have Ym:w7.cell? w.heap.size=some (.slice qv (Kq Ad A (pre.map (·.name))).length cv):=cr Oj;have aB:=CG w7 w.heap.size 0 _ _ Oj;have cb:W.cell? w.heap.size=some (.slice qv (Kq Ad A (pre.map (·.name))).length cv):=cr hO.box;have ajW:=Ao hO.box;rw[←FV] at Ru;clear hS hG hT hO FV hP Dw hlen Mi IG Me Oj;simp only[np];generalize x.row=xr at*;generalize (Kq Ad A (pre.map (·.name))).length=rn at*;generalize ((fileOf Ad A x.name).getD []).length=fn at*;generalize (Value.string (bs x.name))=xnm at*
  gi_wp2
  exact⟨VQ,CW⟩
 case done=>
  intro D xs W hD hS hI Dm;obtain⟨B,v,hO,-⟩:=ko hI;rw[hS,HE.out] at hO;have Af:=hO.row;obtain⟨q,c,rfl,Hr,BQ⟩:=FQ Af;have HO:=Hi hO;have TF:=Hi Dm;have HD:=Hi (show w.heap.size≤D from Ay (Ay (Nat.le_succ _) Dc.size) hD);have cb:W.cell? w.heap.size=some (.slice q (EW Ad A).length c):=cr hO.box;have KH:=Hi (iD (w:=W) (Bg.CR Af) Hr HL);clear hS hI Dm hD hO Af
  gi_wp2
  refine⟨trivial,(DK.2 KH).mono ?_⟩;rintro e w5⟨kv,rfl,CX,Bl⟩;have afR:=Hi ((Bl.block D (Dn.1 TF).1).trans TF);have Cj:=Hi (HO.AR.trans (Bl.mono HO.AR.size));have JW:=Hi (EM CX HO.AR.size);clear Bl CX
  gi_wp2
  refine⟨by simp,.inl ⟨_,_,rfl,run_takeDeferred afR,?_⟩⟩;have hu:A7 (fun i=>i=D) w5 (w5.putObj D (.deferred none)):=A7.of_grownBy (F:=fun i=>i=D) (grownBy_putObj' w5 D (.deferred none)) (fun i e=>by cases e;rfl)
  exact⟨_,(by simp[results,results45,go_sem]),_,rfl,BD JW hu (fun k hk e=>by
   obtain⟨cs,fz,h2⟩:=Cx JW hk;rw[e,afR.out] at h2;cases h2),Cz Cj hu (fun i e=>by rw[e];exact HD.out) Cj.size⟩
end Mem
namespace Mem
open Go.RowKit Go.Maps
open Aw Ah Aq Bu Kp Bz Hex BH Al
attribute [local go_sem] OJ
end Mem
section
open Go.RowKit Go.Maps Go.Sort Go.Shelf
open Ah Aq
def an1:Go.Shelf.Ren:=⟨fun|7=>180|10=>236|n=>n,fun|23=>175|26=>9|3=>176|28=>256|0=>0|27=>255|33=>231|4=>4|n=>n,fun|n=>n⟩
theorem an0:Go.Proofs.SlLaysZ.n7 prog an1:={
 mixed:=by kernel_rfl
 f7:=⟨Tryz.f180.name,by decide,func180.trans (congrArg some (by kernel_rfl))⟩
 f10:=⟨Tryz.f236.name,by decide,func236.trans (congrArg some (by kernel_rfl))⟩
 t0:=underlying0
 a0:=Tryz.isAgg0
 z0:=Tryz.sizeOf0
 v0:=Tryz.zeroValue0
 t4:=underlying4
 a4:=Tryz.isAgg4
 z4:=Tryz.sizeOf4
 v4:=Tryz.zeroValue4
 t23:=underlying175
 a23:=Tryz.isAgg175
 z23:=Tryz.sizeOf175
 v23:=Tryz.zeroValue175
 t26:=underlying9
 a26:=Tryz.isAgg9
 z26:=Tryz.sizeOf9
 v26:=Tryz.zeroValue9
 t27:=underlying255
 a27:=Tryz.isAgg255
 z27:=Tryz.sizeOf255
 v27:=Tryz.zeroValue255
 t28:=underlying256
 a28:=Tryz.isAgg256
 z28:=Tryz.sizeOf256
 v28:=Tryz.zeroValue256
 t33:=underlying231
 a33:=Tryz.isAgg231
 z33:=Tryz.sizeOf231
 v33:=Tryz.zeroValue231 }
def ahI:Go.Shelf.Ren:=⟨fun|7=>193|10=>248|n=>n,fun|23=>190|26=>9|3=>193|28=>256|0=>0|27=>255|33=>231|4=>4|n=>n,fun|n=>n⟩
theorem ahH:Go.Proofs.SlLaysZ.n7 prog ahI:={
 mixed:=by kernel_rfl
 f7:=⟨Tryz.f193.name,by decide,func193.trans (congrArg some (by kernel_rfl))⟩
 f10:=⟨Tryz.f248.name,by decide,func248.trans (congrArg some (by kernel_rfl))⟩
 t0:=underlying0
 a0:=Tryz.isAgg0
 z0:=Tryz.sizeOf0
 v0:=Tryz.zeroValue0
 t4:=underlying4
 a4:=Tryz.isAgg4
 z4:=Tryz.sizeOf4
 v4:=Tryz.zeroValue4
 t23:=underlying190
 a23:=Tryz.isAgg190
 z23:=Tryz.sizeOf190
 v23:=Tryz.zeroValue190
 t26:=underlying9
 a26:=Tryz.isAgg9
 z26:=Tryz.sizeOf9
 v26:=Tryz.zeroValue9
 t27:=underlying255
 a27:=Tryz.isAgg255
 z27:=Tryz.sizeOf255
 v27:=Tryz.zeroValue255
 t28:=underlying256
 a28:=Tryz.isAgg256
 z28:=Tryz.sizeOf256
 v28:=Tryz.zeroValue256
 t33:=underlying231
 a33:=Tryz.isAgg231
 z33:=Tryz.sizeOf231
 v33:=Tryz.zeroValue231 }
theorem azw(mb:Option Nat)(W:World):Calls prog 180 #[.map mb] W fun e w'=>e=.returned (.func (.func 236) #[] #[.pointer W.heap.size])∧w'=W.alloc (.cells #[.map mb] 175):=
 DK.1 (AnyZ.keys_in an0 Fence.wide 5 trivial rfl mb W)
theorem azC{w:World}{m:Nat}{kv:List (T×Value)}(Vm:Gd prog 9 w m kv)(hlen:kv.length≤1000000):
  Calls prog 168 #[.func (.func 236) #[] #[.pointer w.heap.size]] (w.alloc (.cells #[.map (some m)] 175)) fun e w'=>
   ∃ v,e=.returned v∧w'.ownsRow (w.heap.size+1) 9 1 v kv.length (((kv.map (·.1)).mergeSort (fun x y=>decide (x≤y))).map encStr)∧Bw w w':=by
 obtain⟨D,hown,BS,fU⟩:=Vm.keyed;have Ct:=hown.lt;have Ml:SeqGives Fence.wide 2 prog 236 #[.pointer w.heap.size] encStr (fun ss=>ss.Perm (strKeys D)) (Maps.size D) (w.alloc (.cells #[.map (some m)] 175)):=
  AnyZ.keys_gives (ρ:=an1) { an0 with } Fence.wide _ trivial rfl (by omega) w.heap.size m kv.length D _ (by simp) (by simp) (by
   obtain⟨es,clock,hb,Ft,hs,hD⟩:=hown;exact⟨es,clock,(Below.heap_alloc _ _ m Ct).trans hb,Ft,hs,hD⟩)
 have cS:=AnyZ.sorted_in ab5 Fence.wide 5 trivial trivial trivial trivial rfl (by omega) (ab6 _) (enters_of func70 (by kernel_rfl) rfl) 236 #[.pointer w.heap.size] trivial (enters_of func236 (by kernel_rfl) rfl) _ _ (by unfold maxLen;omega) (by omega) _ Ml;refine(DK.1 cS).mono ?_;rintro e w'⟨v,ss,rfl,hS,Af,_,hb⟩;have Nb:ss.Perm (kv.map (·.1)):=hS.trans fU.symm;have e1:ss.length=kv.length:=by have:=Nb.length_eq;simpa using this
 have e2:ss.mergeSort leB=(kv.map (·.1)).mergeSort leB:=mergeSort_of_perm Nb;have e3:ss.mergeSort (fun x y=>decide (x≤y))=(kv.map (·.1)).mergeSort (fun x y=>decide (x≤y)):=e2;rw[e1,e3] at Af;exact⟨v,rfl,by rw[Az] at Af;exact Af,((Ai _ w).alloc (Ag _) _).trans (hb.mono (by rw[Az];omega))⟩
theorem atD(mb:Option Nat)(W:World):Calls prog 193 #[.map mb] W fun e w'=>e=.returned (.func (.func 248) #[] #[.pointer W.heap.size])∧w'=W.alloc (.cells #[.map mb] 190):=
 DK.1 (AnyZ.keys_in ahH Fence.wide 5 trivial rfl mb W)
theorem atF{w:World}{m:Nat}{kv:List (T×Value)}(Vm:Gd prog 9 w m kv)(hlen:kv.length≤1000000):
  Calls prog 168 #[.func (.func 248) #[] #[.pointer w.heap.size]] (w.alloc (.cells #[.map (some m)] 190)) fun e w'=>
   ∃ v,e=.returned v∧w'.ownsRow (w.heap.size+1) 9 1 v kv.length (((kv.map (·.1)).mergeSort (fun x y=>decide (x≤y))).map encStr)∧Bw w w':=by
 obtain⟨D,hown,BS,fU⟩:=Vm.keyed;have Ct:=hown.lt;have Ml:SeqGives Fence.wide 2 prog 248 #[.pointer w.heap.size] encStr (fun ss=>ss.Perm (strKeys D)) (Maps.size D) (w.alloc (.cells #[.map (some m)] 190)):=
  AnyZ.keys_gives (ρ:=ahI) { ahH with } Fence.wide _ trivial rfl (by omega) w.heap.size m kv.length D _ (by simp) (by simp) (by
   obtain⟨es,clock,hb,Ft,hs,hD⟩:=hown;exact⟨es,clock,(Below.heap_alloc _ _ m Ct).trans hb,Ft,hs,hD⟩)
 have cS:=AnyZ.sorted_in ab5 Fence.wide 5 trivial trivial trivial trivial rfl (by omega) (ab6 _) (enters_of func70 (by kernel_rfl) rfl) 248 #[.pointer w.heap.size] trivial (enters_of func248 (by kernel_rfl) rfl) _ _ (by unfold maxLen;omega) (by omega) _ Ml;refine(DK.1 cS).mono ?_;rintro e w'⟨v,ss,rfl,hS,Af,_,hb⟩;have Nb:ss.Perm (kv.map (·.1)):=hS.trans fU.symm;have e1:ss.length=kv.length:=by have:=Nb.length_eq;simpa using this
 have e2:ss.mergeSort leB=(kv.map (·.1)).mergeSort leB:=mergeSort_of_perm Nb;have e3:ss.mergeSort (fun x y=>decide (x≤y))=(kv.map (·.1)).mergeSort (fun x y=>decide (x≤y)):=e2;rw[e1,e3] at Af;exact⟨v,rfl,by rw[Az] at Af;exact Af,((Ai _ w).alloc (Ag _) _).trans (hb.mono (by rw[Az];omega))⟩
end
namespace Kp
open Go.Lib Go.RowKit Ah Aq Aw Bu
def rowOf(L:List (T×M))(name:T):M:=((L.find? fun x=>x.1 == name).map (·.2)).getD []
theorem o9{L:List (T×M)}(hn:(L.map (·.1)).Nodup){x:T×M}(hx:x∈L):rowOf L x.1=x.2:=by
 unfold rowOf
 induction L with
 |nil=>simp at hx
 |cons y L ih=>
  obtain⟨n1,n2⟩:=JV.1 hn;rcases Ch.1 hx with rfl|hx
  ·simp
  ·have:y.1≠x.1:=fun e=>n1 (show y.1∈L.map (·.1) from by rw[e];exact I6 hx)
   rw[List.find?_cons_of_neg (by simpa using this)];exact ih n2 hx
def MU(name:T)(l:M):Am:=if l=[] then⟨name,[],true⟩ else⟨name,(C9 l).getD [],false⟩
def NH(l:M):Bool:=decide (l=[]) || (C9 l).isSome
def Di(L:List (T×M)):List T:=(L.map (·.1)).mergeSort fun x y=>decide (x≤y)
def LC(L:List (T×M)):List Am:=(Di L).map fun t=>MU t (rowOf L t)
def Qh(L:List (T×M)):Bool:=(Di L).all fun t=>NH (rowOf L t)
theorem nR{L:List (T×M)}{t:T}:t∈Di L↔t∈L.map (·.1):=by
 unfold Di;exact(List.mergeSort_perm _ _).mem_iff
theorem vX(L:List (T×M)):(Di L).length=L.length:=by
 unfold Di;rw[(List.mergeSort_perm _ _).length_eq,Ca]
theorem vY{L:List (T×M)}(hn:(L.map (·.1)).Nodup):Di L=Bi (L.map (·.1)):=by
 have hp:(Di L).Perm (L.map (·.1)):=List.mergeSort_perm _ _;have hs:D8 ((Di L).map fun t=>(t,[])):=by
  unfold D8;rw[List.pairwise_map]
  have:=List.pairwise_mergeSort (le:=fun x y:T=>decide (x≤y)) (fun a b c h1 h2=>by
   have h1:a≤b:=O0 h1;have h2:b≤c:=O0 h2;exact LY (List.le_trans h1 h2)) (fun a b=>by
   by_cases h:a≤b
   ·simp[h]
   ·have:b≤a:=(List.le_total a b).resolve_left h;simp[this]) (L.map (·.1))
  exact this.imp fun h=>O0 h
 refine RU ?_ (Ko _) fun t=>by rw[hp.mem_iff,El]
 have gD:(Di L).Nodup:=hp.nodup_iff.2 hn;unfold D8 at hs;rw[List.pairwise_map] at hs;refine(hs.and (List.nodup_iff_pairwise_ne.1 gD)).imp fun {a b} h=>?_
 rcases bD h.1 with e|e
 ·exact e
 ·exact absurd e h.2
structure OM(K:Kind)(A:M)(kt:List T)(L:List (T×M)):Prop where
 nodup:(L.map (·.1)).Nodup
 names:∀ t,t∈L.map (·.1)↔t∈kt.map K.nm
 rows:∀ x∈L,x.2=Jt K A kt x.1
section
variable {K:Kind}{A:M}
theorem OM.nil:OM K A [] []:=⟨by simp,fun t=>by simp,fun x hx=>by simp at hx⟩
theorem az8{kt:List T}{name:T}:∀ p∈Jt K A kt name,K.nm p.1=name:=by
 intro p hp;unfold Jt at hp;have h1:=(G9.1 hp).1;cases hf:fileOf K A name with
 |none=>rw[hf] at h1;simp at h1
 |some l=>
  rw[hf] at h1;unfold fileOf at hf;cases hg:get A name with
  |none=>rw[hg] at hf;cases hf
  |some d=>
   rw[hg] at hf;exact((Ng hf).2.2.1 _ h1).1
theorem adB(kt:List T)(k name:T):Jt K A (kt++[k]) name=(Jt K A kt name).filter fun p=>!(p.1 == k):=by
 unfold Jt;rw[List.filter_filter];refine List.filter_congr fun p _=>?_
 by_cases h1:p.1=k<;>by_cases h2:p.1∈kt<;>simp[h1,h2]
theorem amE(kt:List T){k name:T}(h:K.nm k≠name):Jt K A (kt++[k]) name=Jt K A kt name:=by
 rw[adB];refine List.filter_eq_self.2 fun p hp=>?_
 have:=az8 p hp;have:p.1≠k:=fun e=>h (by rw[←e];exact this)
 simpa using this
def setRow(L:List (T×M))(name:T)(l:M):List (T×M):=L.map fun x=>if x.1=name then(x.1,l) else x
theorem xu(L:List (T×M))(name:T)(l:M):(setRow L name l).map (·.1)=L.map (·.1):=by
 unfold setRow;rw[Kv];exact OI fun x _=>by
  show(if x.1=name then(x.1,l) else x).1=x.1
  split<;>rfl
theorem OM.new{kt:List T}{L:List (T×M)}(h:OM K A kt L){k:T}(hk:K.nm k∉L.map (·.1)):OM K A (kt++[k]) ((K.nm k,((fileOf K A (K.nm k)).getD []).filter fun p=>!(p.1 == k)) :: L):=by
 refine⟨JV.2 ⟨hk,h.nodup⟩,fun t=>?_,fun x hx=>?_⟩
 ·rw[Ce,Ch,h.names,CQ,Es];constructor
  ·rintro(e|e)
   ·exact .inr (by simp[e])
   ·exact .inl e
  ·rintro(e|e)
   ·exact .inr e
   ·exact .inl (by simpa using e)
 ·rcases Ch.1 hx with rfl|hx
  ·show _=Jt K A (kt++[k]) (K.nm k)
   have e:((fileOf K A (K.nm k)).getD []).filter (fun p=>decide (p.1∉kt))=(fileOf K A (K.nm k)).getD []:=List.filter_eq_self.2 fun p hp=>by
    have h1:K.nm p.1=K.nm k:=by
     cases hf:fileOf K A (K.nm k) with
     |none=>rw[hf] at hp;simp at hp
     |some l=>
      rw[hf] at hp;unfold fileOf at hf;cases hg:get A (K.nm k) with
      |none=>rw[hg] at hf;cases hf
      |some d=>
       rw[hg] at hf;exact((Ng hf).2.2.1 _ hp).1
    have:p.1∉kt:=fun e=>hk ((h.names _).2 (Bv.2 ⟨p.1,e,h1⟩))
    simpa using this
   rw[adB];unfold Jt;rw[e]
  ·rw[h.rows x hx,amE _ (fun e=>hk (by rw[e];exact I6 hx))]
theorem OM.rM{ks:List T}{L:List (T×M)}(hg:Ah.Good A)(h:OM K A ks L)(ht:There K A ks):LC L=FE K A ks∧Qh L=true:=by
 have hn:Di L=Bi (ks.map K.nm):=by
  rw[vY h.nodup];refine RU (Ko _) (Ko _) fun t=>?_
  rw[El,El];exact h.names t
 have hr:∀ t∈Di L,rowOf L t=Jt K A ks t:=fun t ht=>by
  obtain⟨x,hx,rfl⟩:=Bv.1 (nR.1 ht);rw[o9 h.nodup hx,h.rows x hx]
 constructor
 ·unfold LC FE;rw[←hn];refine OI fun t ht=>?_
  rw[hr t ht];rfl
 ·unfold Qh;rw[Nl];intro t hm;rw[hr t hm];rw[hn] at hm;obtain⟨d,l,h1,h2,h3,h4,h5⟩:=eO hg ht hm;have e:Jt K A ks t=l.filter (fun p=>decide (p.1∉ks)):=by unfold Jt;rw[h3];rfl
  unfold NH;rw[e];rcases h5 with⟨h5,_⟩|⟨s,h5,h6,_⟩
  ·rw[h5];rfl
  ·rw[h6];simp
end
end Kp
namespace Kp
open Go.Lib Ah Aq Aw Bu
theorem VD{α:Type}{C:List α→Prop}(h0:C [])(h1:∀ l x,C l→C (l++[x]))(l:List α):C l:=by
 have:∀ r:List α,C r.reverse:=fun r=>by
  induction r with
  |nil=>exact h0
  |cons x r ih=>rw[List.reverse_cons];exact h1 _ _ ih
 simpa using this l.reverse
section
variable {K:Kind}{A:M}
def BN(K:Kind)(l:M)(name:T):M:=(l.filter fun p=>K.nm p.1 == name).foldl (fun acc p=>put p.1 p.2 acc) []
theorem Oh(l:M)(p:T×T)(name:T):BN K (l++[p]) name=if K.nm p.1=name then put p.1 p.2 (BN K l name) else BN K l name:=by
 unfold BN;rw[IQ,List.foldl_append];by_cases h:K.nm p.1=name
 ·rw[Ae h,QI (by simpa using h)];rfl
 ·rw[A9 h,PK (by simpa using h)];rfl
theorem TS(l:M)(name:T):Up (BN K l name):=by
 unfold BN;generalize l.filter _=k
 suffices h:∀ (k a:M),Up a→Up (k.foldl (fun acc p=>put p.1 p.2 acc) a) from h k [] Up.nil
 intro k
 induction k with
 |nil=>exact fun a h=>h
 |cons p k ih=>exact fun a h=>ih _ (h.put _ _)
theorem tC(l:M)(name:T):∀ q∈BN K l name,K.nm q.1=name∧q∈l:=by
 unfold BN;have hl:∀ q∈l.filter (fun p=>K.nm p.1 == name),K.nm q.1=name∧q∈l:=fun q hq=>by
  obtain⟨h1,h2⟩:=G9.1 hq;exact⟨by simpa using h2,h1⟩
 generalize l.filter _=k at hl
 suffices h:∀ (k a:M),Up a→(∀ q∈k,K.nm q.1=name∧q∈l)→(∀ q∈a,K.nm q.1=name∧q∈l)→∀ q∈k.foldl (fun acc p=>put p.1 p.2 acc) a,K.nm q.1=name∧q∈l from h k [] Up.nil hl (fun q hq=>by simp at hq)
 intro k
 induction k with
 |nil=>exact fun a _ _ h=>h
 |cons p k ih=>
  refine fun a hu h1 h2=>ih _ (hu.put _ _) (fun q hq=>h1 q (Fs _ hq)) fun q hq=>?_
  rcases(Uo hu).1 hq with rfl|⟨hq,_⟩
  ·exact h1 p (by simp)
  ·exact h2 q hq
theorem kU{l:M}{name:T}(h:name∉l.map fun p=>K.nm p.1):BN K l name=[]:=by
 cases hg:BN K l name with
 |nil=>rfl
 |cons q r=>
  obtain⟨h1,h2⟩:=tC (K:=K) l name q (by rw[hg];simp);exact absurd (Bv.2 ⟨q,h2,h1⟩) h
theorem aj6{l:M}{p:T×T}(h:p∈l):BN K l (K.nm p.1)≠[]:=by
 suffices hs:∀ l:M,(∃ q∈l,K.nm q.1=K.nm p.1)→BN K l (K.nm p.1)≠[] from hs l ⟨p,h,rfl⟩
 intro l
 induction l using VD with
 |h0=>rintro⟨q,hq,_⟩;simp at hq
 |h1 l x ih=>
  rintro⟨q,hq,e⟩;rw[Oh];split
  ·rename_i hx
   exact List.ne_nil_of_mem ((Uo (TS l _)).2 (.inl rfl))
  ·rename_i hx
   refine ih ⟨q,?_,e⟩;rcases Es.1 hq with hq|hq
   ·exact hq
   ·rw[Fu] at hq;rw[hq] at e;exact absurd e hx
def Fits(K:Kind)(l:M):Prop:=∀ j,(h:j < l.length)→(C9 (BN K (l.take (j+1)) (K.nm l[j].1))).isSome=true
instance (K:Kind) (l:M):Decidable (Fits K l):=inferInstanceAs (Decidable (∀ j,(h:j < l.length)→_))
theorem Fits.nU{l:M}{p:T×T}:Fits K (l++[p])↔Fits K l∧(C9 (BN K (l++[p]) (K.nm p.1))).isSome=true:=by
 unfold Fits;constructor
 ·intro h;refine⟨fun j hj=>?_,?_⟩
  ·have:=h j (by simp;omega);rw[Uz hj,List.take_append_of_le_length (by omega)] at this;exact this
  ·have:=h l.length (by simp);simp only[Xv (Ag _),Nat.sub_self,List.getElem_cons_zero] at this;rw[Gx (by simp)] at this;exact this
 ·rintro⟨h1,h2⟩ j hj;by_cases e:j < l.length
  ·rw[Uz e,List.take_append_of_le_length (by omega)];exact h1 j e
  ·obtain rfl:j=l.length:=(by simp at hj;omega);simp only[Xv (Ag _),Nat.sub_self,List.getElem_cons_zero];rw[Gx (by simp)];exact h2
theorem Fits.all{l:M}(h:Fits K l):∀ p∈l,(C9 (BN K l (K.nm p.1))).isSome=true:=by
 suffices hs:∀ l:M,Fits K l→∀ p∈l,(C9 (BN K l (K.nm p.1))).isSome=true from hs l h
 intro l
 induction l using VD with
 |h0=>exact fun _ p hp=>by simp at hp
 |h1 l x ih=>
  intro hf p hp;obtain⟨h1,h2⟩:=Fits.nU.1 hf;by_cases e:K.nm x.1=K.nm p.1
  ·rw[←e];exact h2
  ·rw[Oh,A9 e];refine ih h1 p ?_;rcases Es.1 hp with hp|hp
   ·exact hp
   ·rw[Fu] at hp;rw[hp] at e;exact absurd rfl e
def Nf(K:Kind)(l:M)(name:T):Am:=⟨name,(C9 (BN K l name)).getD [],false⟩
def Fa(K:Kind)(l:M):List Am:=(Bi (l.map fun p=>K.nm p.1)).map (Nf K l)
def FX(K:Kind)(l:M):List Am:=(List.range l.length).map fun j=>Nf K (l.take (j+1)) (K.nm (l.getD j ([],[])).1)
theorem xC(l:M)(p:T×T):FX K (l++[p])=FX K l++[Nf K (l++[p]) (K.nm p.1)]:=by
 unfold FX;rw[AA,La,List.range_succ,CQ,List.map_singleton]
 congr 1
 ·refine OI fun j hj=>?_
  have hj:=List.mem_range.1 hj;rw[List.take_append_of_le_length (by omega)]
  congr 2
  simp[IU,List.getElem?_append_left hj]
 ·rw[Gx (by simp)];simp[IU]
theorem aDw{F G:M}(hF:Up F)(hG:Up G)(h:∀ k,get F k=get G k):F=G:=
 bZ hF hG fun p=>⟨fun hp=>get_some (by rw[←h];exact get_mem hF (show(p.1,p.2)∈F from hp)),fun hp=>get_some (by rw[h];exact get_mem hG (show(p.1,p.2)∈G from hp))⟩
theorem sW(hu:Up A)(l:M)(name:T):get (made A (FX K l)) name=if name∈l.map (fun p=>K.nm p.1) then some ((C9 (BN K l name)).getD []) else get A name:=by
 induction l using VD with
 |h0=>rfl
 |h1 l p ih=>
  rw[xC,vM]
  show get (put (K.nm p.1) _ (made A (FX K l))) name=_
  rw[get_put (hu.made _),CQ,List.map_singleton];by_cases e:name=K.nm p.1
  ·subst e;rw[Ae rfl,Ae (by simp)];rfl
  ·have e2:¬ K.nm p.1=name:=fun h=>e h.symm
   rw[A9 e,ih,Oh,A9 e2];by_cases hm:name∈l.map fun p=>K.nm p.1
   ·rw[Ae hm,Ae (UA _ hm)]
   ·have hn:¬ name∈(l.map fun p=>K.nm p.1)++[K.nm p.1]:=fun h=>(Es.1 h).elim hm (fun h=>e (Fu.1 h))
    rw[A9 hm,A9 hn]
theorem anS(l:M):(Fa K l).map (·.name)=Bi (l.map fun p=>K.nm p.1):=by
 unfold Fa;rw[Kv]
 conv=>rhs;rw[←List.map_id (Bi (l.map fun p=>K.nm p.1))]
 exact OI fun x _=>rfl
theorem ZX(hu:Up A)(l:M)(name:T):get (made A (Fa K l)) name=if name∈l.map (fun p=>K.nm p.1) then some ((C9 (BN K l name)).getD []) else get A name:=by
 by_cases hm:name∈l.map fun p=>K.nm p.1
 ·rw[Ae hm];have hc:Nf K l name∈Fa K l:=I6 ((El _ _).2 hm);have:=abf hu (by rw[anS];exact Xm _) hc;exact this
 ·rw[A9 hm];exact kS hu (by rw[anS,El];exact hm)
theorem nY(hu:Up A)(l:M):made A (FX K l)=made A (Fa K l):=aDw (hu.made _) (hu.made _) fun k=>by rw[sW hu,ZX hu]
theorem eD{l:M}{d:T}(h:C9 l=some d):d.length≤65535:=by
 unfold C9 at h;cases h1:FW l with
 |none=>rw[h1] at h;cases h
 |some s=>
  rw[h1] at h;simp only[CU] at h;split at h
  ·simp only[Cu] at h;subst h;rw[Ab.RP];omega
  ·cases h
theorem ae1(hK:K.Cg){l:M}(h:Fits K l){p:T×T}(hp:p∈l):(Nf K l (K.nm p.1)).may=true:=by
 obtain⟨d,hd⟩:=KD.1 (h.all p hp);have hl:=hK.len p.1;have hne:K.nm p.1≠[]:=fun e=>by rw[e] at hl;cases hl
 have:=eD hd;unfold Nf Am.may EX;rw[hd];simp[hne,hl,this]
theorem anR(hK:K.Cg){l:M}(h:Fits K l):(Fa K l).all Am.may=true:=by
 rw[Nl];intro c hc;obtain⟨name,hn,rfl⟩:=Bv.1 hc;obtain⟨p,hp,rfl⟩:=Bv.1 ((El _ _).1 hn);exact ae1 hK h hp
def Ha(K:Kind)(n:Nat)(A:M)(l:M):Int×M:=if Fits K l then(FB n A (Fa K l),Ep n A (Fa K l)) else(5,A)
theorem ae5(hK:K.Cg){n:Nat}{l:M}(h:Fits K l):Ha K n A l=if Cy n < used (made A (Fa K l)) then(4,A) else(0,made A (Fa K l)):=by
 unfold Ha FB Ep;rw[Ae h,anR hK h];by_cases hr:Cy n < used (made A (Fa K l))
 ·rw[Ae hr,A9 (by simp),Ae hr,A9 (fun e=>by have:=e.2;omega)]
 ·rw[A9 hr,A9 (by simp),A9 hr,Ae ⟨rfl,by omega⟩]
end
end Kp
namespace Kp
open Go.Lib Go.RowKit Ah Aq Aw Bu
structure EU(K:Kind)(lt:M)(L:List (T×M)):Prop where
 nodup:(L.map (·.1)).Nodup
 names:∀ t,t∈L.map (·.1)↔t∈lt.map fun p=>K.nm p.1
 rows:∀ x∈L,x.2=BN K lt x.1
section
variable {K:Kind}{A:M}
theorem EU.nil:EU K [] []:=⟨by simp,fun t=>by simp,fun x hx=>by simp at hx⟩
theorem EU.more{lt:M}{L:List (T×M)}(h:EU K lt L){p:T×T}(hk:K.nm p.1∈L.map (·.1)):EU K (lt++[p]) (setRow L (K.nm p.1) (put p.1 p.2 (BN K lt (K.nm p.1)))):=by
 refine⟨by rw[xu];exact h.nodup,fun t=>?_,fun x hx=>?_⟩
 ·rw[xu,h.names,CQ,Es];constructor
  ·exact .inl
  ·rintro(e|e)
   ·exact e
   ·rw[List.map_singleton,Fu] at e;rw[e];exact(h.names _).1 hk
 ·unfold setRow at hx;obtain⟨y,hy,rfl⟩:=Bv.1 hx;by_cases e:y.1=K.nm p.1
  ·rw[Ae e]
   show _=BN K (lt++[p]) y.1
   rw[e,Oh,Ae rfl]
  ·rw[A9 e,Oh,A9 (fun e'=>e e'.symm)];exact h.rows y hy
theorem EU.new{lt:M}{L:List (T×M)}(h:EU K lt L){p:T×T}(hk:K.nm p.1∉L.map (·.1)):EU K (lt++[p]) ((K.nm p.1,put p.1 p.2 []) :: L):=by
 refine⟨JV.2 ⟨hk,h.nodup⟩,fun t=>?_,fun x hx=>?_⟩
 ·rw[Ce,Ch,h.names,CQ,Es];constructor
  ·rintro(e|e)
   ·exact .inr (by simp[e])
   ·exact .inl e
  ·rintro(e|e)
   ·exact .inr e
   ·exact .inl (by simpa using e)
 ·rcases Ch.1 hx with rfl|hx
  ·show _=BN K (lt++[p]) (K.nm p.1)
   rw[Oh,Ae rfl,kU (fun e=>hk ((h.names _).2 e))]
  ·rw[h.rows x hx,Oh,A9 (fun e=>hk (by rw[e];exact I6 hx))]
theorem wO{lt:M}{L:List (T×M)}(h:EU K lt L):L.length≤lt.length:=by
 have h1:(Di L).length=L.length:=vX L;rw[vY h.nodup] at h1;have h2:Bi (L.map (·.1))=Bi (lt.map fun p=>K.nm p.1):=RU (Ko _) (Ko _) fun t=>by rw[El,El];exact h.names t
 have h3:=VC (lt.map fun p=>K.nm p.1);rw[←h2,h1,Ca] at h3;exact h3
theorem EU.rM{l:M}{L:List (T×M)}(h:EU K l L):LC L=Fa K l:=by
 have hn:Di L=Bi (l.map fun p=>K.nm p.1):=by
  rw[vY h.nodup];refine RU (Ko _) (Ko _) fun t=>?_
  rw[El,El];exact h.names t
 unfold LC Fa;rw[hn];refine OI fun t ht=>?_
 rw[←hn] at ht;obtain⟨x,hx,rfl⟩:=Bv.1 (nR.1 ht);rw[o9 h.nodup hx,h.rows x hx];obtain⟨p,hp,e⟩:=Bv.1 ((h.names x.1).1 (I6 hx));unfold MU Nf;rw[A9];rw[←e];exact aj6 hp
theorem EU.fits{l:M}{L:List (T×M)}(h:EU K l L)(hf:Fits K l):Qh L=true:=by
 unfold Qh;rw[Nl];intro t ht;obtain⟨x,hx,rfl⟩:=Bv.1 (nR.1 ht);rw[o9 h.nodup hx,h.rows x hx];obtain⟨p,hp,e⟩:=Bv.1 ((h.names x.1).1 (I6 hx));unfold NH;rw[←e,hf.all p hp];simp
theorem an8{l:M}(hu:Up l)(p:T×T):LP [l.filter (fun q=>!(q.1 == p.1)),[p]]=put p.1 p.2 l:=by
 have hd:del p.1 l=l.filter (fun q=>!(q.1 == p.1)):=rfl
 show Gw (Gw [] (Fq (l.filter _))) (Fq [p])=_
 rw[nS,←hd,apn (hu.del _),←azR hu p.1 p.2]
 congr 1
 exact apn (Tq _ _)
end
end Kp
namespace Kp
open Go.Lib Go.RowKit Ah Aq Aw Bu Hex
abbrev Us:=List (T×List T)
def QH(u:T×List T):T×T:=(u.1,(Dg (Bi u.2)).1)
def BG(l:Us):M:=l.map QH
def ND(l:Us):Prop:=∀ u∈l,(Dg (Bi u.2)).2=0
instance (l:Us):Decidable (ND l):=inferInstanceAs (Decidable (∀ u∈l,_))
def Im(n:Nat)(A:M)(l:Us):Int×M:=if ND l then Ha Aa n A (BG l) else(5,A)
theorem aoC{l:List T}(h:(Dg l).2=0):Dv (Dg l).1=some l:=by
 unfold Dg at h ⊢;cases he:GM l with
 |none=>rw[he] at h;cases h
 |some s=>exact aof he
theorem aBx{l:List T}:(Dg l).2=0↔(GM l).isSome=true:=by
 unfold Dg;cases GM l<;>simp
theorem aDE{u:T×List T}(h:(Dg (Bi u.2)).2=0):Aa.ok (QH u)=true:=by
 show rowOk _=true
 unfold rowOk QH;rw[aoC h]
 show decide (Bi (Bi u.2)=Bi u.2)=true
 rw[o8 (Ko _)];exact LY rfl
theorem xR{l:Us}(h:ND l):∀ p∈BG l,Aa.ok p=true:=fun p hp=>by
 obtain⟨u,hu,rfl⟩:=Bv.1 hp;exact aDE (h u hu)
theorem xS(l:Us)(k:Nat):BG (l.take k)=(BG l).take k:=by unfold BG;rw[List.map_take]
theorem PH(l:Us):(BG l).length=l.length:=by unfold BG;rw[Ca]
theorem aoF{l:Us}{u:T×List T}:ND (l++[u])↔ND l∧(Dg (Bi u.2)).2=0:=by
 unfold ND;constructor
 ·intro h;exact⟨fun x hx=>h x (UA _ hx),h u (by simp)⟩
 ·rintro⟨h1,h2⟩ x hx;rcases Es.1 hx with e|e
  ·exact h1 x e
  ·obtain rfl:x=u:=(by simpa using e);exact h2
theorem apZ(l:Us)(u:T×List T):BG (l++[u])=BG l++[QH u]:=by unfold BG;rw[CQ];rfl
section
variable {K:Kind}{A:M}
theorem kL(hu:Up A)(CP:∀ k,get A (K.nm k)=none){l:M}(hok:∀ p∈l,K.ok p=true)(hf:Fits K l)(k:T):fileOf K (made A (FX K l)) (K.nm k)=if K.nm k∈l.map (fun p=>K.nm p.1) then some (BN K l (K.nm k)) else none:=by
 unfold fileOf;rw[sW hu];by_cases h:K.nm k∈l.map fun p=>K.nm p.1
 ·rw[Ae h,Ae h];obtain⟨p,hp,e⟩:=Bv.1 h;have e:K.nm p.1=K.nm k:=e;rw[←e];have hc:=hf.all p hp;obtain⟨d,hd⟩:=KD.1 hc;rw[hd]
  show K.Cm _ d=_
  exact aea hd (aj6 hp) (TS _ _) fun q hq=>⟨(tC _ _ q hq).1,hok q (tC _ _ q hq).2⟩
 ·rw[A9 h,A9 h,CP];rfl
theorem aie(hu:Up A)(CP:∀ k,get A (K.nm k)=none){l:M}(hok:∀ p∈l,K.ok p=true)(hf:Fits K l)(k:T):(fileOf K (made A (FX K l)) (K.nm k)).getD []=BN K l (K.nm k):=by
 rw[kL hu CP hok hf];split
 ·rfl
 ·rename_i h
  rw[kU h];rfl
theorem ab0:Fits K []:=fun j hj=>by simp at hj
theorem anm{K':Kind}(hK:K.Cg)(l5:K'.Cg)(hd:∀ x,K.ours x=true→K'.ours x=true→False)(hu:Up A)(CP:∀ k,get A (K.nm k)=none){n:Nat}(l:M):∀ k,get (Ha K' n A l).2 (K.nm k)=none:=by
 intro k;unfold Ha;split
 ·show get (Ep n A (Fa K' l)) _=none
  unfold Ep;split
  ·rw[ZX hu,A9,CP];intro h;obtain⟨p,_,e⟩:=Bv.1 h;exact hd _ (hK.Mt k) (by rw[←e];exact l5.Mt _)
  ·exact CP k
 ·exact CP k
theorem apX(hu:Up A)(l:M):used (made A (FX K l))=used (made A (Fa K l)):=by rw[nY hu]
end
end Kp
namespace Bu
open Ah Aq
def KI(o:M)(k:T):Nat→Nat
 |0=>0
 |n+1=>if k < (o.getD n ([],[])).1 then KI o k n else n+1
def Tc(o:M)(x:T×T):M:=o.take (KI o x.1 o.length)++[x]++o.drop (KI o x.1 o.length)
def MC(l:M):M:=l.foldl Tc []
theorem ahB(o:M)(k:T):∀ n,KI o k n≤n
 |0=>Ag _
 |n+1=>by
  unfold KI;split
  ·exact Nat.le_succ_of_le (ahB o k n)
  ·exact Ag _
theorem ahA(o:M)(k:T):∀ n,∀ i,KI o k n≤i→i < n→k < (o.getD i ([],[])).1
 |0,i,_,h=>absurd h (Nat.not_lt_zero _)
 |n+1,i,h1,h2=>by
  unfold KI at h1;split at h1
  ·rename_i hk
   by_cases e:i=n
   ·rw[e];exact hk
   ·exact ahA o k n i h1 (by omega)
  ·omega
theorem aaF(o:M)(k:T):∀ n,∀ i,KI o k n=i+1→(o.getD i ([],[])).1≤k
 |0,i,h=>by unfold KI at h;omega
 |n+1,i,h=>by
  unfold KI at h;split at h
  ·exact aaF o k n i h
  ·rename_i hk
   obtain rfl:n=i:=(by omega);exact iA.1 hk
theorem ayA(o:M)(x:T×T):(Tc o x).Perm (x :: o):=by
 unfold Tc;have h:=List.perm_middle (a:=x) (l₁:=o.take (KI o x.1 o.length)) (l₂:=o.drop (KI o x.1 o.length));rw[Lb] at h;rw[DJ];exact h
theorem apk{o:M}(h:D8 o){k:T}{n:Nat}(hn:n≤o.length)(hl:∀ i,n=i+1→(o.getD i ([],[])).1≤k):∀ p∈o.take n,p.1≤k:=by
 intro p hp;obtain⟨j,hj,rfl⟩:=List.mem_iff_getElem.1 hp;rw[Bc] at hj;rw[List.getElem_take];obtain⟨i,rfl⟩:∃ i,n=i+1:=⟨n -1,by omega⟩;have h1:=hl i rfl;rw[IU,CZ (show i < o.length by omega),RZ] at h1;by_cases e:j=i
 ·subst e;exact h1
 ·exact List.le_trans (List.pairwise_iff_getElem.1 h j i (by omega) (by omega) (by omega)) h1
theorem ayB{o:M}(h:D8 o)(x:T×T):D8 (Tc o x):=by
 unfold Tc;have hc:=ahB o x.1 o.length;refine List.pairwise_append.2 ⟨List.pairwise_append.2 ⟨h.sublist (List.take_sublist _ _),Tq _ _,fun a ha b hb=>?_⟩,h.sublist (List.drop_sublist _ _),fun a ha b hb=>?_⟩
 ·obtain rfl:b=x:=by simpa using hb
  exact apk h hc (fun i hi=>aaF o b.1 _ i hi) a ha
 ·obtain⟨j,hj,rfl⟩:=List.mem_iff_getElem.1 hb;rw[CF] at hj;rw[List.getElem_drop];have hk:=ahA o x.1 o.length (KI o x.1 o.length+j) (by omega) (by omega);rw[IU,CZ (show KI o x.1 o.length+j < o.length by omega),RZ] at hk;rcases Es.1 ha with e|e
  ·exact List.le_trans (apk h hc (fun i hi=>aaF o x.1 _ i hi) a e) (nK hk)
  ·obtain rfl:a=x:=(by simpa using e);exact nK hk
theorem ap9(l:M):∀ o,D8 o→D8 (l.foldl Tc o)∧(l.foldl Tc o).Perm (o++l):=by
 induction l with
 |nil=>intro o ho;exact⟨ho,by simp⟩
 |cons x l ih=>
  intro o ho;obtain⟨h1,h2⟩:=ih (Tc o x) (ayB ho x);refine⟨h1,h2.trans ?_⟩;refine((ayA o x).append_right l).trans ?_;exact List.perm_middle.symm
theorem apa(l:M):(MC l).Perm l:=(ap9 l [] List.Pairwise.nil).2
theorem aCo(l:M):D8 (MC l):=(ap9 l [] List.Pairwise.nil).1
theorem aCl(l:M):(MC l).length=l.length:=(apa l).length_eq
theorem aCn(l:M)(x:T×T):MC (l++[x])=Tc (MC l) x:=by unfold MC;rw[List.foldl_append];rfl
theorem aCm{l:M}(h:Up l)(k v:T):MC (l.filter (fun p=>!(p.1 == k))++[(k,v)])=put k v l:=by
 have hd:del k l=l.filter (fun q=>!(q.1 == k)):=rfl;rw[←hd];have hp:=apa (del k l++[(k,v)]);have hdu:=h.del k;refine bZ (xP (aCo _) ?_) (h.put k v) fun p=>?_
 ·rw[(hp.map (·.1)).nodup_iff,CQ,List.nodup_append];refine⟨hdu.nodup,by simp,fun a ha b hb=>?_⟩;simp only[Ce,Kw,Fu] at hb;subst hb;obtain⟨q,hq,rfl⟩:=Bv.1 ha;exact(YZ.1 hq).2
 ·rw[hp.mem_iff,Uo h,Es,YZ,Fu];exact⟨fun e=>e.elim .inr .inl,fun e=>e.elim .inr .inl⟩
end Bu
namespace Bu
open Go.RowKit Go.Maps
open Ah Aq Aw
theorem aoK{w:World}{a:Option Addr}{cap:Nat}{l:M}(h:Bg w a l)(hl:l.length≤1000000):
  Calls prog 245 #[.slice a l.length cap] w (Rt w (decide (D8 l))):=by
 have HH:=Hi h;clear h
 go_in
 go_wp2
 go_loopw [3] (fun i wr=>∃ k:Nat,1≤k∧(k≤l.length∨k=1)∧i= ↑(k:Int)∧D8 (l.take k)∧Bw w wr) (fun i _=>l.length -(intOf i).toNat)
 case atStart=>exact⟨1,Ag _,.inr rfl,rfl,by
  cases l with
  |nil=>exact List.Pairwise.nil
  |cons x l=>exact Tq _ _,Ai _ _⟩
 case round=>
  obtain⟨k,F8,hk,rfl,hs,hb⟩:=hrel;by_cases hlt:k < l.length
  ·obtain⟨p,Cn,hp,-⟩:=HH.index cap k hlt;obtain⟨p',acf,NP,-⟩:=HH.index cap (k -1) (by omega);have Rx:IntKind.i64.wrap ((k:Int) -1)=((k -1:Nat):Int):=(by rw[EN _ (by omega)];omega);have c1:=(hp.upd (ub hb) (fun f=>f)).key;have c2:=(NP.upd (ub hb) (fun f=>f)).key;have HT:=Hi (fun hn=>apl hs F8 hlt hn);have HN:=Hi (fun hn=>ano F8 hlt hn);have HB:=Hi hb;clear hs hb hp NP;generalize l[k]=x at*;generalize l[k -1]'(by omega)=y at*;by_cases Js:x.1 < y.1
   ·have Ct:Op.bytesLess x.1 y.1=true:=(by rw[Go.Proofs.bytesLess_eq];simpa using Js);have zi:=Hi (HN Js);clear HT HN Js;go_wp2;go_region;go_wp2;go_ret;exact⟨by first|rfl|(rw[decide_eq_false zi.out];rfl),HB.drew⟩
   ·have Ct:Op.bytesLess x.1 y.1=false:=(by rw[Go.Proofs.bytesLess_eq];simpa using Js);have UO:=Hi (HT Js);clear HT HN Js;go_wp2;go_region;go_wp2;go_roundw
    case rel=>exact⟨k+1,by omega,.inl (by omega),by go_num,UO.out,HB.drew⟩
    case measure=>simp[intOf];omega
  ·have HS:=Hi (show D8 l from by
    have:=hs;rwa[Gx (by omega)] at this)
   have HB:=Hi hb;have gu:¬ (k:Int) < (l.length:Int):=(by omega);clear hs hb hlt;go_wp2;go_ret;exact⟨by first|rfl|(rw[LY HS.out];rfl),HB.out⟩
def as5(l:M)(k:Nat)(v:Value):Prop:=∃ S,v=.string (bs (Ab.le 2 l.length++S))∧BL (flat (l.take k))=some S
theorem aAh{l:M}{k:Nat}{S x y:T}(hk:k < l.length)(h:BL (flat (l.take k))=some S)(hx:l[k].1=x)(hy:l[k].2=y)(h1:x.length≤65535)(h2:y.length≤65535):BL (flat (l.take (k+1)))=some (S++(Ab.le 2 x.length++x)++(Ab.le 2 y.length++y)):=by
 have e1:BL (flat (l.take k)++[x])=some (S++(Ab.le 2 x.length++x)):=by
  rw[aeF h x];unfold Er;rw[Ae h1];rfl
 rw[ab2 hk,hx,hy,show flat (l.take k)++[x,y]=(flat (l.take k)++[x])++[y] by simp,aeF e1 y];unfold Er;rw[Ae h2];rfl
theorem aoH{w:World}{a:Option Addr}{cap:Nat}{l:M}(h:Bg w a l)(hs:D8 l)(hl:l.length≤60000)(Df:rowLen (flat l)≤1000000000):
  Calls prog 186 #[.slice a l.length cap] w (Rt w (.tuple #[(Ej l).1,.int .i64 (Ej l).2])):=by
 have HH:=Hi h;have Wj:=Hi Df;have HS:=Hi hs;have UM:=Hi (show FW l=(BL (flat l)).map (Ab.le 2 l.length++ ·) from by unfold FW;rw[Ae (by omega)]);have qC:=Hi (show Ej l=match FW l with|none=>([],5)|some s=>(s,0) from rfl);generalize Ej l=V at*;clear h Df hs
 go_in
 go_wp2_with fail;refine(wy l.length 2 _ (by omega) (by decide)).mono ?_;rintro e w1⟨rfl,hb⟩;have HB1:=Hi hb;clear hb;go_wp2
 go_loopw [4,5] (fun v i wr=>∃ (k:Nat),k≤l.length∧i=.int .i64 k∧as5 l k v∧Bw w wr) (fun _ i _=>l.length -(intOf i).toNat)
 case atStart=>exact⟨0,by omega,rfl,⟨[],by rw[Eg],rfl⟩,HB1⟩
 case round=>
  clear HB1;obtain⟨k,hk,rfl,⟨S,rfl,hS⟩,hb⟩:=hrel;have Wi:=Hi hS;have HB:=Hi hb;clear hS hb;by_cases hlt:k < l.length
  ·obtain⟨q,II,hq,-⟩:=(HH.below HB).index cap k hlt;have c0:=hq.key;have c1:=hq.val;have GZ:=aoB l (k+1);have Ho:=Xo Wi.out;have Hq:=Wj.out;have JK:rowLen (flat (l.take (k+1)))=rowLen (flat (l.take k))+(2+l[k].1.length)+(2+l[k].2.length):=by
    rw[ab2 hlt];have:=aoA (flat (l.take k)) [l[k].1,l[k].2];have e:rowLen [l[k].1,l[k].2]=2+((2+l[k].1.length)+(2+l[k].2.length)):=(by unfold rowLen;simp);omega
   have CW:=Hi (fun(x y:T) (hx:l[k].1=x) (hy:l[k].2=y)=>aAh hlt Wi hx hy);have afE:=Hi (fun(x y:T) (hx:l[k].1=x) (hy:l[k].2=y) (hf:65535 < x.length∨65535 < y.length)=>show BL (flat l)=none from hf.elim (fun e=>aeG (kN hlt (by rw[hx];simp)) e) (fun e=>aeG (kN hlt (by rw[hy];simp)) e));obtain⟨x,hx⟩:=ex (l[k].1);obtain⟨y,hy⟩:=ex (l[k].2);have hle:S.length+x.length+y.length≤1000000000:=(by rw[←hx,←hy];omega);have JY:=Hi (CW x y hx hy);have jv:=Hi (afE x y hx hy);rw[hx] at c0;rw[hy] at c1;clear CW afE hq hx hy GZ Ho Hq JK;by_cases Eo:x.length≤65535
   ·by_cases Mr:y.length≤65535
    ·have Zy:=Hi (JY Eo Mr);clear JY jv;go_wp2_with fail;refine(ou x _ Eo).mono ?_;rintro e w3⟨rfl,Av⟩;have Au:=bH HB Av;have c1:w3.cell? ⟨q.block,q.off+1,none⟩=some ↑y:=(Av.cell (p:=⟨q.block,q.off+1,none⟩) (Cv c1)).trans c1;clear Av;go_wp2_with fail;refine(ou y _ Mr).mono ?_;rintro e w4⟨rfl,AB⟩;have AX:=bH Au AB;clear AB;have BQ:∀ z:T,(Ab.le 2 z.length++z).length=2+z.length:=fun z=>by rw[AA,Ab.Cb]
     go_wp2;go_roundw
     case rel=>exact⟨k+1,by omega,by go_num,⟨_,by first|rfl|simp only[DJ],Zy⟩,AX⟩
     case measure=>simp[intOf];omega
    ·have DU:=Hi (jv (.inr (by omega)));have bB:65535 < y.length:=(by omega);clear JY jv;go_wp2_with fail;refine(ou x _ Eo).mono ?_;rintro e w3⟨rfl,Av⟩;have Au:=bH HB Av;have c1:w3.cell? ⟨q.block,q.off+1,none⟩=some ↑y:=(Av.cell (p:=⟨q.block,q.off+1,none⟩) (Cv c1)).trans c1;clear Av;go_wp2_with fail;refine(oo y _ bB).mono ?_;rintro e w4⟨rfl,rfl⟩;go_wp2;go_ret2;exact⟨by rw[show V=([],5) from by rw[qC.out,show FW l=none from by rw[UM.out,DU.out];rfl]];rfl,Au⟩
   ·have DU:=Hi (jv (.inl (by omega)));have Ee:65535 < x.length:=(by omega);clear JY jv;by_cases Mr:y.length≤65535
    ·go_wp2_with fail;refine(oo x _ Ee).mono ?_;rintro e w3⟨rfl,rfl⟩;go_wp2_with fail;refine(ou y _ Mr).mono ?_;rintro e w4⟨rfl,AB⟩;have AX:=bH HB AB;clear AB;go_wp2;go_ret2;exact⟨by rw[show V=([],5) from by rw[qC.out,show FW l=none from by rw[UM.out,DU.out];rfl]];rfl,AX⟩
    ·have bB:65535 < y.length:=(by omega);go_wp2_with fail;refine(oo x _ Ee).mono ?_;rintro e w3⟨rfl,rfl⟩;go_wp2_with fail;refine(oo y _ bB).mono ?_;rintro e w4⟨rfl,rfl⟩;go_wp2;go_ret2;exact⟨by rw[show V=([],5) from by rw[qC.out,show FW l=none from by rw[UM.out,DU.out];rfl]];rfl,HB⟩
  ·obtain rfl:k=l.length:=(by omega);have QW:=Hi (aoK (cap:=cap) (HH.below HB) (by omega));rw[LY HS.out] at QW
   have HT:=Hi (show FW l=some (Ab.le 2 l.length++S) from by
    have:=Wi.out;rw[D5] at this;rw[UM.out,this];rfl)
   go_wp2_with fail;refine QW.mono ?_;rintro e w4⟨rfl,AB⟩;have AX:=bH HB AB;clear AB;go_wp2;go_ret2;exact⟨by rw[show V=(Ab.le 2 l.length++S,0) from by rw[qC.out,HT.out]];rfl,AX⟩
def asa(w:World)(s:T)(n:Nat)(sv lv iv:Value)(wr:World):Prop:=∃ (i:Nat) (S:T) (l:M),sv= ↑S∧iv= ↑(i:Int)∧pI w s n i S l lv wr
theorem aoq(s:T)(L:M)(hL:Ic s=some L)(w:World)(hs:s.length≤1000000000):Calls prog 242 #[s] w fun e w'=>∃ v,e=.returned (.tuple #[v,.int .i64 0])∧BK w' w.heap.size v L∧Bw w w':=by
 obtain⟨i0,Bh,AY,AZ,Bb⟩:=Dy RO;have h2:¬ s.length < 2:=fun h=>by unfold Ic at hL;rw[Ae h] at hL;cases hL
 have GY:∀ W,(Instr.slice 9 ↑s none (some (.int .i64 2)) none).run prog W=.ok ↑(s.take 2) W:=fun W=>OD prog W 9 underlying9 s 2 (by omega)
 have Yn:∀ W,(Instr.slice 9 ↑s (some (.int .i64 2)) none none).run prog W=.ok ↑(s.drop 2) W:=fun W=>Nh prog W 9 underlying9 s 2 (by omega)
 have hlt:(s.take 2).length=2:=by rw[Bc];omega
 have hv:=Ab.Jw (s.take 2);rw[hlt] at hv;have ZO:=Hi (fun(W:World)=>af0 (s.take 2) W (by omega));obtain⟨n,hn⟩:=ex (Ab.val (s.take 2));have Ey:=Hi (show some L=(EL (2*n) (s.drop 2)).bind fun q=>if q.2=[]∧D8 (Tn q.1) then some (Tn q.1) else none from by rw[←hL];unfold Ic;rw[A9 h2,hn]);rw[hn] at ZO hv;have Ke:n < 65536:=hv;have hsi:¬ (s.length:Int) < 2:=by omega
 have e2:IntKind.i64.wrap (n:Int)=(n:Int):=EN _ (by omega);clear hn hlt hv hL
 go_in
 go_wp2_with fail;refine(ZO _).mono ?_;rintro e w1⟨rfl,rfl⟩;go_wp2
 go_loopw [0,5,6] (fun sv lv iv wr=>asa w s n sv lv iv wr) (fun _ _ iv _=>n -(intOf iv).toNat)
 case atStart=>exact⟨0,s.drop 2,[],rfl,rfl,AV _,rfl,by rw[CF];omega,by simp[flat],by unfold BK;rw[R9];exact DZ _ _ _ _,Ai _ _⟩
 case round=>
  obtain⟨i,S,l,rfl,rfl,Bj⟩:=hrel;have Ba:=Hi Bj;have Ql:=Bj.short;have hle:=Bj.le;by_cases hlt:i < n
  ·cases hr:Ea S with
   |none=>
    have:=Ey.out;rw[iG (j:=2*i) (by omega) Bj.read hr] at this;cases this
   |some r=>
    obtain⟨k,n1⟩:=r;obtain⟨_,EB,_⟩:=bR hr;have hV:FM S=(k,n1,0):=(by unfold FM;rw[hr]);have GX:=Hi (fun(W:World)=>x8 S W (by omega));rw[hV] at GX;have Fh:=Hi (iI (j:=2*i) (by omega) Bj.read hr);have hcut:∀ W,(Instr.slice 9 ↑S (some ↑(n1:Int)) none none).run prog W=.ok ↑(S.drop n1) W:=fun W=>Nh prog W 9 underlying9 S n1 EB
    cases DC:Ea (S.drop n1) with
    |none=>
     have:=Ey.out;rw[iG (j:=2*i+1) (by omega) Fh DC] at this;cases this
    |some r2=>
     obtain⟨v,n2⟩:=r2;obtain⟨_,GJ,_⟩:=bR DC;rw[CF] at GJ;have Md:FM (S.drop n1)=(v,n2,0):=(by unfold FM;rw[DC]);have Sn:=Hi (fun(W:World)=>x8 (S.drop n1) W (by rw[CF];omega));rw[Md] at Sn;have ZF:=Hi (iI (j:=2*i+1) (by omega) Fh DC);have awQ:∀ W,(Instr.slice 9 ↑S (some (.int .i64 ((n1:Int)+(n2:Int)))) none none).run prog W=.ok ↑(S.drop (n1+n2)) W:=fun W=>by
      have:=Nh prog W 9 underlying9 S (n1+n2) (by omega);rwa[Int.natCast_add] at this
     have bz:IntKind.i64.wrap ((n1:Int)+(n2:Int))=(n1:Int)+(n2:Int):=EN _ (by omega);have Df:(n1:Int)+(n2:Int)≤1000000000:=(by omega);have ay3:(n1:Int)+(n2:Int)≤(S.length:Int):=(by omega);have ay4:((n1:Int)+(n2:Int)).toNat=n1+n2:=(by omega);have PX:=Hi EB;have JY:=Hi GJ;obtain⟨qo,co,rfl⟩:=Bp Bj.row;clear Bj hV hr Md DC EB GJ;go_wp2_with fail;refine(GX _).mono ?_;rintro e w2⟨rfl,rfl⟩;go_wp2_with fail;refine(Sn _).mono ?_;rintro e w3⟨rfl,rfl⟩;have DR:=Hi Ba.AR.size;go_wp2_with (at_builtin;refine wpList_append_own_at _ rfl _ _ 30 rfl w.heap.size 51 i0 _ 2 32 underlying30 Bh AY AZ Bb rfl (by decide) _ l.length _ rfl (Ba.row.alloc _) ⟨wr.heap.size,0,none⟩ 1 1 [.string (bs k),.string (bs v)] rfl rfl (by intro j u hj;rw[add_plain,E5];exact(Dx▸hj)) (by simp[Value.oneCell']) (by unfold maxLen;have:=Ba.len;omega) (by have:=Ba.len;omega) (by have:=DR.out;simp;omega) ?_;intro v' w4 Cf AJ _ hat;obtain⟨gg,cap2,rfl⟩:=ownsRow_succ Cf;have HO:=Hi Cf;have HG:=Hi AJ;clear Cf AJ hat)
     have Sm:=Hi (show pI w s n (i+1) (S.drop (n1+n2)) (l++[(k,v)]) (.slice gg (l.length+1) cap2) w4 from
      ⟨by omega,by rw[AA,Ba.len];rfl,by rw[CF];omega,by
       have:=ZF.out;rw[show 2*n -(2*i+1+1)=2*n -2*(i+1) by omega,List.drop_drop] at this;rw[this,ab1]
       congr 1
       funext q
       simp[flat],by unfold BK;rw[AA,TQ];exact HO.out,
       (Ba.AR.alloc Ba.AR.size _).grown HG (by have:=Ba.AR.size;rw[Az];omega) (fun k e=>DT Ba.row e)⟩)
     go_roundw
     case rel=>
      first
      |exact⟨i+1,S.drop (n1+n2),l++[(k,v)],rfl,by go_num,Sm⟩
      |(repeat apply Exists.intro
        refine⟨?_,rfl⟩;exact⟨i+1,S.drop (n1+n2),l++[(k,v)],rfl,by go_num,Sm⟩)
     case measure=>
      show n -((i:Int)+1).toNat < n -((i:Int)).toNat
      omega
  ·obtain rfl:i=n:=(by omega);have Na:EL (2*i) (s.drop 2)=some (flat l,S):=by
    rw[Bj.read,Nat.sub_self];simp[EL]
   have Ye:=Ey.out;rw[Na] at Ye;simp only[CU] at Ye;rw[xN] at Ye;obtain⟨qo,co,rfl,aW,ay⟩:=FQ Bj.row;have Zo:=Hi (aoK (cap:=co) (Bg.CR Bj.row) (by have:=Bj.len;omega));clear Bj Na;by_cases hS:S=[]∧D8 l
   ·rw[Ae hS] at Ye;obtain⟨hS1,tT⟩:=hS;subst hS1;obtain rfl:L=l:=GR Ye;rw[LY tT] at Zo;clear tT Ye;go_wp2_with fail;refine Zo.mono ?_;rintro e w2⟨rfl,hb⟩;have BV:=Hi (Cc Ba.row hb);have HB:=Hi (Ba.AR.trans (hb.mono Ba.AR.size));clear hb;go_wp2_with fail;exact EO (v:=.tuple #[.slice qo L.length co,.int .i64 0]) (by simp[results,results242,go_sem]) rfl ⟨_,rfl,BV,HB⟩
   ·rw[A9 hS] at Ye;cases Ye
end Bu
section
open Go.RowKit
open BH
theorem aBE(x:Int)(n:Nat)(h0:0 < n)(hn:n < 32)(w:World):
  Calls prog 283 #[.int .u32 x,.int .i64 n] w fun e w'=>e=.returned (.int .u32 (IL x n))∧w'=w:=by
 have h1:(n:Int) < 32:=by omega
 have h2:(0:Int) < n:=by omega
 go_in
 go_wp2;go_ret;exact⟨rfl,rfl⟩
theorem x9(x:Int)(n:Int)(h0:0 < n)(hn:n < 32)(w:World):
  Calls prog 283 #[.int .u32 x,.int .i64 n] w fun e w'=>e=.returned (.int .u32 (IL x n.toNat))∧w'=w:=by
 obtain⟨m,rfl⟩:=Int.eq_ofNat_of_zero_le (Int.le_of_lt h0);exact aBE x m (by omega) (by omega) w
theorem aDj(w:World):(Instr.makeSlice 314 (.int .i64 64) (.int .i64 64)).run prog w=.ok (.slice w.heap.size 64 64) (w.alloc (.cells (Bq (zeros 64)) 281)):=by
 have aG:(prog.info? 281).map (fun i=>(i.zero,i.size,i.bytes))=some (some (.int .u32 0),1,4):=by kernel_rfl
 obtain⟨i0,hi,AY,AZ,Bb⟩:=Dy aG;have hrun:=run_make (P:=prog) w 314 281 i0 _ underlying314 hi AY .i64 .i64 64 64 (by omega) (Int.le_refl _) (by rw[Bb];omega) (by omega);rw[AZ] at hrun;have e:madeCells (Value.int .u32 0).cells ((64:Int).toNat*1)=Bq (zeros 64):=by unfold Bq zeros;kernel_rfl
 rw[e] at hrun;exact hrun
theorem MG{cap g:Nat}(n k:Nat)(hk:k < n)(W:World):(Instr.indexAt 314 (.slice g n cap) ↑(k:Int)).run prog W=.ok (.pointer (some ⟨g,k,none⟩)) W:=by
 have h:=Hy prog 314 281 underlying314 1 (by kernel_rfl) ⟨g,0,none⟩ n cap k hk W;rw[add_plain,Nat.mul_one] at h;exact h
theorem aC1(b:List UInt8)(hb:b.length=64)(w:World):
  Calls prog 282 #[b] w fun e w'=>∃ g,e=.returned (.slice (some ⟨g,0,none⟩) 64 64)∧w.heap.size≤g∧w'.heap[g]?=some (.cells (Bq (Db b 48)) 281)∧Bw w w':=by
 have Ot:=aDj w
 go_in
 go_wp2
 go_loopw [4] (fun i wr=>∃ k:Nat,k≤16∧i=.int .i64 k∧Bw w wr∧wr.heap[w.heap.size]?=some (.cells (Bq (TR b k)) 281)) (fun i _=>16 -(intOf i).toNat)
 case atStart=>exact⟨0,by omega,rfl,(Ai _ _).alloc (Ag _) _,AU _ _⟩
 case round=>
  obtain⟨k,hk,rfl,De,Af⟩:=hrel;have HB:=Hi De;have HR:=Hi Af;by_cases hlt:k < 16
  ·have Gh:wr.cell? ⟨w.heap.size,k,none⟩=some (.int .u32 ((TR b k)[k]'(by rw[eT _ _ (by omega)];omega))):=by
    rw[BJ _ _ _ _ _ _ Af,Tm _ _ (by rw[eT _ _ (by omega)];omega)]
   have Pq:=CG _ _ k _ _ Af;generalize (TR b k)[k]'(by rw[eT _ _ (by omega)];omega)=x0 at Gh;have i1:=Z8 b (4*k) (by omega) (4*(k:Int)) (by omega);have i2:=Z8 b (4*k+1) (by omega) (4*(k:Int)+1) (by omega);have i3:=Z8 b (4*k+2) (by omega) (4*(k:Int)+2) (by omega);have i4:=Z8 b (4*k+3) (by omega) (4*(k:Int)+3) (by omega);have Cn:=fun W=>MG (g:=w.heap.size) (cap:=64) 64 k (by omega) W
   clear De Af;go_wp2;go_region;go_wp2;go_roundw
   case rel=>exact⟨k+1,by omega,by go_num,((HB.setCell (p:=⟨w.heap.size,k,none⟩) (Ag _) _).drew),by
    have h:=Cs wr w.heap.size k _ _ (.int .u32 (be b k)) HR;rw[xL,aii b k (by omega)] at h;exact h⟩
   case measure=>simp[intOf];omega
  ·obtain rfl:k=16:=(by omega);clear De Af;go_wp2
   go_loopw [5] (fun i wr=>∃ k:Nat,k≤48∧i= ↑((16+k:Nat):Int)∧Bw w wr∧wr.heap[w.heap.size]?=some (.cells (Bq (Db b k++zeros (48 -k))) 281)) (fun i _=>64 -(intOf i).toNat)
   case atStart=>exact⟨0,by omega,rfl,HB,HR⟩
   case round=>
    clear HB HR;obtain⟨k,hk,rfl,De,Af⟩:=hrel;have HB:=Hi De;have HR:=Hi Af;clear De Af;by_cases hlt:k < 48
    ·have hlen:=cK b k
     have KP:=Hi (fun(V:World) (h:V.heap[w.heap.size]?=some (.cells (Bq (Db b k++zeros (48 -k))) 281))=>(show(∀ j,j < 16+k→V.cell? ⟨w.heap.size,j,none⟩=some (.int .u32 ((Db b k).getD j 0)))∧(∃ v0,V.cell? ⟨w.heap.size,16+k,none⟩=some v0)∧V.frozen? ⟨w.heap.size,16+k,none⟩=false from by
      have hl:(Db b k++zeros (48 -k)).length=64:=(by rw[AA,hlen];unfold zeros;simp;omega);refine⟨fun j hj=>?_,⟨_,(BJ _ _ _ _ _ _ h).trans (Tm _ _ (by omega))⟩,CG _ _ _ _ _ h⟩;rw[BJ _ _ _ _ _ _ h,Tm _ _ (by omega),Uz (by omega),IU,CZ (by omega)];rfl))
     have Ba:=Hi (show(Db b k++zeros (48 -k)).set (16+k) (bL (Db b k) (16+k))=Db b (k+1)++zeros (48 -(k+1)) from by
      have e:=adD (Db b k) (48 -(k+1)) (bL (Db b k) (16+k));rw[hlen,show 48 -(k+1)+1=48 -k by omega] at e;exact e)
     unfold bL at Ba;obtain⟨t,ht⟩:=ex (16+k);obtain⟨JO,WE⟩:=ex (t -16);obtain⟨RA,kW⟩:=ex (t -15);obtain⟨j7,h7⟩:=ex (t -7);obtain⟨j2,h2⟩:=ex (t -2);rw[ht] at KP Ba ⊢;rw[WE,kW,h7,h2] at Ba;have e16:(t:Int) -16=(JO:Int):=(by omega);have e15:(t:Int) -15=(RA:Int):=(by omega);have e7:(t:Int) -7=(j7:Int):=(by omega);have e2:(t:Int) -2=(j2:Int):=(by omega);have b0:(t:Int) < 64:=(by omega);have M5:=Hi (show t+1=16+(k+1)∧k < 48 from by omega);obtain⟨hc,⟨v0,hcz⟩,Pq⟩:=KP _ HR.out;have c16:=hc JO (by omega);have c15:=hc RA (by omega);have c7:=hc j7 (by omega);have c2:=hc j2 (by omega);have aEw:=fun W=>MG (g:=w.heap.size) (cap:=64) 64 JO (by omega) W
     have aEu:=fun W=>MG (g:=w.heap.size) (cap:=64) 64 RA (by omega) W
     have x7i:=fun W=>MG (g:=w.heap.size) (cap:=64) 64 j7 (by omega) W
     have x2i:=fun W=>MG (g:=w.heap.size) (cap:=64) 64 j2 (by omega) W
     have xti:=fun W=>MG (g:=w.heap.size) (cap:=64) 64 t (by omega) W
     have aEx:=aEw;have aEv:=aEu;have x7k:=x7i;have x2k:=x2i;rw[←e16] at aEx;rw[←e15] at aEv;rw[←e7] at x7k;rw[←e2] at x2k;have b16:(JO:Int) < 64:=(by omega);have b15:(RA:Int) < 64:=(by omega);have b7:(j7:Int) < 64:=(by omega);have b2:(j2:Int) < 64:=(by omega);have w16:IntKind.i64.wrap (JO:Int)=(JO:Int):=(by rw[IntKind.wrap];simp[IntKind.bits,IntKind.signed];omega);have w15:IntKind.i64.wrap (RA:Int)=(RA:Int):=(by rw[IntKind.wrap];simp[IntKind.bits,IntKind.signed];omega);have w7:IntKind.i64.wrap (j7:Int)=(j7:Int):=(by rw[IntKind.wrap];simp[IntKind.bits,IntKind.signed];omega);have w2:IntKind.i64.wrap (j2:Int)=(j2:Int):=(by rw[IntKind.wrap];simp[IntKind.bits,IntKind.signed];omega);clear hc hlen ht WE kW h7 h2 hlt hk;obtain⟨Xt,gT⟩:=ex ((Db b k).getD JO 0);obtain⟨VH,nA⟩:=ex ((Db b k).getD RA 0);obtain⟨x7,Vu⟩:=ex ((Db b k).getD j7 0);obtain⟨x2,Ee⟩:=ex ((Db b k).getD j2 0);rw[nA] at c15 Ba;rw[Ee] at c2 Ba;rw[gT] at c16 Ba;rw[Vu] at c7 Ba;clear gT nA Vu Ee;go_wp2
     go_region_held3 (fun V=>V.cell? ⟨w.heap.size,RA,none⟩=some (.int .u32 VH)) (go_keep)
      (first|(go_at_call 283;refine(x9 VH _ (by decide) (by decide) _).mono ?_;rintro e wA ⟨rfl,rfl⟩))
     go_wp2
     go_region_held3 (fun V=>V.cell? ⟨w.heap.size,j2,none⟩=some (.int .u32 x2)) (go_keep)
      (first|(go_at_call 283;refine(x9 x2 _ (by decide) (by decide) _).mono ?_;rintro e wA ⟨rfl,rfl⟩))
     go_wp2;go_region;go_wp2_with fail;refine⟨?_,?measure⟩
     ·repeat apply Exists.intro
      refine⟨?rel,rfl⟩
      case rel=>
       refine⟨k+1,by have:=M5.out;omega,by have:=M5.1;go_num,?_,?_⟩
       ·exact(((HB.setCell (p:=⟨w.heap.size,t,none⟩) (Ag _) _).drew).drew).drew
       ·have h:=Cs wr w.heap.size t _ _ (.int .u32 ((sig x2 17 19 10+x7+sig VH 7 18 3+Xt) % 4294967296)) HR.out;have e2:(Db b k++zeros (48 -k)).set t ((sig x2 17 19 10+x7+sig VH 7 18 3+Xt) % 4294967296)=Db b (k+1)++zeros (48 -(k+1)):=by
         rw[show(sig x2 17 19 10+x7+sig VH 7 18 3+Xt) % 4294967296=(((Xt+sig VH 7 18 3) % 4294967296+x7) % 4294967296+sig x2 17 19 10) % 4294967296 by omega];exact Ba.out
        rw[xL,e2] at h;exact h
     show 64 -((t:Int)+1).toNat < 64 -(t:Int).toNat
     omega
    ·obtain rfl:k=48:=(by omega);clear hlt;go_wp2;go_ret;have h:=HR.out;rw[show 48 -48=0 from rfl,show zeros 0=[] from rfl,Eg] at h;exact⟨w.heap.size,rfl,Ag _,h,HB⟩
end
section
open Go.RowKit Go.Maps
open BH
def NG(w:World)(g:Nat)(l:List Int):Prop:=∀ i,i < l.length→w.cell? ⟨g,i,none⟩=some (.int .u32 (l.getD i 0))
theorem NG.below{w w':World}{g:Nat}{l:List Int}(h:NG w g l)(hb:Bw w w'):NG w' g l:=fun i hi=>by
 have:=h i hi;exact(hb.cell (Cv this)).trans this
theorem xX{w:World}{g:Nat}{l:List Int}{t:TypeId}(h:w.heap[g]?=some (.cells (Bq l) t)):NG w g l:=fun i hi=>by
 rw[BJ _ _ _ _ _ _ h,Tm _ _ hi,IU,CZ hi];rfl
theorem aDi:(prog.info? 281).map (fun i=>(i.zero,i.size,i.bytes))=some (some (.int .u32 0),1,4):=by kernel_rfl
def RX(l:List Int):List Value:=l.map fun x=>.int .u32 x
theorem aqf{w:World}{base g n cap:Nat}{l:List Int}(h:w.ownsRow base 281 1 (.slice g n cap) n (RX l)):NG w g l:=fun i hi=>by
 have hc:=h.cells (g:=g) rfl;have:=hc i (.int .u32 l[i]) (by unfold RX;rw[JS,CZ hi];rfl);rw[add_plain] at this;rw[this,IU,CZ hi];rfl
theorem oh{w:World}{base:Nat}{e:TypeId}{size:Nat}{v:Value}{n:Nat}{xs:List Value}(h:w.ownsRow base e size v n xs){b:Nat}(hb:v.ownBlock=some b):base≤b:=by
 rcases h.2 with⟨rfl,_⟩|⟨g,cap,cur,rfl,Ig,_⟩
 ·simp[Value.ownBlock] at hb
 ·simp[Value.ownBlock] at hb;omega
theorem aCS(h V:List Int)(k:Nat)(hk:k < 8):(sumTo h V 8).take (k+1)=(sumTo h V 8).take k++[(h.getD k 0+V.getD k 0) % 4294967296]:=by
 have hl:k < (sumTo h V 8).length:=by rw[oF];exact hk
 rw[Cr hl];have:=aeC h V 8 k hk;rw[Ae hk,IU,CZ hl,RZ] at this;rw[this]
theorem aCV(a s c k w:Int):((a+s+c+k) % 4294967296+w) % 4294967296=((((a+s) % 4294967296+c) % 4294967296+k) % 4294967296+w) % 4294967296:=by omega
theorem wrap32(x:Int):IntKind.u32.wrap x=x % 4294967296:=by simp[IntKind.wrap,IntKind.bits,IntKind.signed]
theorem aAV{w:World}{gh gk ch' ck':Nat}{h:List Int}(b:List UInt8)(hb:b.length=64)(hh:h.length=8)(H:NG w gh h)(K:NG w gk Gj):
  Calls prog 275 #[.slice gh 8 ch',.slice gk 64 ck',b] w fun e w'=>∃ g c,e=.returned (.slice (some ⟨g,0,none⟩) 8 c)∧w.heap.size≤g∧NG w' g (Qf h b)∧Bw w w':=by
 obtain⟨i0,Bh,AY,AZ,Bb⟩:=Dy aDi;have HH:=Hi H;have HK:=Hi K;clear H K
 go_in
 go_wp2_with fail;refine(aC1 b hb _).mono ?_;rintro e w1⟨gw,rfl,hgw,hw,Ak⟩;have HW:=Hi (xX hw);have HB1:=Hi Ak;have XF:=Hi (HH.below Ak);clear hw Ak;have YH:∀ j u,(RX h)[j]?=some u→w1.cell? ((⟨gh,0,none⟩:Addr).add j)=some u:=fun j u hu=>by
  have hj:j < h.length:=by
   have:=(Uy.1 hu).1;simpa[RX] using this
  rw[add_plain,XF j hj];unfold RX at hu;rw[JS,CZ hj] at hu;rw[IU,CZ hj];exact hu
 go_wp2_with (at_builtin;refine wpList_append_own_at w1 rfl _ _ 314 rfl w1.heap.size 281 i0 _ 1 4 underlying314 Bh AY AZ Bb rfl (by decide) ↑() 0 [] rfl (DZ _ _ _ _) ⟨gh,0,none⟩ 8 ch' (RX h) rfl (by simp[RX,hh]) YH (by intro u hu;unfold RX at hu;obtain⟨x,_,rfl⟩:=Bv.1 hu;rfl) (by unfold maxLen;omega) (by omega) (Ag _) ?_;intro v2 w2 Dt Ec _ _;rw[EE,GQ] at Dt;obtain⟨g2,cap2,rfl⟩:=ownsRow_succ Dt;have P7:=Hi (aqf Dt);have Aj:=Hi ((Ai _ w1).grown Ec (Ag _) (fun j e=>by cases e));clear Dt Ec);have Sw:=Hi (HW.below Aj);have UJ:=Hi (XF.below Aj);have PV:=Hi ((HK.below HB1).below Aj);have jf:=bH HB1 Aj;have Mk:=fun t=>aoz (W:=Db b 48) hh t
 clear YH HW XF HB1 Aj HH HK
 go_loopw [8,9] (fun v i wr=>∃ (t gv cv:Nat),t≤64∧i= ↑(t:Int)∧v=.slice gv 8 cv∧NG wr gv (rounds (Db b 48) h t)∧Bw w2 wr)
  (fun _ i _=>64 -(intOf i).toNat)
 case atStart=>exact⟨0,g2,cap2,by omega,rfl,rfl,P7,Ai _ _⟩
 case round=>
  obtain⟨t,gv,cv',ht,rfl,rfl,hv,Ac⟩:=hrel;have HV:=Hi hv;have HB:=Hi Ac;clear P7;by_cases hlt:t < 64
  ·have hl:=Mk t;obtain⟨V,Qm⟩:=ex (rounds (Db b 48) h t);rw[Qm] at hv hl;have hRt:=Hi (show rounds (Db b 48) h (t+1)=turn V (Gj.getD t 0) ((Db b 48).getD t 0) by show turn (rounds (Db b 48) h t) _ _=_;rw[Qm]);have c0:=hv 0 (by omega);have c1:=hv 1 (by omega);have c2:=hv 2 (by omega);have c3:=hv 3 (by omega);have c4:=hv 4 (by omega);have c5:=hv 5 (by omega);have c6:=hv 6 (by omega);have c7:=hv 7 (by omega);have ck:=(PV.below Ac) t (by show t < 64;exact hlt);have cw:=(Sw.below Ac) t (by rw[cK];omega);unfold turn t1 t2 at hRt;obtain⟨x0,Ox⟩:=ex (V.getD 0 0);obtain⟨x1,Eo⟩:=ex (V.getD 1 0);obtain⟨x2,Ee⟩:=ex (V.getD 2 0);obtain⟨x3,hx3⟩:=ex (V.getD 3 0);obtain⟨x4,hx4⟩:=ex (V.getD 4 0);obtain⟨x5,Uj⟩:=ex (V.getD 5 0);obtain⟨x6,Uk⟩:=ex (V.getD 6 0);obtain⟨x7,Vu⟩:=ex (V.getD 7 0);obtain⟨xk,nD⟩:=ex (Gj.getD t 0);obtain⟨xw,YT⟩:=ex ((Db b 48).getD t 0);rw[Ox,Eo,Ee,hx3,hx4,Uj,Uk,Vu,nD,YT] at hRt;rw[Ox] at c0;rw[Eo] at c1;rw[Ee] at c2;rw[hx3] at c3;rw[hx4] at c4;rw[Uj] at c5;rw[Uk] at c6;rw[Vu] at c7;rw[nD] at ck;rw[YT] at cw;have i0:=fun W=>MG (g:=gv) (cap:=cv') 8 0 (by omega) W
   have i1:=fun W=>MG (g:=gv) (cap:=cv') 8 1 (by omega) W
   have i2:=fun W=>MG (g:=gv) (cap:=cv') 8 2 (by omega) W
   have i3:=fun W=>MG (g:=gv) (cap:=cv') 8 3 (by omega) W
   have i4:=fun W=>MG (g:=gv) (cap:=cv') 8 4 (by omega) W
   have i5:=fun W=>MG (g:=gv) (cap:=cv') 8 5 (by omega) W
   have i6:=fun W=>MG (g:=gv) (cap:=cv') 8 6 (by omega) W
   have i7:=fun W=>MG (g:=gv) (cap:=cv') 8 7 (by omega) W
   have ik:=fun W=>MG (g:=gk) (cap:=ck') 64 t hlt W
   have iw:=fun W=>MG (g:=gw) (cap:=64) 64 t hlt W
   have hti:(t:Int) < 64:=(by omega);clear hv Qm Ox Eo Ee hx3 hx4 Uj Uk Vu nD YT hl HV Mk;go_wp2
   go_region_held3 (fun V=>V.cell? ⟨gv,4,none⟩=some (.int .u32 x4)) (go_keep)
    (first|(go_at_call 283;refine(x9 x4 _ (by decide) (by decide) _).mono ?_;rintro e wA ⟨rfl,rfl⟩))
   go_wp2
   go_region_held3 (fun V=>V.cell? gv=some (.int .u32 x0)) (go_keep)
    (first|(go_at_call 283;refine(x9 x0 _ (by decide) (by decide) _).mono ?_;rintro e wA ⟨rfl,rfl⟩))
   go_wp2
   go_region_held3 (fun V=>V.cell? ⟨gv,4,none⟩=some (.int .u32 x4)∧V.cell? ⟨gv,5,none⟩=some (.int .u32 x5)∧V.cell? ⟨gv,6,none⟩=some (.int .u32 x6)∧V.cell? ⟨gv,7,none⟩=some (.int .u32 x7)∧V.cell? ⟨gk,t,none⟩=some (.int .u32 xk)∧V.cell? ⟨gw,t,none⟩=some (.int .u32 xw)) (go_keep) (fail)
   simp only[wrap32,show(if IntKind.u32.signed=true then(-1:Int) else IntKind.u32.max)=IntKind.u32.max from rfl];obtain⟨T1,fA⟩:=ex (((((x7+bits .xor .u32 (bits .xor .u32 (IL x4 6) (IL x4 11)) (IL x4 25)) % 4294967296+bits .xor .u32 (bits .and .u32 x4 x5) (bits .and .u32 (bits .xor .u32 IntKind.u32.max x4) x6)) % 4294967296+xk) % 4294967296+xw) % 4294967296);rw[fA];have JD:=Hi fA;clear fA c7 ck cw ik iw i7;go_wp2
   go_region_held3 (fun V=>V.cell? gv=some (.int .u32 x0)∧V.cell? ⟨gv,1,none⟩=some (.int .u32 x1)∧V.cell? ⟨gv,2,none⟩=some (.int .u32 x2)) (go_keep) (fail)
   simp only[wrap32];obtain⟨T2,WI⟩:=ex ((bits .xor .u32 (bits .xor .u32 (IL x0 2) (IL x0 13)) (IL x0 22)+bits .xor .u32 (bits .xor .u32 (bits .and .u32 x0 x1) (bits .and .u32 x0 x2)) (bits .and .u32 x1 x2)) % 4294967296);rw[WI];have Hl:=Hi WI;clear WI;go_wp2
   go_region_held3 (fun V=>V.cell? gv=some (.int .u32 x0)∧V.cell? ⟨gv,1,none⟩=some (.int .u32 x1)∧V.cell? ⟨gv,2,none⟩=some (.int .u32 x2)∧V.cell? ⟨gv,3,none⟩=some (.int .u32 x3)∧V.cell? ⟨gv,4,none⟩=some (.int .u32 x4)∧V.cell? ⟨gv,5,none⟩=some (.int .u32 x5)∧V.cell? ⟨gv,6,none⟩=some (.int .u32 x6)) (go_keep) (fail)
   simp only[wrap32];have aZ:=hRt.out;rw[aCV,JD.out,Hl.out] at aZ;have HRT:=Hi aZ;clear aZ c0 c1 c2 c3 c4 c5 c6 i0 i1 i2 i3 i4 i5 i6;go_wp2;go_roundw
   case rel=>
    refine⟨t+1,wr.heap.size,8,by omega,by go_num,rfl,?_,?_⟩
    ·rw[HRT.out];refine xX (t:=281) ?_;rw[←iT];exact AU wr _
    ·exact(((((HB.alloc HB.size _).drew).drew).drew).drew).drew
   case measure=>simp[intOf];omega
  ·obtain rfl:t=64:=(by omega);clear hv Ac;have hVl:=Mk 64;obtain⟨V,Qm⟩:=ex (rounds (Db b 48) h 64);rw[Qm] at HV hVl;have HVE:=Hi Qm;clear Qm Mk;have hH:=UJ.below HB.out;have HHR:=Hi hH;have HHB:=Hi HB.out;clear hH;go_wp2_with fail;obtain⟨R,hR⟩:=ex (wr.heap.size);have hRL:w2.heap.size≤R:=(by rw[←hR];exact HB.size);have HKH:=Hi (fun(W:World) (hW:Below R wr W)=>(show NG W gh h∧NG W gv V from by rw[←hR] at hW;exact⟨HHR.below hW,HV.below hW⟩))
   go_loopw [14,15] (fun o i wo=>∃ (k:Nat),k≤8∧i= ↑(k:Int)∧wo.ownsRow R 281 1 o k (RX ((sumTo h V 8).take k))∧Bw w2 wo∧Below R wr wo∧R≤wo.heap.size)
    (fun _ i _=>8 -(intOf i).toNat)
   case atStart=>exact⟨0,by omega,rfl,DZ _ _ _ _,HB,Ai _ _,by omega⟩
   case round=>
    obtain⟨k,hk,rfl,hown,Rf,ui,hRs⟩:=hrel;obtain⟨oq,Hw,rfl⟩:=Bp hown;have HO:=Hi hown;have jm:=Hi Rf;have KG:=Hi ui;by_cases hlt:k < 8
    ·have ch:=(HKH _ ui).1 k (by omega);have cv:=(HKH _ ui).2 k (by omega);have ih:=fun W=>MG (g:=gh) (cap:=ch') 8 k hlt W
     have iv:=fun W=>MG (g:=gv) (cap:=cv') 8 k hlt W
     obtain⟨xh,hxh⟩:=ex (h.getD k 0);obtain⟨xv,Xc⟩:=ex (V.getD k 0);rw[hxh] at ch;rw[Xc] at cv;have HX:=Hi (CB hxh Xc);have uK:(k:Int) < 8:=(by omega);have hso:=Rf.size;clear hown Rf ui hxh Xc;go_wp2_with fail
     go_region_law
      ((refine step_append_lies _ (by rfl) _ _ _ (by rfl) R 281 i0 _ 1 4 underlying314 Bh AY AZ Bb (by rfl) (by omega) (.slice oq k Hw) k (RX ((sumTo h V 8).take k)) (by rfl) ((HO.alloc _).drew) ⟨wr.heap.size,0,none⟩ 1 1 [.int .u32 (IntKind.u32.wrap (xh+xv))] (by rfl) (by rfl) (World.news_of_block (cs:=#[.int .u32 (IntKind.u32.wrap (xh+xv))]) (t:=281) (fr:=(0,0)) (AU wr _)) (by intro u hu;simp at hu;subst hu;rfl) (by omega) (by unfold maxLen;omega) (by omega) (by rw[show((wr.alloc _).drew).heap.size=wr.heap.size+1 from Az _ _];omega) (wr.heap.size+1) (by simp) ?_;intro gg rC w3 T9 AJ hat al0))
     all_goals
      have Wl:=Hi ((((jm.alloc jm.size (.cells #[.int .u32 (IntKind.u32.wrap (xh+xv))] 281)).drew)).grown AJ (Ay hRL (Ay hRs (Nat.le_of_lt (by rw[show((wr.alloc (.cells #[.int .u32 (IntKind.u32.wrap (xh+xv))] 281)).drew).heap.size=wr.heap.size+1 from Az _ _];omega)))) (fun j hj=>Ay hRL (oh HO hj)));have Ny:=Hi ((((KG.alloc hRs (.cells #[.int .u32 (IntKind.u32.wrap (xh+xv))] 281)).drew)).grown AJ (Ay hRs (Nat.le_of_lt (by rw[show((wr.alloc (.cells #[.int .u32 (IntKind.u32.wrap (xh+xv))] 281)).drew).heap.size=wr.heap.size+1 from Az _ _];omega))) (fun j hj=>oh HO hj));have OX:=Hi T9;have Vr:=AJ.size;rw[show((wr.alloc (.cells #[.int .u32 (IntKind.u32.wrap (xh+xv))] 281)).drew).heap.size=wr.heap.size+1 from Az _ _] at Vr;clear T9 AJ hat ch cv;go_wp2;go_roundw
      case rel=>
       repeat apply Exists.intro
       refine⟨?aBj,rfl⟩
       case aBj=>
        refine⟨k+1,by omega,by go_num,?_,Wl,Ny,by omega⟩;rw[aCS h V k hlt,HX.1,HX.2,show RX ((sumTo h V 8).take k++[(xh+xv) % 4294967296])=RX ((sumTo h V 8).take k)++[.int .u32 ((xh+xv) % 4294967296)] by unfold RX;rw[CQ];rfl,←wrap32];exact OX.out
      case measure=>first|(simp[intOf];done)|(simp[intOf];omega)
    ·obtain rfl:k=8:=(by omega);go_wp2;go_ret;obtain⟨gq,aiT,e1,hbq,_⟩:∃ gq aiT,(Value.slice oq 8 Hw)=.slice (some ⟨gq,0,none⟩) 8 aiT∧R≤gq∧True:=by
      rcases hown.2 with⟨e0,e1⟩|⟨g,cap,cur,e0,hb,_⟩
      ·cases e1
      ·exact⟨g,cap,e0,hb,trivial⟩
     injection e1 with e1 _ e2
     subst e1 e2;refine⟨gq,Hw,rfl,by have:=jf.size;omega,?_,jf.trans (Rf.mono jf.size)⟩;have e3:(sumTo h V 8).take 8=Qf h b:=by
      rw[Gx (by rw[oF];exact Ag 8),←HVE.out];rfl
     rw[e3] at hown;exact aqf hown
