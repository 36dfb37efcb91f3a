/- LinW LaySp RUnh LinR FckDoor BadW DepC DepE DepF DepD -/
import Derived.Test.YtkmninbcgipliaaGreatDoorQ15
import Derived.Shelf.Strings.Split
import Derived.Test.YtkmninbcgipliaaGreatDoorRows
import Derived.LaidMore
import Derived.OpenShut
import Derived.Lay
import Derived.Stop.Joined
import Derived.HandedShaped
import Derived.Shelf.Vars
set_option maxHeartbeats 8000000
set_option maxRecDepth 100000
set_option linter.all false
namespace Go.Proofs.YtkmninbcgipliaaGreatDoor
open Go.Proofs.Tryz hiding t1 t2
open Go.RowKit
namespace ER
open Go.Maps
open Aq Af Ap Bu Kp BM Hex BD Al Mem Cg
def Km:Array Value:=#[.string { data:=#[63] },.string { data:=#[109,101,109,111] },.string { data:=#[117,115,101] },.string { data:=#[119,97,110,116] },.string { data:=#[108,111,111,115,101] }]
theorem anO(k:Nat)(hk:k < 5):Km[k]?=some (.string (bs (word k))):=by
 match k,hk with
 |0,_=>rfl
 |1,_=>rfl
 |2,_=>rfl
 |3,_=>rfl
 |4,_=>rfl
theorem anN{k:Nat}(hk:¬ k < 5):word k=[63]:=by
 unfold word;split<;>first|omega|rfl
theorem anQ(w:World):Calls prog 30 #[] w fun e w'=>e=.returned (.agg Km)∧Bw w w':=by
 have HB:=Hi (AV w (.cells Km 83))
 go_in
 go_wp2_with fail;exact EI (v:=.agg Km) (by simp[results,results30,go_sem,Km]) rfl ⟨rfl,HB⟩
theorem ag7(s:T)(w:World)(hs:s.length≤1000000):Calls prog 34 #[.string (bs s)] w fun e w'=>e=.returned (.string (bs (E9 s)))∧Bw w w':=by
 unfold E9;by_cases h:s=[]
 ·rw[Ac h];subst h
  go_in
  go_wp2;go_ret;exact⟨rfl,Ah _ _⟩
 ·rw[Aa h];have hne:s.isEmpty=false:=by
   cases s with
   |nil=>exact absurd rfl h
   |cons a s=>rfl
  have HX:=Hi (aau s w (by omega));clear h
  go_in
  go_wp2_with fail;refine HX.mono ?_;rintro e w1⟨rfl,hb⟩;have HB:=Hi hb;clear hb;go_wp2;go_ret;exact⟨rfl,HB⟩
theorem am4(s:T)(w:World)(hs:s.length≤1000000):Calls prog 35 #[.string (bs s)] w fun e w'=>e=.returned (.string (bs (E9 s)))∧Bw w w':=by
 unfold E9;by_cases h:s=[]
 ·rw[Ac h];subst h
  go_in
  go_wp2;go_ret;exact⟨rfl,Ah _ _⟩
 ·rw[Aa h];have hne:s.isEmpty=false:=by
   cases s with
   |nil=>exact absurd rfl h
   |cons a s=>rfl
  have HX:=Hi (acv s w hs (List.length_pos_iff.2 h));clear h
  go_in
  go_wp2_with fail;refine HX.mono ?_;rintro e w1⟨rfl,hb⟩;have HB:=Hi hb;clear hb;go_wp2;go_ret;exact⟨rfl,HB⟩
theorem cz(s:T):(E9 s).length≤2*s.length+1:=by
 unfold E9;split
 ·simp
 ·rw[Rx];omega
theorem adp(k:Nat):(word k).length≤5:=by
 unfold word;split<;>decide
def Ih(b:Br):Obj:=.cells #[.int .u8 (b.1:Int),.string (bs b.2.1),.string (bs b.2.2)] 23
theorem yn{w0 V:World}{g:Nat}{b:Br}(h:w0.heap[g]?=some (Ih b))(hb:Bw w0 V):V.cell? ⟨g,0,none⟩=some (.int .u8 (b.1:Int))∧V.cell? ⟨g,1,none⟩=some (.string (bs b.2.1))∧V.cell? ⟨g,2,none⟩=some (.string (bs b.2.2)):=by
 have h2:=(hb.block g (Dm.1 h).1).trans h;unfold Ih at h2;exact⟨cr h2,cr h2,cr h2⟩
theorem p9(b:Br)(w:World)(h0:b.1≤255)(h1:b.2.1.length≤1000000)(h2:b.2.2.length≤1000000):Calls prog 9 #[.agg #[.int .u8 (b.1:Int),.string (bs b.2.1),.string (bs b.2.2)]] w fun e w'=>e=.returned (.string (bs (Gs b)))∧Bw w w':=by
 have AR:=Hi (AV w (Ih b));have HC:=Hi (fun(V:World) (hV:Below (w.alloc (Ih b)).heap.size (w.alloc (Ih b)) V)=>yn (AP w (Ih b)) hV);have Nu:=Hi (show Gs b=word b.1++[32]++E9 b.2.1++[32]++E9 b.2.2 from rfl);obtain⟨w0,ED⟩:=ex (w.alloc (Ih b));rw[ED] at AR HC;obtain⟨c0,c1,c2⟩:=HC _ (Ah _ _);obtain⟨k,who,key⟩:=b;dsimp only at*;rw[Nu.out];obtain⟨wd,VX⟩:=ex (word k);rw[VX];have Rk:=Hi VX;have RH:wd.length≤5:=by rw[←VX];exact adp k
 clear VX Nu;unfold Ih at ED;dsimp only at ED
 go_in
 go_wp2_with fail;refine(anQ _).mono ?_;rintro e w2⟨rfl,Ad⟩;have Ak:=Hi (Ad.trans ((AV w2 (.cells Km 83)).mono Ad.size));have HW:=Hi (AP w2 (.cells Km 83));obtain⟨w3,ZC⟩:=ex (w2.alloc (.cells Km 83));rw[ZC] at Ak HW;obtain⟨d0,d1,d2⟩:=HC _ Ak.out;clear c0 c1 c2 Ad ED;have HE:=Hi (fun j (hj:j < 5)=>show w3.cell? ⟨w2.heap.size,j,none⟩=some (.string (bs (word j))) from by rw[BF _ _ _ _ _ _ HW.out];exact anO j hj);unfold Km at ZC;unfold Km;have Ee:(E9 who).length≤2000001:=by have:=cz who;omega
 have Ea:(E9 key).length≤2000001:=by have:=cz key;omega
 have Zz:({ data:=#[32] }:ByteArray)=bs [32]:=rfl;have AO:=Hi Ak.drew;have AU:=Hi Ak.out;by_cases hk:k < 5
 case' pos=>
  have qW:(k:Int) < 5:=by omega
  have e:=HE k hk;rw[Rk.out] at e
 case' neg=>
  have qW:¬ (k:Int) < 5:=by omega
  have HQ:=Hi (show Value.string ({ data:=#[63] }:ByteArray)=.string (bs wd) from by rw[←Rk.out,anN hk];rfl)
 all_goals
  clear hk;go_wp2_with fail;try rw[HQ.out]
  have s1:wd.length+1≤1000000000:=by omega
  have s3:wd.length+((E9 who).length+1)+1≤1000000000:=by omega
  have s4:wd.length+((E9 who).length+1+1)+(E9 key).length≤1000000000:=by omega
  have HS:=Hi (fun(V:World) (hb:Bw w0 V)=>(HC V hb).2);refine wp_region_held (S:=fun V:World=>V.cell? ⟨w.heap.size,1,none⟩=some (.string (bs who))∧V.cell? ⟨w.heap.size,2,none⟩=some (.string (bs key))) (by kernel_rfl) ?_;refine Av 0 (HS _ AO) ?_;refine Ya 1 (l:=wd) (k:=[32]) (HS _ AO) (by simp;omega) rfl rfl ?_;refine Av 2 (HS _ AO) ?_;refine Av 3 (HS _ AO) ?_;refine Av 7 (HS _ AO) ?_;refine Av 8 (HS _ AO) ?_;refine Nh 4 (fun K1 Il=>?_);go_simp;refine(ag7 _ _ (by assumption)).mono ?_;rintro e w5⟨rfl,Bo⟩;have Dt:=bH AO Bo;clear Bo;refine Il _ _ (HS _ Dt) ?_;try simp only[Act.put,np]
  refine Ya 5 (l:=wd++[32]) (k:=E9 who) (HS _ Dt) (by simp;omega) rfl rfl ?_;refine Ya 6 (l:=wd++[32]++E9 who) (k:=[32]) (HS _ Dt) (by simp;omega) rfl rfl ?_;refine Nh 9 (fun K2 Df=>?_);go_simp;refine(ag7 _ _ (by assumption)).mono ?_;rintro e w6⟨rfl,Cb⟩;have O8:=bH Dt Cb;clear Cb;refine Df _ _ (HS _ O8) ?_;try simp only[Act.put,np]
  refine Ya 10 (l:=wd++32 :: (E9 who++[32])) (k:=E9 key) (HS _ O8) (by simp;omega) rfl rfl ?_;refine Av 11 (HS _ O8) ?_;refine wpAnyH_done (by kernel_rfl) ?_ _;clear Il K1 Df K2;go_wp2;go_ret;refine⟨?_,AR.trans (O8.mono AR.size)⟩;simp
theorem ama(b:Br)(w:World)(h0:b.1≤255)(h1:b.2.1.length≤1000000)(h2:b.2.2.length≤1000000):Calls prog 10 #[.agg #[.int .u8 (b.1:Int),.string (bs b.2.1),.string (bs b.2.2)]] w fun e w'=>e=.returned (.string (bs (Gs b)))∧Bw w w':=by
 have CY:=AV (w.alloc (Ih b)) (.cells Km 9);have HW:=Hi (AP (w.alloc (Ih b)) (.cells Km 9));have Dz:=Hi (Ar w (Ih b));have AR:=Hi ((AV w (Ih b)).trans (CY.mono (AV w (Ih b)).size));have HC:=Hi (fun(V:World) (hV:Below ((w.alloc (Ih b)).alloc (.cells Km 9)).heap.size ((w.alloc (Ih b)).alloc (.cells Km 9)) V)=>yn ((CY.block w.heap.size (by rw[Ar];omega)).trans (AP w (Ih b))) hV);have Nu:=Hi (show Gs b=word b.1++[32]++E9 b.2.1++[32]++E9 b.2.2 from rfl);obtain⟨w3,ZC⟩:=ex ((w.alloc (Ih b)).alloc (.cells Km 9));rw[ZC] at AR HC HW;have HE:=Hi (fun j (hj:j < 5)=>show w3.cell? ⟨w.heap.size+1,j,none⟩=some (.string (bs (word j))) from by rw[←Dz.out,BF _ _ _ _ _ _ HW.out];exact anO j hj);obtain⟨d0,d1,d2⟩:=HC _ (Ah _ _);obtain⟨k,who,key⟩:=b;dsimp only at*;rw[Nu.out];obtain⟨wd,VX⟩:=ex (word k);rw[VX];have Rk:=Hi VX;have RH:wd.length≤5:=by rw[←VX];exact adp k
 clear VX Nu CY;unfold Ih Km at ZC;dsimp only at ZC;have Ee:(E9 who).length≤2000001:=by have:=cz who;omega
 have Ea:(E9 key).length≤2000001:=by have:=cz key;omega
 have Zz:({ data:=#[32] }:ByteArray)=bs [32]:=rfl;have AO:=Hi ((Ah w3.heap.size w3).drew);have AU:=Hi (Ah w3.heap.size w3);have s1:wd.length+1≤1000000000:=by omega
 have s3:wd.length+((E9 who).length+1)+1≤1000000000:=by omega
 have s4:wd.length+((E9 who).length+1+1)+(E9 key).length≤1000000000:=by omega
 go_in
 by_cases hk:k < 5
 case' pos=>
  have qW:(k:Int) < 5:=by omega
  have e:=HE k hk;rw[Rk.out] at e
 case' neg=>
  have qW:¬ (k:Int) < 5:=by omega
  have HQ:=Hi (show Value.string ({ data:=#[63] }:ByteArray)=.string (bs wd) from by rw[←Rk.out,anN hk];rfl)
 all_goals
  clear hk;go_wp2_with fail;try rw[HQ.out]
  have HS:=Hi (fun(V:World) (hb:Bw w3 V)=>(HC V hb).2);refine wp_region_held (S:=fun V:World=>V.cell? ⟨w.heap.size,1,none⟩=some (.string (bs who))∧V.cell? ⟨w.heap.size,2,none⟩=some (.string (bs key))) (by kernel_rfl) ?_;refine Av 0 (HS _ AO) ?_;refine Ya 1 (l:=wd) (k:=[32]) (HS _ AO) (by simp;omega) rfl rfl ?_;refine Av 2 (HS _ AO) ?_;refine Av 3 (HS _ AO) ?_;refine Av 7 (HS _ AO) ?_;refine Av 8 (HS _ AO) ?_;refine Nh 4 (fun K1 Il=>?_);go_simp;refine(am4 _ _ (by assumption)).mono ?_;rintro e w5⟨rfl,Bo⟩;have Dt:=bH AO Bo;clear Bo;refine Il _ _ (HS _ Dt) ?_;try simp only[Act.put,np]
  refine Ya 5 (l:=wd++[32]) (k:=E9 who) (HS _ Dt) (by simp;omega) rfl rfl ?_;refine Ya 6 (l:=wd++[32]++E9 who) (k:=[32]) (HS _ Dt) (by simp;omega) rfl rfl ?_;refine Nh 9 (fun K2 Df=>?_);go_simp;refine(am4 _ _ (by assumption)).mono ?_;rintro e w6⟨rfl,Cb⟩;have O8:=bH Dt Cb;clear Cb;refine Df _ _ (HS _ O8) ?_;try simp only[Act.put,np]
  refine Ya 10 (l:=wd++32 :: (E9 who++[32])) (k:=E9 key) (HS _ O8) (by simp;omega) rfl rfl ?_;refine Av 11 (HS _ O8) ?_;refine wpAnyH_done (by kernel_rfl) ?_ _;clear Il K1 Df K2;go_wp2;go_ret;refine⟨?_,AR.trans (O8.mono AR.size)⟩;simp
theorem aAC(s:T)(h:s≠[45]):JS s=if(F3 s).isSome=true∧s≠[] then F3 s else none:=by
 unfold JS;rw[Aa h];by_cases e:s=[]
 ·rw[Ac e,Aa (fun f=>f.2 e)]
 ·rw[Aa e];cases hu:F3 s with
  |none=>rw[Aa (by simp)]
  |some t=>rw[Ac ⟨rfl,e⟩]
end ER
section
open Go.Shelf
def asl:Go.Shelf.Ren:=⟨fun|146=>29|221=>85|268=>170|138=>171|143=>172|195=>232|197=>233|218=>234|219=>235|260=>268|217=>269|225=>270|224=>271|267=>272|266=>279|314=>280|n=>n,fun|9=>9|31=>61|3=>3|4=>4|0=>0|105=>310|21=>21|5=>5|46=>214|119=>343|139=>346|138=>345|146=>347|51=>281|n=>n,fun|1=>0|3=>1|4=>2|n=>n⟩
theorem asj:Go.Proofs.Lays.n146 prog asl:={
 mixed:=by kernel_rfl
 f138:=func171.trans (congrArg some (by kernel_rfl))
 f143:=func172.trans (congrArg some (by kernel_rfl))
 f146:=func29.trans (congrArg some (by kernel_rfl))
 f195:=func232.trans (congrArg some (by kernel_rfl))
 f197:=func233.trans (congrArg some (by kernel_rfl))
 f217:=func269.trans (congrArg some (by kernel_rfl))
 f218:=func234.trans (congrArg some (by kernel_rfl))
 f219:=func235.trans (congrArg some (by kernel_rfl))
 f221:=func85.trans (congrArg some (by kernel_rfl))
 f224:=func271.trans (congrArg some (by kernel_rfl))
 f225:=func270.trans (congrArg some (by kernel_rfl))
 f260:=func268.trans (congrArg some (by kernel_rfl))
 f266:=func279.trans (congrArg some (by kernel_rfl))
 f267:=func272.trans (congrArg some (by kernel_rfl))
 f268:=func170.trans (congrArg some (by kernel_rfl))
 f314:=func280.trans (congrArg some (by kernel_rfl))
 t0:=underlying0
 a0:=Tryz.isAgg0
 z0:=Tryz.sizeOf0
 v0:=Tryz.zeroValue0
 t3:=underlying3
 a3:=Tryz.isAgg3
 z3:=Tryz.sizeOf3
 v3:=Tryz.zeroValue3
 t4:=underlying4
 a4:=Tryz.isAgg4
 z4:=Tryz.sizeOf4
 v4:=Tryz.zeroValue4
 t5:=underlying5
 a5:=Tryz.isAgg5
 z5:=Tryz.sizeOf5
 v5:=Tryz.zeroValue5
 t9:=underlying9
 a9:=Tryz.isAgg9
 z9:=Tryz.sizeOf9
 v9:=Tryz.zeroValue9
 t21:=underlying21
 a21:=Tryz.isAgg21
 z21:=Tryz.sizeOf21
 v21:=Tryz.zeroValue21
 t31:=underlying61
 a31:=Tryz.isAgg61
 z31:=Tryz.sizeOf61
 v31:=Tryz.zeroValue61
 t46:=underlying214
 a46:=Tryz.isAgg214
 z46:=Tryz.sizeOf214
 v46:=Tryz.zeroValue214
 t51:=underlying281
 a51:=Tryz.isAgg281
 z51:=Tryz.sizeOf281
 v51:=Tryz.zeroValue281
 t105:=underlying310
 a105:=Tryz.isAgg310
 z105:=Tryz.sizeOf310
 v105:=Tryz.zeroValue310
 t119:=underlying343
 a119:=Tryz.isAgg343
 z119:=Tryz.sizeOf343
 t138:=underlying345
 a138:=Tryz.isAgg345
 z138:=Tryz.sizeOf345
 v138:=Tryz.zeroValue345
 t139:=underlying346
 a139:=Tryz.isAgg346
 z139:=Tryz.sizeOf346
 v139:=Tryz.zeroValue346
 t146:=underlying347
 a146:=Tryz.isAgg347
 z146:=Tryz.sizeOf347
 v146:=Tryz.zeroValue347
 g1:=by kernel_rfl
 g3:=by kernel_rfl
 g4:=by kernel_rfl }
end
namespace Hex
open Go.Maps
open Af Ap BD
def OP(c:UInt8):Int:=match val c with
 |some x=>(x:Int)
 |none=> -1
theorem acr(c:UInt8)(w:World):Calls prog 87 #[.int .u8 (c.toNat:Int)] w fun e w'=>e=.returned (.int .i64 (OP c))∧w=w':=by
 have hc:=c.toNat_lt;by_cases h1:48≤c.toNat∧c.toNat≤57
 ·have hv:Hid (OP c=((c.toNat -48:Nat):Int)):=Hi (by unfold OP val;rw[Ac h1]);have a1:(48:Int)≤(c.toNat:Int):=by omega
  have a2:(c.toNat:Int)≤57:=by omega
  have a3:IntKind.u8.wrap ((c.toNat:Int) -48)=((c.toNat -48:Nat):Int):=by rw[show IntKind.u8.wrap ((c.toNat:Int) -48)=((c.toNat:Int) -48) % 256 by simp[IntKind.wrap,IntKind.bits,IntKind.signed]];omega
  rw[hv.out];clear h1
  go_in
  go_wp2;go_ret;exact⟨rfl,rfl⟩
 ·by_cases h2:97≤c.toNat∧c.toNat≤102
  ·have hv:Hid (OP c=((c.toNat -87:Nat):Int)):=Hi (by unfold OP val;rw[Aa h1,Ac h2]);have a1:(48:Int)≤(c.toNat:Int):=(by omega);have a2:¬ (c.toNat:Int)≤57:=(by omega);have a4:(97:Int)≤(c.toNat:Int):=(by omega);have a5:(c.toNat:Int)≤102:=(by omega);have a6:IntKind.u8.wrap ((c.toNat:Int) -97)=((c.toNat -97:Nat):Int):=(by rw[show IntKind.u8.wrap ((c.toNat:Int) -97)=((c.toNat:Int) -97) % 256 by simp[IntKind.wrap,IntKind.bits,IntKind.signed]];omega);have a7:((c.toNat -97:Nat):Int)+10=((c.toNat -87:Nat):Int):=(by omega);rw[hv.out];clear h1 h2
   go_in
   go_wp2;go_ret;exact⟨rfl,rfl⟩
  ·have hv:Hid (OP c= -1):=Hi (by unfold OP val;rw[Aa h1,Aa h2]);rw[hv.out];by_cases b1:48≤c.toNat
   ·have a1:(48:Int)≤(c.toNat:Int):=(by omega);have a2:¬ (c.toNat:Int)≤57:=(by omega);by_cases b2:97≤c.toNat
    ·have a4:(97:Int)≤(c.toNat:Int):=(by omega);have a5:¬ (c.toNat:Int)≤102:=(by omega);clear h1 h2 b1 b2
     go_in
     go_wp2;go_ret;exact⟨rfl,rfl⟩
    ·have a4:¬ (97:Int)≤(c.toNat:Int):=(by omega);clear h1 h2 b1 b2
     go_in
     go_wp2;go_ret;exact⟨rfl,rfl⟩
   ·have a1:¬ (48:Int)≤(c.toNat:Int):=(by omega);have a4:¬ (97:Int)≤(c.toNat:Int):=(by omega);clear h1 h2 b1
    go_in
    go_wp2;go_ret;exact⟨rfl,rfl⟩
theorem az9(W:World):(convert 54 9 (.slice none 0 0)).run prog W=.ok (.string (bs [])) W:=by
 rw[run_convert_bytes_string W 54 9 5 none 0 0 underlying54 underlying5 underlying9];rfl
theorem amv(s:T)(w:World)(hs:s.length≤1000000):Calls prog 33 #[.string (bs s)] w fun e w'=>e=.returned (.tuple #[.string (bs (He s).1),.int .i64 (He s).2])∧Bw w w':=by
 obtain⟨i0,Bg,AX,AY,Ba⟩:=DI YS;by_cases QC:s.length % 2=1
 ·have hR:Hid (He s=([],7)):=Hi (by unfold He;rw[ad8 _ s (Ae _) QC]);have hm:(s.length:Int).tmod 2=1:=by rw[Int.tmod_eq_emod_of_nonneg (by omega)];omega
  have Kb:(s.length:Int) % 2=1:=by omega
  rw[hR.out];clear QC
  go_in
  go_wp2;go_ret2;exact⟨rfl,Ah _ _⟩
 ·have hm:(s.length:Int).tmod 2=0:=by rw[Int.tmod_eq_emod_of_nonneg (by omega)];omega
  have Kb:(s.length:Int) % 2=0:=by omega
  have vX:=Hi QC;clear QC
  go_in
  go_wp2
  go_loopw [4,5] (fun o i wr=>∃ (m n:Nat) (S:T),m % 2=0∧m≤s.length∧S.length=n∧2*n=m∧i=.int .i64 (m:Int)∧(m=0→o=.slice none 0 0)∧F3 s=(F3 (s.drop m)).map (S++ ·)∧wr.ownsRow w.heap.size 5 1 o n (Cc S)∧Bw w wr) (fun _ i _=>s.length -(intOf i).toNat)
  case atStart=>exact⟨0,0,[],rfl,AZ _,rfl,rfl,rfl,fun _=>rfl,by simp,by rw[Yd];exact E5 _ _ _ _,Ah _ _⟩
  case round=>
   obtain⟨m,n,S,RB,hk,Px,hn,rfl,h0,NI,hown,hb⟩:=hrel;obtain⟨oq,Ha,rfl⟩:=Bp hown;have HO:=Hi hown;have HB:=Hi hb;have MH:=Hi Px;have HM:=Hi RB;have HN:=Hi hn;have H0:=Hi h0;by_cases hlt:m < s.length
   ·have RA:m+1 < s.length:=(by have:=vX.out;omega);have Bl:=ant RA NI;have dD:(m:Int)+1 < (s.length:Int):=(by omega);have dH:(0:Int)≤(m:Int)+1:=(by omega);have JH:n≤1000000:=(by omega);have auF:∀ W,(Instr.index 9 (.string (bs s)) (.int .i64 (m:Int))).run prog W=.ok (.int .u8 (s[m].toNat:Int)) W:=fun W=>lH (bs s) .i64 m (by simpa using hlt) W
    have qV:∀ W,(Instr.index 9 (.string (bs s)) (.int .i64 ((m:Int)+1))).run prog W=.ok (.int .u8 (s[m+1].toNat:Int)) W:=fun W=>lH (bs s) .i64 (m+1) (by simpa using RA) W
    have Jr:IntKind.i64.wrap ((m:Int)+1)=(m:Int)+1:=Eh _ (by omega);have Bi:=Hi Bl;generalize s[m]=x1 at*;generalize s[m+1]=x2 at*;have KU:Bw wr wr.drew:=(Ah _ _).drew;have HOD:=Hi (HO.drew);have Dt:=bH HB KU;clear Bl NI hown hb Px RB hn h0 hk KU;cases J4:val x1 with
    |none=>
     have e1:OP x1= -1:=(by unfold OP;rw[J4]);have hR:Hid (He s=([],7)):=Hi (by unfold He;rw[Bi.out,J4]);clear J4 Bi;go_wp2
     go_region_held3 (fun _=>True) (exact trivial) (first|(go_at_call 87;refine(acr _ _).mono ?_;rintro e wd ⟨rfl,rfl⟩))
     all_goals
      go_wp2;go_ret2;rw[hR.out];exact⟨rfl,Dt⟩
    |some x=>
     have e1:OP x1=(x:Int):=(by unfold OP;rw[J4]);have n1:¬ (x:Int) < 0:=(by omega);cases Gr:val x2 with
     |none=>
      have e2:OP x2= -1:=(by unfold OP;rw[Gr]);have hR:Hid (He s=([],7)):=Hi (by unfold He;rw[Bi.out,J4,Gr]);clear J4 Gr Bi;go_wp2
      go_region_held3 (fun _=>True) (exact trivial) (first|(go_at_call 87;refine(acr _ _).mono ?_;rintro e wd ⟨rfl,rfl⟩))
      all_goals
       go_wp2;go_ret2;rw[hR.out];exact⟨rfl,Dt⟩
     |some y=>
      have e2:OP x2=(y:Int):=(by unfold OP;rw[Gr]);have n2:¬ (y:Int) < 0:=(by omega);have hx:x < 16:=Jb J4;have hy:y < 16:=Jb Gr;have BO:=Hi (show F3 s=(F3 (s.drop (m+2))).map ((S++[UInt8.ofNat (16*x+y)])++ ·) from by rw[Bi.out,J4,Gr]);have aj4:(UInt8.ofNat (16*x+y)).toNat=16*x+y:=(by rw[UInt8.toNat_ofNat'];exact Nat.mod_eq_of_lt (by omega));have PE:IntKind.u8.wrap (16*(x:Int)+(y:Int))=((UInt8.ofNat (16*x+y)).toNat:Int):=(by rw[aj4,show IntKind.u8.wrap (16*(x:Int)+(y:Int))=(16*(x:Int)+(y:Int)) % 256 by simp[IntKind.wrap,IntKind.bits,IntKind.signed]];omega);have ZC:IntKind.i64.wrap (16*(x:Int))=16*(x:Int):=Eh _ (by omega);have Io:IntKind.i64.wrap (16*(x:Int)+(y:Int))=16*(x:Int)+(y:Int):=Eh _ (by omega);clear J4 Gr Bi aj4;generalize UInt8.ofNat (16*x+y)=z at*;go_wp2
      go_region_held3 (fun _=>True) (exact trivial) (first|(go_at_call 87;refine(acr _ _).mono ?_;rintro e wd ⟨rfl,rfl⟩))
      all_goals
       generalize wr.drew=wd at*;go_wp2_with (at_builtin;refine wpList_append_own_at _ rfl _ _ 54 rfl w.heap.size 5 i0 _ 1 1 underlying54 Bg AX AY Ba rfl (by decide) _ n _ rfl (HOD.alloc _) ⟨wd.heap.size,0,none⟩ 1 1 [.int .u8 (z.toNat:Int)] rfl rfl (by intro j u hj;rw[add_plain,E8];exact(Dx▸hj)) (by simp[Value.oneCell']) (by unfold maxLen;omega) (by omega) (by have:=Dt.size;rw[Ar];omega) ?_;intro v' w5 hown AJ _ _;obtain⟨g',cap',rfl⟩:=ownsRow_succ hown;have Sz:=Hi hown;have P5:=Hi AJ;clear hown AJ);have Cy:=Hi ((Dt.alloc Dt.size (.cells #[.int .u8 (z.toNat:Int)] 5)).grown P5 (by rw[Ar];have:=Dt.size;omega) (fun j hj=>lC HOD hj));go_roundw
       case rel=>exact⟨m+2,n+1,S++[z],by have:=HM.out;omega,by omega,by rw[Az,MH.out];rfl,by have:=HN.out;omega,by go_num,fun e=>by omega,BO,by rw[Yc,show Cc [z]=[.int .u8 (z.toNat:Int)] by rw[fD,Yd]];exact Sz.out,Cy⟩
       case measure=>simp[intOf];omega
   ·obtain rfl:m=s.length:=(by omega);have hR:Hid (He s=(S,0)):=Hi (by unfold He;rw[NI,List.drop_length];simp[F3]);by_cases XD:n=0
    ·have ji:S=[]:=JW.1 (by omega);have MX:s=[]:=JW.1 (by omega);have j4:=h0 (by omega);injection j4 with e1 e2 e3
     subst e1 e2 e3 ji MX;have PE:=az9 wr;clear NI hown hb Px RB hn h0 hk;go_wp2;go_ret2;rw[hR.out];exact⟨rfl,HB⟩
    ·obtain⟨gq,e1⟩:∃ gq,oq=some ⟨gq,0,none⟩:=by
      rcases hown.2 with⟨e0,e1⟩|⟨g,cap,cur,e0,hb,_⟩
      ·omega
      ·injection e0 with e0;exact⟨g,e0⟩
     subst e1;have PE:=Y3 prog wr 54 5 9 underlying54 underlying5 underlying9 gq 0 n Ha S Px (fun i hi=>by rw[GJ];exact yD Px hown i hi);clear NI hown hb Px RB hn h0 hk XD;go_wp2;go_ret2;rw[hR.out];exact⟨rfl,HB⟩
end Hex
namespace ER
open Go.Maps
open Aq Af Ap Bu Kp BM Hex BD Al Mem Cg
def Vm(w:World):Prop:=∃ m,w.cell? ⟨0,0,none⟩=some (.int .i64 m)
theorem Vm.below{w w':World}(h:Vm w)(hb:Bw w w'):Vm w':=by
 obtain⟨m,hm⟩:=h;exact⟨m,(hb.cell (D7 hm)).trans hm⟩
theorem amV(s:T):Go.Lib.splitB (bs [32]) 0 (Go.Lib.countB (bs s) (bs [32])) (bs s)=(parts s).map bs:=by
 have h:=Go.Lib.splitB_data (bs [32]) 0 (Go.Lib.countB (bs s) (bs [32])) (bs s);have e:∀ l:List ByteArray,(l.map (·.data.toList)).map bs=l:=fun l=>by
  rw[Ko];refine(Q3 fun x _=>?_).trans (List.map_id l);rfl
 rw[←e (Go.Lib.splitB _ _ _ _),h]
 congr 1
 exact azS s
theorem azT(s:T)(w:World)(hs:s.length≤1000000)(hm:Vm w):
  Calls prog 29 #[.string (bs s),.string (bs [32])] w fun e w'=>e=.returned (.slice (some ⟨w.heap.size,0,none⟩) (parts s).length (parts s).length)∧Dv w' (some ⟨w.heap.size,0,none⟩) (parts s)∧Bw w w':=by
 obtain⟨m,hm⟩:=hm;have hi9:(prog.info? 9).map (fun i=>(i.zero,i.size,i.bytes))=some (some (.string ByteArray.empty),1,16):=by kernel_rfl
 refine(Any.strings_Split asj hi9 (bs s) (bs [32]) m w (by rw[yw];omega) hm (by decide)).mono ?_;rintro e w'⟨rfl,rfl⟩;have hlen:Go.Lib.countB (bs s) (bs [32])+1=(parts s).length:=by
  have h:=Go.Lib.splitB_all (bs [32]) (by decide) 0 _ (bs s) rfl;rw[amV,Ca] at h;exact h.symm
 rw[hlen,amV];refine⟨rfl,fun i hi=>?_,AV _ _⟩;refine⟨_,rfl,?_⟩;rw[add_plain,BF _ _ _ _ _ _ (AP w _)];simp[hi]
def Wd(l:List T)(k:T):Int:=match l.findIdx? (· == k) with
 |some i=>(i:Int)
 |none=> -1
theorem avL{l:List T}{k:T}{n:Nat}(hn:n < l.length)(h:l[n]=k)(Cv:k∉l.take n):Wd l k=(n:Int):=by
 have:l.findIdx? (· == k)=some n:=List.findIdx?_eq_some_iff_getElem.2 ⟨hn,by simpa using h,fun j hj=>by
  have:l[j]'(by omega)≠k:=fun e=>Cv (List.mem_take_iff_getElem.2 ⟨j,by omega,e⟩)
  simpa using this⟩
 unfold Wd;rw[this]
theorem ajZ{l:List T}{k:T}(h:k∉l):Wd l k= -1:=by
 have:l.findIdx? (· == k)=none:=List.findIdx?_eq_none_iff.2 fun x hx=>by
  have:x≠k:=fun e=>h (by rw[←e];exact hx)
  simpa using this
 unfold Wd;rw[this]
theorem aAp{w:World}{a:Option Addr}{l:List T}(cap:Nat)(hl:Dv w a l)(k:T)(hlen:l.length≤1000000000):
  Calls prog 31 #[.slice a l.length cap,.string (bs k)] w fun e w'=>e=.returned (.int .i64 (Wd l k))∧Bw w w':=by
 have HL:=Hi hl;clear hl
 go_in
 go_wp2
 go_loopw [5,8] (fun _ i wr=>∃ n:Nat,n≤l.length∧i=.int .i64 n∧Bw w wr∧k∉l.take n) (fun _ i _=>l.length -(intOf i).toNat)
 case atStart=>exact⟨0,AZ _,rfl,Ah _ _,by simp⟩
 case round=>
  obtain⟨n,hn,rfl,hb,Cv⟩:=hrel;have DJ:=Hi Cv;have HB:=Hi hb;clear Cv;by_cases hlt:n < l.length
  ·obtain⟨q,Cx,c0⟩:=(HL.below hb).index cap n hlt;have Lb:=Hi (fun h:l[n]=k=>avL hlt h DJ)
   have Dh:=Hi (show k≠l[n]→k∉l.take (n+1) from fun h=>by
    rw[CQ hlt,EG];rintro(e|e)
    ·exact DJ e
    ·exact h (by simpa using e))
   generalize l[n]=x at*;clear hb;by_cases hx:k=x
   ·have HE:=Hi (Lb hx.symm);subst hx;go_wp2;go_ret;exact⟨by rw[HE.out];rfl,HB⟩
   ·have Zu:(k == x)=false:=EH.2 hx;have HN:=Hi (Dh hx);clear Dh Lb;go_wp2;go_roundw
    case rel=>exact⟨n+1,by omega,by go_num,HB,HN⟩
    case measure=>simp[intOf];omega
  ·obtain rfl:n=l.length:=by omega
   have HE:=Hi (show Wd l k= -1 from ajZ (by
    have:=DJ.out;rwa[Dq] at this))
   clear hb;go_wp2;go_ret;exact⟨by rw[HE.out];rfl,HB⟩
def ma:List T:=[word 0,word 1,word 2,word 3,word 4]
theorem avM(a:T):(kindOf a=none∧Wd ma a < 1)∨∃ k:Nat,kindOf a=some k∧Wd ma a=(k:Int)∧1≤k∧k≤4:=by
 by_cases h1:a=word 1
 ·subst h1;exact .inr ⟨1,by decide,by decide,by decide,by decide⟩
 by_cases h2:a=word 2
 ·subst h2;exact .inr ⟨2,by decide,by decide,by decide,by decide⟩
 by_cases h3:a=word 3
 ·subst h3;exact .inr ⟨3,by decide,by decide,by decide,by decide⟩
 by_cases h4:a=word 4
 ·subst h4;exact .inr ⟨4,by decide,by decide,by decide,by decide⟩
 refine .inl ⟨by unfold kindOf;rw[Aa h1,Aa h2,Aa h3,Aa h4],?_⟩;by_cases h0:a=word 0
 ·subst h0;decide
 ·rw[ajZ (by unfold ma;simp[h0,h1,h2,h3,h4])];decide
theorem zO(a:T)(h:a≠[45]):(He a).1=D8 a∧((He a).2 == 0 && !a.isEmpty)=(JS a).isSome:=by
 unfold He D8;rw[Aa h,aAC a h];cases hu:F3 a with
 |none=>exact⟨rfl,by simp⟩
 |some t=>
  refine⟨rfl,?_⟩;cases a with
  |nil=>simp
  |cons c a=>simp
theorem agx(s:T)(w:World)(hs:s.length≤1000000):Calls prog 32 #[.string (bs s)] w fun e w'=>e=.returned (.tuple #[.string (bs (D8 s)),.bool (JS s).isSome])∧Bw w w':=by
 by_cases h:s=[45]
 ·subst h;have hq:(({ data:=#[45] }:ByteArray) == { data:=#[45] })=true:=by decide
  go_in
  go_wp2;go_ret2;exact⟨rfl,Ah _ _⟩
 ·obtain⟨g1,g2⟩:=zO s h;rw[←g1,←g2];have HU:=Hi (ad9 s w (by omega));have Zz:({ data:=#[45] }:ByteArray)=bs [45]:=rfl;have hne:(s == [45])=false:=EH.2 h;clear h g1 g2;generalize He s=V at*
  go_in
  go_wp2_with fail;refine HU.mono ?_;rintro e w1⟨rfl,hb⟩;have HB:=Hi hb;clear hb;cases h0:(V.2 == 0);all_goals
   go_wp2;go_ret2;refine⟨?_,HB⟩;rw[h0];rfl
def bq(b:Nat×T×T):Value:=.agg #[.int .u8 (b.1:Int),.string (bs b.2.1),.string (bs b.2.2)]
def JN(s:T):Nat×T×T:=(DF s).getD (0,[],[])
def Nc(s:T):Int:=if(DF s).isSome=true then 0 else 7
theorem eP{fn:Func}{q u:Tmp}(h:fn.results=#[.cell q 23,.tmp u])(tmps:Array Value)(w:World)(g:Nat)(k:Int)(x y:ByteArray)(hq:tmps.getD q undef=.pointer (some ⟨g,0,none⟩))(c:w.heap[g]?=some (.cells #[.int .u8 k,.string x,.string y] 23)):
  (results fn tmps).run prog w=.ok (.tuple #[.agg #[.int .u8 k,.string x,.string y],tmps.getD u undef]) w:=by
 have c0:w.cell? ⟨g,0,none⟩=some (.int .u8 k):=cr c;have c1:w.cell? ⟨g,1,none⟩=some (.string x):=cr c;have c2:w.cell? ⟨g,2,none⟩=some (.string y):=cr c;rw[results_cell_tmp h,hq];go_simp
theorem bu{W:World}{g:Nat}{a b c a2 b2 c2:Value}(h:W.heap[g]?=some (.cells #[a,b,c] 23)):
  (((W.setCell ⟨g,0,none⟩ a2).setCell ⟨g,1,none⟩ b2).setCell ⟨g,2,none⟩ c2).heap[g]?=some (.cells #[a2,b2,c2] 23)∧A7 (fun j=>j=g) W (((W.setCell ⟨g,0,none⟩ a2).setCell ⟨g,1,none⟩ b2).setCell ⟨g,2,none⟩ c2):=by
 have h1:=Cf W g 0 _ _ a2 h;have h2:=Cf _ g 1 _ _ b2 h1;exact⟨Cf _ g 2 _ _ c2 h2,(((A7.refl (fun j=>j=g) W).setCell (p:=⟨g,0,none⟩) (.inl rfl) _).setCell (p:=⟨g,1,none⟩) (.inl rfl) _).setCell (p:=⟨g,2,none⟩) (.inl rfl) _⟩
def JV:Obj:=.cells #[.int .u8 0,.string { data:=#[] },.string { data:=#[] }] 23
theorem zy(s:T)(w:World)(hs:s.length≤100000)(hm:Vm w):Calls prog 7 #[.string (bs s)] w fun e w'=>e=.returned (.tuple #[bq (JN s),.int .i64 (Nc s)])∧Bw w w':=by
 have AR:=Hi (AV w JV);have BL:=Ar w JV;have Zz:=azT s (w.alloc JV) (by omega) (hm.below AR);rw[BL] at Zz;have SB:=Hi Zz;have HX:=Hi (fun(V:World) (hV:Below (w.alloc JV).heap.size (w.alloc JV) V)=>show V.heap[w.heap.size]?=some JV from(hV.block w.heap.size (by omega)).trans (AP w JV));have IV:=Hi (show ∀ a∈parts s,a.length≤100000 from fun a ha=>Ay (ald ha) hs);obtain⟨w0,ED⟩:=ex (w.alloc JV);rw[ED] at AR SB HX BL;have Dz:=Hi BL;clear BL Zz hm;unfold bq
 go_in
 unfold JV at ED;go_wp2_with fail;refine SB.mono ?_;rintro e w2⟨rfl,hta,Ad⟩;have Ak:=Hi (show Bw w0 w2 from by first|exact Ad|(rw[Dz.out];exact Ad));have il:=Hi hta;clear Ad hta SB ED;by_cases h3:(parts s).length=3
 ·obtain⟨a,b,c,Ol⟩:∃ a b c,parts s=[a,b,c]:=by
   match hp:parts s with
   |[a,b,c]=>exact⟨a,b,c,rfl⟩
   |[]=>rw[hp] at h3;simp at h3
   |[a]=>rw[hp] at h3;simp at h3
   |[a,b]=>rw[hp] at h3;simp at h3
   |a :: b :: c :: d :: l=>rw[hp] at h3;simp at h3
  have M4:=Hi (fun k x y=>ayC (k:=k) (x:=x) (y:=y) Ol);have Pb:=Hi (ayx Ol);have Yv:=Hi (IV a (by rw[Ol];simp));have mU:=Hi (IV b (by rw[Ol];simp));have mW:=Hi (IV c (by rw[Ol];simp))
  have HE:=Hi (fun(V:World) (hV:Bw w2 V)=>show V.cell? ⟨w.heap.size+1,0,none⟩=some (.string (bs a))∧V.cell? ⟨w.heap.size+1,1,none⟩=some (.string (bs b))∧V.cell? ⟨w.heap.size+1,2,none⟩=some (.string (bs c)) from by
   have Lj:=il.below hV;rw[Ol] at Lj;obtain⟨p0,q0,r0⟩:=Lj 0 (by simp);obtain⟨p1,q1,r1⟩:=Lj 1 (by simp);obtain⟨p2,q2,r2⟩:=Lj 2 (by simp);cases q0;cases q1;cases q2;rw[add_plain] at r0 r1 r2;exact⟨r0,r1,r2⟩)
  rw[Ol];have Ry:([a,b,c]:List T).length=3:=rfl;rw[Ry];clear Ol h3 IV il;go_wp2_with fail;refine(anQ _).mono ?_;rintro e w3⟨rfl,Aw⟩;have AU:=Hi (Aw.trans ((AV w3 (.cells Km 83)).mono Aw.size));have HW:=Hi (AP w3 (.cells Km 83));obtain⟨w4,Io⟩:=ex (w3.alloc (.cells Km 83));rw[Io] at AU HW
  have TV:=Hi (fun(V:World) (hV:Bw w4 V)=>aAp (w:=V) (a:=some ⟨w3.heap.size,0,none⟩) (l:=ma) 5 (fun i hi=>by
   have h:=(hV.block w3.heap.size (Ao HW)).trans HW;refine⟨_,rfl,?_⟩;rw[add_plain,BF _ _ _ _ _ _ h]
   match i,hi with
   |0,_=>rfl
   |1,_=>rfl
   |2,_=>rfl
   |3,_=>rfl
   |4,_=>rfl) a (by decide))
  obtain⟨e0,e1,e2⟩:=HE w4 AU.out;obtain⟨ix,Cx⟩:=ex (Wd ma a);have HK:=Hi (avM a);rw[Cx] at TV HK;have ae3:=Hi (fun(V:World) (hV:Bw w4 V)=>show Calls prog 31 #[.slice (some ⟨w3.heap.size,0,none⟩) 5 5,.string (bs a)] V fun e w'=>e=.returned (.int .i64 ix)∧Bw V w' from TV V hV);unfold Km at Io;unfold Km;clear Aw Cx TV;have Dt:=Hi ((Ah w4.heap.size w4).drew);have aoc:=Hi (Ah w4.heap.size w4);go_wp2
  go_region_held3 (fun V=>V.cell? ⟨w.heap.size+1,0,none⟩=some (.string (bs a)))
   (first|exact e0|exact(HE _ (bT AU Cy)).1)
   (first|(go_at_call 31;refine(ae3 _ Dt).mono ?_;rintro e w5 ⟨rfl,hb⟩;have Cy:=bH Dt hb;clear hb))
  clear e0 e1 e2 ae3 Dt aoc;have vH:=bH AU Cy;obtain⟨e0,e1,e2⟩:=HE w5 vH.out;have U5:=Hi (agx b w5 (by have:=mU.out;omega));have nP:=Hi (fun W=>agx c W (by have:=mW.out;omega));obtain⟨ob,dI⟩:=ex ((JS b).isSome);obtain⟨oc,jW⟩:=ex ((JS c).isSome);rw[dI] at U5;rw[jW] at nP;have wX:=Hi dI;have wY:=Hi jW;obtain⟨gb,NM⟩:=ex (D8 b);obtain⟨gc,hgc⟩:=ex (D8 c);rw[NM] at U5;rw[hgc] at nP;have aD:=Hi NM;have HGC:=Hi hgc;clear dI jW NM hgc;go_wp2_with fail;refine U5.mono ?_;rintro e w6⟨rfl,Cb⟩;have EJ:=bH vH Cb;clear e0 e1 e2 Cb;obtain⟨e0,e1,e2⟩:=HE w6 EJ.out;go_wp2_with fail;refine(nP w6).mono ?_;rintro e w7⟨rfl,EW⟩;have Ed:=Hi (Ak.trans ((bT EJ EW).mono Ak.size));clear e0 e1 e2 EW;have hx:=HX w7 Ed.out;unfold JV at hx;have c0:w7.cell? ⟨w.heap.size,0,none⟩=some (.int .u8 0):=cr hx;have c1:w7.cell? ⟨w.heap.size,1,none⟩=some (.string { data:=#[] }):=cr hx;have c2:w7.cell? ⟨w.heap.size,2,none⟩=some (.string { data:=#[] }):=cr hx;have f0:=Cu _ _ 0 _ _ hx;have f1:=Cu _ _ 1 _ _ hx;have f2:=Cu _ _ 2 _ _ hx;have nT:=Hi hx;have mK:=bH AR Ed;clear hx Io Ry;by_cases hok:(∃ k:Nat,kindOf a=some k∧ix=(k:Int)∧1≤k∧k≤4)∧ob=true∧oc=true
  ·obtain⟨⟨k,EX,rfl,Xy,jP⟩,rfl,rfl⟩:=hok;obtain⟨x,Ee⟩:=LM.1 wX.out;obtain⟨y,N7⟩:=LM.1 wY.out;have HR:=Hi (show DF s=some (k,gb,gc) from by rw[M4 k x y EX Ee N7,←aD.out,←HGC.out,pW Ee,pW N7]);have hlt:¬ (k:Int) < 1:=(by omega);have PE:IntKind.u8.wrap (k:Int)=(k:Int):=(by rw[show IntKind.u8.wrap (k:Int)=(k:Int) % 256 by simp[IntKind.wrap,IntKind.bits,IntKind.signed]];omega);have HZ:=Hi (bu (a2:=.int .u8 (k:Int)) (b2:=.string (bs gb)) (c2:=.string (bs gc)) nT);clear EX Ee N7;go_wp2_with fail;refine EI (v:=.tuple #[.agg #[.int .u8 (k:Int),.string (bs gb),.string (bs gc)],.int .i64 0]) (eP results7 _ _ w.heap.size _ _ _ rfl HZ.1) rfl ⟨?_,Cq mK HZ.2 (fun i e=>Nat.le_of_eq e.symm) mK.size⟩;unfold JN Nc;rw[HR.out];rfl
  ·have HZ:=Hi (bu (a2:=.int .u8 0) (b2:=.string { data:=#[] }) (c2:=.string { data:=#[] }) nT)
   have HR:=Hi (show DF s=none from Pb (by
    rcases HK.out with⟨h1,_⟩|h1
    ·exact .inl h1
    ·by_cases h2:ob=true
     ·refine .inr (.inr ?_);have h3:¬ oc=true:=fun h3=>hok ⟨h1,h2,h3⟩
      rw[←wY.out] at h3;simpa using h3
     ·refine .inr (.inl ?_);rw[←wX.out] at h2;simpa using h2))
   have DK:ix < 1∨(¬ ix < 1∧ob=false)∨(¬ ix < 1∧ob=true∧oc=false):=by
    rcases HK.out with⟨_,h1⟩|h1
    ·exact .inl h1
    ·have h4:¬ ix < 1:=(by obtain⟨k,_,h5,h6,_⟩:=h1;omega);cases ob with
     |false=>exact .inr (.inl ⟨h4,rfl⟩)
     |true=>exact .inr (.inr ⟨h4,rfl,by cases oc with|false=>rfl|true=>exact absurd ⟨h1,rfl,rfl⟩ hok⟩)
   clear hok HK wX wY aD HGC U5 nP;rcases DK with hlt|⟨hlt,rfl⟩|⟨hlt,rfl,rfl⟩
   all_goals
    go_wp2_with fail;refine EI (v:=.tuple #[.agg #[.int .u8 0,.string { data:=#[] },.string { data:=#[] }],.int .i64 7]) (eP results7 _ _ w.heap.size 0 _ _ rfl HZ.1) rfl ⟨?_,Cq mK HZ.2 (fun i e=>Nat.le_of_eq e.symm) mK.size⟩;unfold JN Nc;rw[HR.out];rfl
 ·have hne:(((parts s).length:Int) == 3)=false:=EH.2 (by omega);have hx:=HX w2 Ak.out;unfold JV at hx;have c0:w2.cell? ⟨w.heap.size,0,none⟩=some (.int .u8 0):=cr hx;have c1:w2.cell? ⟨w.heap.size,1,none⟩=some (.string { data:=#[] }):=cr hx;have c2:w2.cell? ⟨w.heap.size,2,none⟩=some (.string { data:=#[] }):=cr hx;have f0:=Cu _ _ 0 _ _ hx;have f1:=Cu _ _ 1 _ _ hx;have f2:=Cu _ _ 2 _ _ hx;have HZ:=Hi (bu (a2:=.int .u8 0) (b2:=.string { data:=#[] }) (c2:=.string { data:=#[] }) hx);have HR:=Hi (alU h3);have gm:=bH AR Ak;clear h3 hx;generalize parts s=L at*;go_wp2_with fail;refine EI (v:=.tuple #[.agg #[.int .u8 0,.string { data:=#[] },.string { data:=#[] }],.int .i64 7]) (eP results7 _ _ w.heap.size 0 _ _ rfl HZ.1) rfl ⟨?_,Cq gm HZ.2 (fun i e=>Nat.le_of_eq e.symm) gm.size⟩;unfold JN Nc;rw[HR.out];rfl
end ER
section
open Go.ChangeShapes Go.WideShapes Go.ChangeAt
variable {H:Type}{enc:TypeId×Value→H}
def zn:List (String×DataW Unit):=[("unicode/utf8.acceptRanges",Rows.laid_unicode_utf8_acceptRanges),("unicode/utf8.first",Rows.laid_unicode_utf8_first)]
theorem ary(os:Os)(args:Array Value):laidMetH prog zn ((World.laidAll prog os zn).forCall (fun _ _=>0) ⟨#[],args,[]⟩).memory:=by
 rw[MakeChecks.laidMetH_plain _ _ _ (by kernel_rfl)];exact laidMet_laidAll _ (by kernel_rfl) (by kernel_rfl)
theorem ayH{a:Assume}{C:Checked}{os:Os}{f:FuncId}{fn:Func}{s:ChangeSpec}{conds:List PathCond}{apart fresh handsOn again:Bool}{X:World→Array Value→Prop}
  (own:ownKnob C.prog.godebug=none)(started:os.Started)(noInit:C.prog.inits.idxOf? f=none)(hfn:C.prog.funcs[f]?=some fn)
  (witness:∃ (w:World) (tape:Tape) (i:Input),w.os=os∧(w.forCall tape i).Shaped C.prog∧i.vars=[]∧Input.okWide C.prog (w.forCall tape i) .any w.heap.size f i∧
   ((s.pre enc C.prog fn conds apart (w.forCall tape i).memory i.args∧X (w.forCall tape i).memory i.args)∧sizedMet enc C.prog fn (OpenSpec.ofChange s) apart (w.forCall tape i).memory i.args)∧a.holds C.prog (lone (Frame.enter C.prog f i.args .normal) [] (w.forCall tape i)))
  (contract:∀ (W:World) (base:Nat) (args:Array Value) (ds gs:List (DataW H)) (before:List MemPlace),
   (∀ (j:Nat) t v,fn.params[j]?=some t→args[j]?=some v→Value.okWide C.prog W .any base t v)→
   DataW.Whole enc C.prog fn.params.toList s.vars apart W args.toList ds gs before→
   (DataW.weightsEach C.prog (fn.params.toList++s.plain.varTypes C.prog) (ds++gs)).all (· ≤reachBytes)=true→W.ShapedOpen C.prog→
   Calls C.prog f args W fun e W'=>∃ v,e=.returned v∧s.post enc C.prog fn apart fresh handsOn again W args v W'):
  ReturnsInHanded a C os f .any (fun w args=>(s.pre enc C.prog fn conds apart w args∧X w args)∧sizedMet enc C.prog fn (OpenSpec.ofChange s) apart w args) (s.post enc C.prog fn apart fresh handsOn again):=by
 refine returnsInHanded_of_calls own started noInit witness ?_;intro w tape i _ hsh _ hok av5 _;obtain⟨_,_,_,fn2,h2,_,_,_,_,Tv⟩:=hok;obtain rfl:fn2=fn:=Gu (h2.symm.trans hfn);obtain⟨⟨⟨ds,gs,before,hw,_⟩,_⟩,hz⟩:=av5;refine(contract (w.forCall tape i) w.heap.size i.args ds gs before Tv (DataW.Whole.of_heap (w':=w.forCall tape i) (by rfl) hw) (hz.weights hw) hsh).mono fun e W' h=>?_
 obtain⟨v,rfl,hp⟩:=h;exact ChangeSpec.post_blind hp
theorem awK{w:World}(h:w.ShapedOpen prog):ER.Vm w:=
 cell_of_shapedOpen_int (t:=3) (zero:=#[.int .i64 0]) h (Q4 (by kernel_rfl)) (by kernel_rfl) (by kernel_rfl) (by kernel_rfl) (by kernel_rfl) underlying3
end
namespace ER
open Go.Maps Go.Shelf
open Aq Af Ap Bu Kp BM Hex BD Al Mem Cg
attribute [local go_sem] O4
attribute [local go_sem ↓] bf
def Lh(K:Kind)(A:M)(ks:List T):List T:=ks.filter fun t=>((fileOf K A t).getD []).length == 0
theorem aeZ(K:Kind)(A:M)(ks:List T)(t:T):Lh K A (ks++[t])=Lh K A ks++if((fileOf K A t).getD []).length=0 then[t] else[]:=by
 unfold Lh;rw[LJ]
 congr 1
 by_cases h:((fileOf K A t).getD []).length=0
 ·rw[Ac h];simp[h]
 ·rw[Aa h];simp[h]
theorem af0{K:Kind}{A:M}(hu:Up A):Lh K A (I4 K A)=CO K A:=by
 unfold Lh I4 CO
 suffices ∀ L:M,(∀ p∈L,p∈A)→(((L.map (·.1)).filter K.ours).filter fun t=>((fileOf K A t).getD []).length == 0)=(L.filter fun p=>K.ours p.1 && (K.Cw p.1 p.2).isNone).map (·.1) from this A fun p h=>h
 intro L
 induction L with
 |nil=>exact fun _=>rfl
 |cons p L ih=>
  intro h;have e:(fileOf K A p.1)=(K.Cw p.1 p.2):=by
   unfold fileOf;rw[get_mem hu (show(p.1,p.2)∈A from h p (by simp))];rfl
  have ih:=ih fun x hx=>h x (GI _ hx)
  rw[Ce,List.filter_cons,List.filter_cons];by_cases ho:K.ours p.1=true
  ·rw[Ac ho,List.filter_cons,e,ih,ho];cases hr:K.Cw p.1 p.2 with
   |none=>simp
   |some l=>
    have hl:=(Nf hr).1;have:¬ l.length=0:=fun e=>hl (JW.1 e)
    simp[this]
  ·rw[Aa ho,ih];simp[ho]
theorem af1(K:Kind)(A:M)(ks:List T):(Lh K A ks).length≤ks.length:=LK _ _
theorem akU(K:Kind)(A:M):(I4 K A).length≤A.length:=by
 unfold I4;have:=LK K.ours (A.map (·.1));rwa[Ca] at this
def JB(K:Kind)(A:M)(w:World)(oc B:Nat)(ks:List T)(W:World):Prop:=
 ∃ v,Ex 9 61 1 w oc B W (Lh K A ks).length (strCells (Lh K A ks)) v∧(ks=[]→v=.slice none 0 0)
theorem dU(K:Kind)(A:M)(w:World)(oc:Nat):WT w oc (JB K A w oc) where
 below:=fun B ks W W' ⟨v,h1,h2⟩ hb=>⟨v,h1.below hb,h2⟩
 raise:=fun B B' W ⟨v,h1,h2⟩ hb hs=>by
  have e:=h2 rfl;subst e;have e2:Lh K A []=[]:=rfl;rw[e2,QT] at h1;exact⟨_,by rw[e2,QT];exact Ex.raise h1 hb hs,fun _=>rfl⟩
 put:=fun B ks W k o o' ⟨v,h1,h2⟩ ho hc hk=>⟨v,h1.put ho hc hk,h2⟩
theorem anV{α:Type}{P:Program}{n:Nat}{g:Operand}{q1 q2 s1 s2:Nat}{assign body:Code}{Q:Exit→Act→World→Prop}{a:Act}{w:World}(h1:1≤n)
  {gf:Nat}{lb:Array Value}(hg:a.eval g=.func (.func gf) #[] lb)(eg:∀ args w,(callFunc gf args).run P w=.ok (.enter gf args) w){e1 e2:α→Value}
  {Ia:List α→World→Prop}{Iy:List α→α→World→Prop}{S:List α→Prop}(Ul:∀ xs,MJ w.heap.size (Ia xs))(YX:∀ xs x,MJ w.heap.size (Iy xs x))
  (Lv:WU (n -1) P gf lb (fun x=>#[e1 x,e2 x]) Ia Iy S w)(h0:Ia [] w)
  (Z0:∀ (l:Nat) (x:α) (W:World) (K:Act→World→Prop),K { tmps:=(((a.tmps.setIfInBounds q1 (e1 x)).setIfInBounds q2 (e2 x)).setIfInBounds s1 (e1 x)).setIfInBounds s2 (e2 x),defers:=[] } W→
   assign.wpIn (Fence.wide.inRound l) (n -1 -1) P (Exit.then K (fun _ _ _=>False)) { tmps:=(a.tmps.setIfInBounds q1 (e1 x)).setIfInBounds q2 (e2 x),defers:=[] } W)
  (Z4:∀ (l:Nat) (pre:List α) (x:α) (W:World),Iy pre x W→body.wpIn (Fence.wide.inRound l) (n -1 -1) P (uN Ia (pre++[x]) W) { tmps:=(((a.tmps.setIfInBounds q1 (e1 x)).setIfInBounds q2 (e2 x)).setIfInBounds s1 (e1 x)).setIfInBounds s2 (e2 x),defers:=[] } W)
  (Ru:∀ (D:Nat) (xs:List α) (W:World),w.heap.size≤D→S xs→Ia xs W→W.heap[D]?=some (.deferred (some []))→Q .normal { a with defers:={ target:=.collected D,args:=#[] } :: a.defers } W):
  (Code.rangeFunc g #[q1,q2] assign body).wpIn Fence.wide n P Q a w:=
 uZ h1 hg eg (fun _=>rfl) Ul YX Lv h0 (fun x=>{ tmps:=(((a.tmps.setIfInBounds q1 (e1 x)).setIfInBounds q2 (e2 x)).setIfInBounds s1 (e1 x)).setIfInBounds s2 (e2 x),defers:=[] }) (fun l x W K hK=>by
  have hz:(#[q1,q2].zip #[e1 x,e2 x])=#[(q1,e1 x),(q2,e2 x)]:=by simp
  rw[hz];exact Z0 l x W K hK) Z4 Ru
theorem af2{K:Kind}{A:M}{w W:World}{Bx:Nat}{pv:Value}{ty:TypeId}{pre:List Gb}{x:Gb}{v:Value}(hO:Ex 9 61 1 w w.heap.size x.B W (Lh K A (pre.map (·.name))).length (strCells (Lh K A (pre.map (·.name)))) v)
  (hS:LP w w.heap.size Bx x.B pv ty x.q x.c (A.map (·.1)) W)(hG:∀ z∈pre,z.B=x.B∧z.q=x.q∧z.c=x.c)(hT:∃ ts,pre.map (·.name)++x.name :: ts=I4 K A)(hl:(Lh K A (pre.map (·.name))).length≤1000000)(hz:((fileOf K A x.name).getD []).length=0):
  ∃ q7 n7 c7 w7,(Vt #[61,61] 61 #[v,.slice (some ⟨W.heap.size,0,none⟩) 1 1]).run prog (W.alloc (.cells #[.string (bs x.name)] 9))=.ok (.slice q7 n7 c7) w7∧
   (W.alloc (.cells #[.string (bs x.name)] 9)).cell? ⟨w.heap.size,0,none⟩=some v∧w7.cell? ⟨w.heap.size,0,none⟩=some v∧w7.frozen? ⟨w.heap.size,0,none⟩=false∧
   O5 w w.heap.size Bx pv ty K A (JB K A w w.heap.size) (pre++[x]) (w7.setCell ⟨w.heap.size,0,none⟩ (.slice q7 n7 c7))∧KeepsOthers W (w7.setCell ⟨w.heap.size,0,none⟩ (.slice q7 n7 c7)):=by
 have hb:=AV W (.cells #[.string (bs x.name)] 9);have hn:=AP W (.cells #[.string (bs x.name)] 9);generalize W.alloc (.cells #[.string (bs x.name)] 9)=W1 at*;have bO:=hO.below hb
 obtain⟨v7,w7,hr,ho,hg⟩:=acU (W:=W1) (q:=some ⟨W.heap.size,0,none⟩) (cap:=1) (k:=[x.name]) bO.row (fun i hi=>by
  obtain rfl:i=0:=by simpa using hi
  exact⟨_,rfl,by rw[add_plain,BF _ _ _ _ _ _ hn];rfl⟩) (fun e=>by cases e) (by simp;omega) bO.size
 obtain⟨q7,c7,rfl⟩:=Bp ho;have NK:=(hg.block w.heap.size (Ao bO.box) (fun e=>(bO.ne e.symm).1 rfl)).trans bO.box;have bR:=hO.add hb hg ho;refine⟨q7,_,c7,w7,hr,cr bO.box,cr NK,Cu w7 w.heap.size 0 _ _ NK,?_,hO.keeps hb hg _⟩;refine iI hS hG hT (hO.turned hb hg _) ⟨.slice q7 ((Lh K A (pre.map (·.name))).length+[x.name].length) c7,?_,fun e=>by simp at e⟩;rw[aeZ,Ac hz,Az,show ∀ a b,strCells (a++b)=strCells a++strCells b from fun a b=>by unfold strCells;rw[D6]];exact bR
theorem af5{K:Kind}{A:M}{w W:World}{Bx:Nat}{pv:Value}{ty:TypeId}{pre:List Gb}{x:Gb}{v:Value}(hO:Ex 9 61 1 w w.heap.size x.B W (Lh K A (pre.map (·.name))).length (strCells (Lh K A (pre.map (·.name)))) v)
  (hS:LP w w.heap.size Bx x.B pv ty x.q x.c (A.map (·.1)) W)(hG:∀ z∈pre,z.B=x.B∧z.q=x.q∧z.c=x.c)(hT:∃ ts,pre.map (·.name)++x.name :: ts=I4 K A)(hz:¬ ((fileOf K A x.name).getD []).length=0):
  O5 w w.heap.size Bx pv ty K A (JB K A w w.heap.size) (pre++[x]) W:=
 iI hS hG hT (A7.refl _ _) ⟨v,by rw[aeZ,Aa hz,En];exact hO,fun e=>by simp at e⟩
theorem awM{w:World}{p y:Nat}{A:M}(hm:GN w p y)(hf:Hm w y A):
  Calls prog 150 #[.pointer (some ⟨p,0,none⟩)] w fun e w'=>∃ v,e=.returned v∧Ap.Bq w' w.heap.size v (CO Aj A)∧Bw w w':=by
 refine(Dr (n:=3)).1 ?_;have QA:prog.follows .mixedOrders=true:=by kernel_rfl
 have HM:=Hi hm;have HF:=Hi hf;have HE:=Hi (af0 (K:=Aj) hf.up);clear hm hf;refine callsIn_of_wp_marks func150 rfl trivial ?_ rfl;simp only[ntmps150,Kr,BN,Iu,Nat.reduceAdd,Nat.reduceSub,Mm,Mq,Mv,Ms,Ev,Hf]
 gi_wp2
 have Bb:=AV w (.cells #[.slice none 0 0] 61);have II:Ex 9 61 1 w w.heap.size (w.heap.size+1) (w.alloc (.cells #[.slice none 0 0] 61)) 0 [] (.slice none 0 0):=⟨Bb,Ae _,Nat.lt_succ_self _,by rw[Ar];exact Ae _,AP w _,E5 _ _ _ _⟩;have P8:=Hi II;refine⟨trivial,(Dr.2 (akC p _)).mono ?_⟩;rintro e w2⟨rfl,Kh⟩;subst Kh
 gi_wp2
 have EK:=Hi (AP (w.alloc (.cells #[.slice none 0 0] 61)) (.cells #[.pointer (some ⟨p,0,none⟩)] 43));have Ad:=AV (w.alloc (.cells #[.slice none 0 0] 61)) (.cells #[.pointer (some ⟨p,0,none⟩)] 43);have CW:=Hi (P8.below Ad);have Dz:=Hi (Ar w (.cells #[.slice none 0 0] 61));obtain⟨Bx,Ik⟩:=ex ((w.alloc (.cells #[.slice none 0 0] 61)).heap.size);rw[Ik] at EK Dz;rw[show w.heap.size+1=Bx from Dz.symm];obtain⟨U,hU⟩:=ex ((w.alloc (.cells #[.slice none 0 0] 61)).alloc (.cells #[.pointer (some ⟨p,0,none⟩)] 43));rw[hU] at EK CW ⊢;clear Bb Ad II P8 Ik hU;refine anV (s1:=3) (s2:=4) (by omega) (gf:=198) (lb:=#[.pointer (some ⟨Bx,0,none⟩)]) rfl (enters_of func198 (by kernel_rfl) rfl) (e1:=fun x:Gb=>.string (bs x.name)) (e2:=fun x:Gb=>x.row)
  (Ia:=O5 w w.heap.size Bx (.pointer (some ⟨p,0,none⟩)) 43 Aj A (JB Aj A w w.heap.size)) (Iy:=TL w w.heap.size Bx (.pointer (some ⟨p,0,none⟩)) 43 Aj A (JB Aj A w w.heap.size))
  (fun xs=>iF (dU _ _ _ _) CW.AQ.size xs) (fun xs x=>iH (dU _ _ _ _) CW.AQ.size xs x)
  (akB 2 (by omega) HM HF w.heap.size Bx (dU _ _ _ _) U) (.inl ⟨rfl,CW.AQ,Ae _,by have:=Dz.out;omega,EK,w.heap.size+1,CW.size,.slice none 0 0,by rw[show Lh Aj A []=[] from rfl,QT];exact CW.out,fun _=>rfl⟩)
  ?assign ?body ?done
 case assign=>
  intro l x W K hK;simp only[np] at hK ⊢
  gi_wp2
  exact hK
 case body=>
  intro l2 pre x W hy;obtain⟨hS,hG,hT,⟨v,hO,-⟩,⟨q2,c2,FH,-,-,-⟩⟩:=hy;have hlen:(Lh Aj A (pre.map (·.name))).length≤1000000:=by
   obtain⟨ts,J3⟩:=hT;have h1:=akU Aj A;have h2:=af1 Aj A (pre.map (·.name));have h3:=HF.len;rw[←J3,Az] at h1;omega
  have cb:W.cell? ⟨w.heap.size,0,none⟩=some v:=cr hO.box;simp only[np];rw[FH];by_cases hz:((fileOf Aj A x.name).getD []).length=0
  ·obtain⟨q7,n7,c7,w7,QG,Gi,Xm,Zc,Gn,Xz⟩:=af2 hO hS hG hT hlen hz;have Dh:=Hi Gn;have V9:=Hi Xz;have hzi:((((fileOf Aj A x.name).getD []).length:Int) == 0)=true:=(by rw[hz];rfl);obtain⟨qv,cv,rfl⟩:=Bp hO.row;clear hS hG hT hO FH hlen Gn Xz hz;generalize ((fileOf Aj A x.name).getD []).length=fn at*;generalize x.name=nm at*
   gi_wp2
   exact⟨V9,Dh⟩
  ·have Dh:=Hi (af5 hO hS hG hT hz);have hzi:((((fileOf Aj A x.name).getD []).length:Int) == 0)=false:=EH.2 (fun e=>hz (by omega));clear hS hG hT hO FH hlen hz;generalize ((fileOf Aj A x.name).getD []).length=fn at*;generalize x.name=nm at*
   gi_wp2
   exact⟨KeepsOthers.refl _,Dh⟩
 case done=>
  intro D xs W hD hS hI Df;obtain⟨B,v,hO,-⟩:=iG hI;rw[hS,HE.out] at hO;have HO:=Hi hO;have Sw:=Hi Df;have HD:=Hi (show w.heap.size≤D from Ay (Ay (Nat.le_succ _) CW.size) hD);have cb:W.cell? ⟨w.heap.size,0,none⟩=some v:=cr hO.box;have hf:=Cu W w.heap.size 0 _ _ hO.box;obtain⟨q,c,rfl⟩:=Bp hO.row;obtain⟨v6,ZB⟩:=ex (Value.slice q (CO Aj A).length c);have Kg:=(A7.refl (fun k=>k=w.heap.size) W).setCell (p:=⟨w.heap.size,0,none⟩) (.inl rfl) v6;have SV:=Cf W w.heap.size 0 _ _ v6 hO.box
  have IU:=Hi ((Kg.block D (Dm.1 Df).1 (fun e=>by
   rw[e,hO.box] at Df;cases Df)).trans Df)
  have Kc:=BH (Fu hO.row (Nat.le_of_lt (Nat.lt_of_le_of_lt hO.low hO.lt))) Kg (fun k hk e=>(hO.ne hk).1 e);have EJ:=Hi (hO.AQ.setCell (p:=⟨w.heap.size,0,none⟩) (Ae _) v6);have Ho:=Hi Kc
  have V4:=Hi (show((W.setCell ⟨w.heap.size,0,none⟩ v6).putObj D (.deferred none)).cell? ⟨w.heap.size,0,none⟩=some v6 from by
   rw[BF _ _ _ _ _ _ (RP SV IU rfl)];rfl)
  rw[ZB] at cb Ho;clear hS hI Df hD hO Kg SV Kc;have rY:v6.oneCell'=true:=by rw[←ZB];rfl
  subst ZB
  gi_wp2
  refine⟨by simp,.inl ⟨_,_,rfl,run_takeDeferred IU,?_⟩⟩;have hu:A7 (fun i=>i=D) (W.setCell ⟨w.heap.size,0,none⟩ (.slice q (CO Aj A).length c)) ((W.setCell ⟨w.heap.size,0,none⟩ (.slice q (CO Aj A).length c)).putObj D (.deferred none)):=A7.of_grownBy (F:=fun i=>i=D) (grownBy_putObj' _ D (.deferred none)) (fun i e=>by cases e;rfl);refine⟨_,(by simp[results,results150,go_sem,V4.out]),.slice q (CO Aj A).length c,rfl,?_,Cq EJ hu (fun i e=>by rw[e];exact HD.out) EJ.size⟩
  exact BH Ho hu (fun k hk e=>by
   obtain⟨cs,fz,h2⟩:=CB Ho hk;rw[e,IU.out] at h2;cases h2)
theorem aqO{w:World}{p y:Nat}{A:M}(hm:Fx w p y)(hf:Hm w y A):
  Calls prog 151 #[.pointer (some ⟨p,0,none⟩)] w fun e w'=>∃ v,e=.returned v∧Ap.Bq w' w.heap.size v (CO Ab A)∧Bw w w':=by
 refine(Dr (n:=3)).1 ?_;have QA:prog.follows .mixedOrders=true:=by kernel_rfl
 have HM:=Hi hm;have HF:=Hi hf;have HE:=Hi (af0 (K:=Ab) hf.up);clear hm hf;refine callsIn_of_wp_marks func151 rfl trivial ?_ rfl;simp only[ntmps151,Kr,BN,Iu,Nat.reduceAdd,Nat.reduceSub,Mm,Mq,Mv,Ms,Ev,Hf]
 gi_wp2
 have Bb:=AV w (.cells #[.slice none 0 0] 61);have II:Ex 9 61 1 w w.heap.size (w.heap.size+1) (w.alloc (.cells #[.slice none 0 0] 61)) 0 [] (.slice none 0 0):=⟨Bb,Ae _,Nat.lt_succ_self _,by rw[Ar];exact Ae _,AP w _,E5 _ _ _ _⟩;have P8:=Hi II;refine⟨trivial,(Dr.2 (yT p _)).mono ?_⟩;rintro e w2⟨rfl,Kh⟩;subst Kh
 gi_wp2
 have EK:=Hi (AP (w.alloc (.cells #[.slice none 0 0] 61)) (.cells #[.pointer (some ⟨p,0,none⟩)] 44));have Ad:=AV (w.alloc (.cells #[.slice none 0 0] 61)) (.cells #[.pointer (some ⟨p,0,none⟩)] 44);have CW:=Hi (P8.below Ad);have Dz:=Hi (Ar w (.cells #[.slice none 0 0] 61));obtain⟨Bx,Ik⟩:=ex ((w.alloc (.cells #[.slice none 0 0] 61)).heap.size);rw[Ik] at EK Dz;rw[show w.heap.size+1=Bx from Dz.symm];obtain⟨U,hU⟩:=ex ((w.alloc (.cells #[.slice none 0 0] 61)).alloc (.cells #[.pointer (some ⟨p,0,none⟩)] 44));rw[hU] at EK CW ⊢;clear Bb Ad II P8 Ik hU;refine anV (s1:=3) (s2:=4) (by omega) (gf:=201) (lb:=#[.pointer (some ⟨Bx,0,none⟩)]) rfl (enters_of func201 (by kernel_rfl) rfl) (e1:=fun x:Gb=>.string (bs x.name)) (e2:=fun x:Gb=>x.row)
  (Ia:=O5 w w.heap.size Bx (.pointer (some ⟨p,0,none⟩)) 44 Ab A (JB Ab A w w.heap.size)) (Iy:=TL w w.heap.size Bx (.pointer (some ⟨p,0,none⟩)) 44 Ab A (JB Ab A w w.heap.size))
  (fun xs=>iF (dU _ _ _ _) CW.AQ.size xs) (fun xs x=>iH (dU _ _ _ _) CW.AQ.size xs x)
  (yS 2 (by omega) HM HF w.heap.size Bx (dU _ _ _ _) U) (.inl ⟨rfl,CW.AQ,Ae _,by have:=Dz.out;omega,EK,w.heap.size+1,CW.size,.slice none 0 0,by rw[show Lh Ab A []=[] from rfl,QT];exact CW.out,fun _=>rfl⟩)
  ?assign ?body ?done
 case assign=>
  intro l x W K hK;simp only[np] at hK ⊢
  gi_wp2
  exact hK
 case body=>
  intro l2 pre x W hy;obtain⟨hS,hG,hT,⟨v,hO,-⟩,⟨q2,c2,FH,-,-,-⟩⟩:=hy;have hlen:(Lh Ab A (pre.map (·.name))).length≤1000000:=by
   obtain⟨ts,J3⟩:=hT;have h1:=akU Ab A;have h2:=af1 Ab A (pre.map (·.name));have h3:=HF.len;rw[←J3,Az] at h1;omega
  have cb:W.cell? ⟨w.heap.size,0,none⟩=some v:=cr hO.box;simp only[np];rw[FH];by_cases hz:((fileOf Ab A x.name).getD []).length=0
  ·obtain⟨q7,n7,c7,w7,QG,Gi,Xm,Zc,Gn,Xz⟩:=af2 hO hS hG hT hlen hz;have Dh:=Hi Gn;have V9:=Hi Xz;have hzi:((((fileOf Ab A x.name).getD []).length:Int) == 0)=true:=(by rw[hz];rfl);obtain⟨qv,cv,rfl⟩:=Bp hO.row;clear hS hG hT hO FH hlen Gn Xz hz;generalize ((fileOf Ab A x.name).getD []).length=fn at*;generalize x.name=nm at*
   gi_wp2
   exact⟨V9,Dh⟩
  ·have Dh:=Hi (af5 hO hS hG hT hz);have hzi:((((fileOf Ab A x.name).getD []).length:Int) == 0)=false:=EH.2 (fun e=>hz (by omega));clear hS hG hT hO FH hlen hz;generalize ((fileOf Ab A x.name).getD []).length=fn at*;generalize x.name=nm at*
   gi_wp2
   exact⟨KeepsOthers.refl _,Dh⟩
 case done=>
  intro D xs W hD hS hI Df;obtain⟨B,v,hO,-⟩:=iG hI;rw[hS,HE.out] at hO;have HO:=Hi hO;have Sw:=Hi Df;have HD:=Hi (show w.heap.size≤D from Ay (Ay (Nat.le_succ _) CW.size) hD);have cb:W.cell? ⟨w.heap.size,0,none⟩=some v:=cr hO.box;have hf:=Cu W w.heap.size 0 _ _ hO.box;obtain⟨q,c,rfl⟩:=Bp hO.row;obtain⟨v6,ZB⟩:=ex (Value.slice q (CO Ab A).length c);have Kg:=(A7.refl (fun k=>k=w.heap.size) W).setCell (p:=⟨w.heap.size,0,none⟩) (.inl rfl) v6;have SV:=Cf W w.heap.size 0 _ _ v6 hO.box
  have IU:=Hi ((Kg.block D (Dm.1 Df).1 (fun e=>by
   rw[e,hO.box] at Df;cases Df)).trans Df)
  have Kc:=BH (Fu hO.row (Nat.le_of_lt (Nat.lt_of_le_of_lt hO.low hO.lt))) Kg (fun k hk e=>(hO.ne hk).1 e);have EJ:=Hi (hO.AQ.setCell (p:=⟨w.heap.size,0,none⟩) (Ae _) v6);have Ho:=Hi Kc
  have V4:=Hi (show((W.setCell ⟨w.heap.size,0,none⟩ v6).putObj D (.deferred none)).cell? ⟨w.heap.size,0,none⟩=some v6 from by
   rw[BF _ _ _ _ _ _ (RP SV IU rfl)];rfl)
  rw[ZB] at cb Ho;clear hS hI Df hD hO Kg SV Kc;have rY:v6.oneCell'=true:=by rw[←ZB];rfl
  subst ZB
  gi_wp2
  refine⟨by simp,.inl ⟨_,_,rfl,run_takeDeferred IU,?_⟩⟩;have hu:A7 (fun i=>i=D) (W.setCell ⟨w.heap.size,0,none⟩ (.slice q (CO Ab A).length c)) ((W.setCell ⟨w.heap.size,0,none⟩ (.slice q (CO Ab A).length c)).putObj D (.deferred none)):=A7.of_grownBy (F:=fun i=>i=D) (grownBy_putObj' _ D (.deferred none)) (fun i e=>by cases e;rfl);refine⟨_,(by simp[results,results151,go_sem,V4.out]),.slice q (CO Ab A).length c,rfl,?_,Cq EJ hu (fun i e=>by rw[e];exact HD.out) EJ.size⟩
  exact BH Ho hu (fun k hk e=>by
   obtain⟨cs,fz,h2⟩:=CB Ho hk;rw[e,IU.out] at h2;cases h2)
end ER
namespace Cg
open Go.Maps
open Aq Af Ap Bu Kp BM Hex BD Al Mem
theorem aqb(kb:Nat)(k:T)(p:T×T)(W:World)(hk:W.cell? ⟨kb,0,none⟩=some (.string (bs k))):
  Calls prog 192 #[.agg #[.string (bs p.1),.string (bs p.2)],.pointer (some ⟨kb,0,none⟩)] W fun e W'=>e=.returned (.bool (p.1 == k))∧Bw W W':=by
 have di:=D7 hk
 go_in
 go_wp2;go_ret;exact⟨by simp,AV W _⟩
theorem aqa(kb:Nat)(k:T):fP (fun W=>W.cell? ⟨kb,0,none⟩=some (.string (bs k))) (.func (.func 192) #[] #[.pointer (some ⟨kb,0,none⟩)]) (fun p=>p.1 == k):=
 ⟨_,_,_,rfl,enters_of func192 (by kernel_rfl) rfl,fun W p h=>aqb kb k p W h⟩
theorem yx{w:World}{q:Option Addr}{cap:Nat}{l:M}(h:Bj w q l)(hq:q=none→cap=0)(hl:l.length≤1000000)(k:T):
  Calls prog 109 #[.slice q l.length cap,.string (bs k)] w fun e w'=>∃ v,e=.returned v∧BK w' w.heap.size v (l.filter fun p=>!(p.1 == k))∧Bw w w':=by
 have C8:=AV w (.cells #[.string (bs k)] 9);have hn:=AP w (.cells #[.string (bs k)] 9);have Au:=Hi C8;have HN:=Hi hn;have HC:=Hi (l5 (h.below C8) hq (by omega));have BL:=Ar w (.cells #[.string (bs k)] 9);clear h C8 hn
 go_in
 go_wp2_with fail;refine HC.mono ?_;rintro e w1⟨v,rfl,hr,hb⟩;obtain⟨q1,c1,rfl,-,-⟩:=Fz hr;have EX:=(hb.block _ (Ao HN)).trans HN.out
 have HD:=Hi (alh hr (aqa w.heap.size k) (fun W hW=>by
  have h1:=(hW.block _ (Ao EX) (fun e=>by
   have:=Ec hr e;rw[BL] at this;omega)).trans EX
  rw[BF _ _ _ _ _ _ h1];rfl) hl)
 have HR:=Hi hr;have HB:=Hi hb;clear hr hb EX;go_wp2_with fail;refine HD.mono ?_;rintro e w2⟨v2,rfl,DN,Eu,-⟩;obtain⟨q2,c2,rfl,-,-⟩:=Fz DN;have Ak:=Hi (Cq (bT Au HB) Eu (fun i e=>Ay Au.size (Ec HR e)) (bT Au HB).size);have BU:=Hi (Fu DN Au.size);clear DN Eu;go_wp2;go_ret;exact⟨_,rfl,BU,Ak⟩
theorem aft{w:World}{a:Option Addr}{cap:Nat}{l:M}(h:Bj w a l)(hs:CR l)(hl:l.length≤1000000)(DC:rowLen (flat l)≤1000000000):
  Calls prog 110 #[.slice a l.length cap] w fun e w'=>e=.returned (.tuple #[.string (bs ((BS l).getD [])),.int .i64 (if(BS l).isSome=true then 0 else 5)])∧Bw w w':=by
 have G7:=Hi (alp (cap:=cap) h hs hl DC);by_cases C9:(BS l).isSome=true
 ·rw[Ac C9];obtain⟨he,hlen⟩:=WZ.1 C9;have TQ:=Hi (oD C9);rw[TQ.out];rw[he] at G7;generalize (Ef l).1=s at*;have Tc:decide (65535 < (s.length:Int)+4)=false:=decide_eq_false (by omega);have Io:IntKind.i64.wrap ((s.length:Int)+4)=(s.length:Int)+4:=Eh _ (by omega);have YH:=Hi (fun W=>eZ s W (by omega));clear he C9 hlen h hs DC TQ
  go_in
  go_wp2_with fail;refine G7.mono ?_;rintro e w3⟨rfl,Aw⟩;have AA:=Hi Aw;clear Aw;go_wp2_with fail;refine(YH _).mono ?_;rintro e w4⟨rfl,AB⟩;have AU:=bH AA AB;clear AB;go_wp2;go_ret2;exact⟨rfl,AU⟩
 ·rw[Aa C9];have hn:(BS l).getD []=[]:=by
   cases hc:BS l with
   |none=>rfl
   |some d=>rw[hc] at C9;simp at C9
  rw[hn];by_cases he:(Ef l).2=0
  ·have hlen:¬ (Ef l).1.length+4≤65535:=fun h=>C9 (WZ.2 ⟨he,h⟩)
   rw[he] at G7;have OE:=tZ l he DC;generalize (Ef l).1=s at*;have Tc:65535 < (s.length:Int)+4:=(by omega);have Io:IntKind.i64.wrap ((s.length:Int)+4)=(s.length:Int)+4:=Eh _ (by omega);clear he C9 h hs DC hn
   go_in
   go_wp2_with fail;refine G7.mono ?_;rintro e w3⟨rfl,Aw⟩;have AA:=Hi Aw;clear Aw;go_wp2;go_ret2;exact⟨rfl,AA⟩
  ·have Bb:((Ef l).2 == 0)=false:=EH.2 he;generalize Ef l=V at*;clear C9 h hs DC hn
   go_in
   go_wp2_with fail;refine G7.mono ?_;rintro e w3⟨rfl,Aw⟩;have AA:=Hi Aw;clear Aw;go_wp2;go_ret2;exact⟨rfl,AA⟩
structure Gc(w:World)(base m:Nat)(L:List (T×M))(g:T→Value):Prop where
 map:∃ kv:List (T×Value),kv.Perm (L.map fun x=>(x.1,Value.agg #[g x.1]))∧FU prog 9 w m kv
 nodup:(L.map (·.1)).Nodup
 row:∀ x∈L,BK w base (g x.1) x.2
 low:base≤m
theorem aAV:(prog.info? 193).map (fun i=>(i.zero,i.size))=some (some (.agg #[.slice none 0 0]),1):=by kernel_rfl
theorem adg(w:World):(zeroValue 193).run prog w=.ok (.agg #[.slice none 0 0]) w:=(zero_of_info aAV).1 w
theorem az8(W:World)(v:Value):(Instr.field 193 (.agg #[v]) 0).run prog W=.ok v W:=by
 simp[Instr.field,GK underlying193,go_sem,asAgg,Result.andThen]
section
variable {w w':World}{base m:Nat}{L:List (T×M)}{g:T→Value}
theorem Gc.below(h:Gc w base m L g)(hb:Bw w w'):Gc w' base m L g:=by
 obtain⟨⟨kv,h1,h2⟩,h3,h4,h6⟩:=h;exact⟨⟨kv,h1,h2.kept (hb.block m h2.lt)⟩,h3,fun x hx=>Ch (h4 x hx) hb,h6⟩
theorem Gc.Wi(h:Gc w base m L g):((L.map fun x=>(x.1,Value.agg #[g x.1])).map (·.1)).Nodup:=by
 rw[Ko];exact h.nodup
theorem Gc.keys{kv:List (T×Value)}(h:kv.Perm (L.map fun x=>(x.1,Value.agg #[g x.1]))):(kv.map (·.1)).Perm (L.map (·.1)):=by
 have:=h.map (·.1);rwa[Ko] at this
theorem Gc.zH(h:Gc w base m L g){x:T×M}(hx:x∈L)(hn:x.1.length≤maxLen):
  (Instr.lookup 190 (.map (some m)) (.string (bs x.1)) false).run prog w=.ok (.agg #[g x.1]) w:=by
 obtain⟨kv,h1,h2⟩:=h.map;rw[h2.lookup underlying9 underlying190 (adg w) x.1 hn,ZY (h1.map (·.1) |>.nodup_iff.2 h.Wi) h1,(Y7 h.Wi).2 (BA.2 ⟨x,hx,rfl⟩)];rfl
end
theorem afH{w:World}{base m p y:Nat}{L:List (T×M)}{g:T→Value}{Q:Int→World→Prop}(hm:Fx w p y)(h:Gc w base m L g)(hs:∀ x∈L,CR x.2∧x.2.length≤1000000∧rowLen (flat x.2)≤1000000000)(hn:∀ x∈L,x.1.length≤1000)(hl:L.length≤100000)
  (h5:¬ Ps L=true→∀ w',Bw w w'→Q 5 w')
  (hc:Ps L=true→∀ W q c,Bw w W→Ew W q (KL L)→Calls prog 17 #[.pointer (some ⟨y,0,none⟩),.slice q (KL L).length c] W fun e w'=>∃ c,e=.returned (.int .i64 c)∧Q c w'):
  Calls prog 111 #[.pointer (some ⟨p,0,none⟩),.map (some m)] w fun e w'=>∃ c,e=.returned (.int .i64 c)∧Q c w':=by
 have H5:=Hi h5;have HC:=Hi hc;have HM:=Hi hm;clear h5 hc hm;obtain⟨i0,Bg,AX,AY,Ba⟩:=DI ow;have HK:=Hi (show Calls prog 193 #[.map (some m)] w fun e w'=>e=.returned (.func (.func 248) #[] #[.pointer (some ⟨w.heap.size,0,none⟩)])∧w'=w.alloc (.cells #[.map (some m)] 190) from aqR (some m) w);obtain⟨kv,MR,XB⟩:=h.map;have DX:kv.length=L.length:=by rw[MR.length_eq,Ca]
 have YI:=Hi (aqT XB (by omega));have Zh:(kv.map (·.1)).mergeSort (fun x y=>decide (x≤y))=Da L:=mergeSort_of_perm (Gc.keys MR);rw[DX,Zh] at YI;have HH:=Hi h;have HS:=Hi hs;have HN:=Hi hn;have EB:(Da L).length=L.length:=tq L
 have wO:=Hi (fun t (ht:t∈Da L)=>show ∃ x∈L,x.1=t∧rowOf L t=x.2 from by
  obtain⟨x,hx,rfl⟩:=BA.1 (kV.1 ht);exact⟨x,hx,rfl,lq h.nodup hx⟩)
 clear h hs hn MR XB DX Zh
 go_in
 go_wp2_with fail;refine HK.mono ?_;rintro e w1⟨rfl,Jr⟩;subst Jr;go_wp2_with fail;refine YI.mono ?_;rintro e w2⟨v,rfl,Ag,Ad⟩;have MW:Ap.Bq w2 (w.heap.size+1) v (Da L):=by
  unfold Ap.Bq;rw[LG,EB];exact Ag
 obtain⟨q,c,rfl⟩:=Bp MW;have BU:=Hi MW;have Ak:=Hi Ad;clear Ag MW Ad HK YI;have hnI:((Da L).length:Int)=(L.length:Int):=by rw[EB]
 go_wp2
 go_loopw [5,15] (fun s i wr=>xS w (.slice q (Da L).length c) (Da L) (fun t=>M8 t (rowOf L t)) (fun t=>MN (rowOf L t)) s i wr) (fun _ i _=>(Da L).length -(intOf i).toNat)
 case atStart=>exact⟨0,none,0,AZ _,rfl,rfl,by rw[I8,Kq,oo];exact E5 _ _ _ _,Ak,rfl,BU⟩
 case round=>
  obtain⟨k,cq,cc,hk,rfl,rfl,Ag,hb,hall,G8⟩:=hrel;have Oa:=Hi G8;have Co:=Hi Ag;have HB:=Hi hb;have Gv:=Hi hall;clear Ag hall G8 Ak BU;by_cases hlt:k < (Da L).length
  ·obtain⟨x,hx,ZG,FH⟩:=wO _ (Dc hlt);obtain⟨a,Cx,c0⟩:=(I6 (c:=c) (Oa.out)).index c k hlt;simp only[EB] at Cx;have Tf:k < L.length:=by omega
   have MC:=Hi (show(MN x.2=true→((Da L).take (k+1)).all (fun t=>MN (rowOf L t))=true)∧((Da L).take (k+1)).map (fun t=>M8 t (rowOf L t))=((Da L).take k).map (fun t=>M8 t (rowOf L t))++[M8 x.1 x.2] from by
    rw[CQ hlt,D6,List.all_append,Gv.out];constructor
    ·intro e;simp[FH,e]
    ·simp[FH,ZG])
   have O7:=Hi (show MN x.2=false→¬ Ps L=true from fun e h=>by
    have:=Mr.1 h _ (Dc hlt);rw[FH,e] at this;cases this)
   obtain⟨cl,BJ⟩:∃ cl,((Da L).take k).map (fun t=>M8 t (rowOf L t))=cl:=⟨_,rfl⟩;have jE:cl.length=k:=(by rw[←BJ,Ca,Be];omega);have EL:=Hi jE;rw[BJ] at Co MC ⊢;have NQ:=((HH.below HB).zH hx (by have:=HN x hx;unfold maxLen;omega));have Zx:=(HH.below HB).row x hx;obtain⟨q2,c2,Td,Fp,Gz⟩:=Fz Zx;have Ag:=Zx;rw[Td] at Ag NQ;have aie:=fun W=>az8 W (.slice q2 x.2.length c2)
   obtain⟨UC,CZ,VQ⟩:=HS x hx;rw[←ZG] at c0;clear BJ hb FH ZG Td Zx;have au4:cl.length≤100000:=(by omega);clear jE;have WJ:=Hi (Bj.D9 Ag);obtain⟨t,l⟩:=x;simp only at*;by_cases hz:l=[]
   ·have XU:((l.length:Int) == 0)=true:=(by rw[hz];rfl);have LW:=Hi (show M8 t l=⟨t,[],true⟩ from Ac hz);have TR:=Hi (MC.1 (by rw[hz];rfl));clear hz;go_wp2_with (at_builtin;refine wpList_append_own_at _ rfl _ _ 32 rfl w.heap.size 57 i0 _ 3 40 underlying32 Bg AX AY Ba rfl (by decide) _ cl.length _ rfl (Co.alloc _) ⟨wr.heap.size,0,none⟩ 1 1 [.string (bs t),.string { data:=#[] },.bool true] rfl rfl (by intro j u hj;rw[add_plain,E8];exact(Dx▸hj)) (by simp[Value.oneCell']) (by unfold maxLen;omega) (by omega) (by have:=HB.size;simp;omega) ?_;intro v' w1 Ck AJ _ hat;obtain⟨g',cap',rfl⟩:=ownsRow_succ Ck;have HO:=Hi Ck;have HG:=Hi AJ;clear Ck AJ hat);have Cz:=Hi (sN ⟨t,[],true⟩ hlt HB Co (AV wr _) HG HO (by rw[←LW.out];exact MC.2) TR Oa);go_roundw
    case rel=>exact Cz.out
    case measure=>
     show(Da L).length -((k:Int)+1).toNat < (Da L).length -((k:Int)).toNat
     omega
   ·have XU:((l.length:Int) == 0)=false:=EH.2 (fun e=>hz (JW.1 (by omega)));have Sk:=Hi (aft (cap:=c2) WJ UC CZ VQ);have gJ:=Hi (show MN l=(BS l).isSome from by unfold MN;simp[hz]);have LW:=Hi (show M8 t l=⟨t,(BS l).getD [],false⟩ from Aa hz);by_cases C9:(BS l).isSome=true
    ·have TR:=Hi (MC.1 (by rw[gJ.out];exact C9));rw[Ac C9] at Sk;generalize (BS l).getD []=s at*;clear C9;go_wp2_with fail;refine Sk.mono ?_;rintro e w4⟨rfl,AB⟩;have AU:=Hi AB;have WM:=Hi (Ch Co AU);have abg:=AU.size;have rW:=HB.size;clear AB;go_wp2_with (at_builtin;refine wpList_append_own_at _ rfl _ _ 32 rfl w.heap.size 57 i0 _ 3 40 underlying32 Bg AX AY Ba rfl (by decide) _ cl.length _ rfl (WM.alloc _) ⟨w4.heap.size,0,none⟩ 1 1 [.string (bs t),.string (bs s),.bool false] rfl rfl (by intro j u hj;rw[add_plain,E8];exact(Dx▸hj)) (by simp[Value.oneCell']) (by unfold maxLen;omega) (by omega) (by simp;omega) ?_;intro v' w1 Ck AJ _ hat;obtain⟨g',cap',rfl⟩:=ownsRow_succ Ck;have HO:=Hi Ck;have HG:=Hi AJ;clear Ck AJ hat);have Cz:=Hi (sN ⟨t,s,false⟩ hlt HB Co (AU.trans ((AV w4 _).mono AU.size)) HG HO (by rw[←LW.out];exact MC.2) TR Oa);go_roundw
     case rel=>exact Cz.out
     case measure=>
      show(Da L).length -((k:Int)+1).toNat < (Da L).length -((k:Int)).toNat
      omega
    ·have DJ:=Hi (O7 (by rw[gJ.out];simpa using C9));rw[Aa C9] at Sk;generalize (BS l).getD []=s at*;clear C9;go_wp2_with fail;refine Sk.mono ?_;rintro e w3⟨rfl,Aw⟩;have HQ:=Hi (H5 DJ w3 (bT HB Aw));clear Aw;go_wp2;go_ret;exact⟨5,rfl,HQ⟩
  ·obtain rfl:k=(Da L).length:=(by omega);have Jk:Ps L=true:=by
    have:=Gv.out;rw[I7 (Ae _)] at this;exact this
   have hE:=Co.out;rw[I7 (Ae _)] at hE;have HE:=Hi (show wr.ownsRow w.heap.size 57 3 (.slice cq (KL L).length cc) (KL L).length (Li (KL L)) from hE);have BJ:(((Da L).take (Da L).length).map fun t=>M8 t (rowOf L t)).length=(KL L).length:=(by rw[I7 (Ae _)];rfl);rw[BJ];have Ux:=(HM.below HB).cell;have Bh:=Hi (HC Jk wr cq cc HB (Ew.D9 HE));clear hE hb BJ;generalize (KL L).length=dn at*;go_wp2_with fail;refine Bh.mono ?_;rintro e w9⟨c9,rfl,Zt⟩;go_wp2;go_ret;exact⟨c9,rfl,Zt⟩
section
variable {w w':World}{base m:Nat}{L:List (T×M)}{g:T→Value}
theorem Gc.made(w:World)(base:Nat)(g:T→Value)(hb:base≤w.heap.size):Gc (w.alloc (.map #[] 0)) base w.heap.size [] g:=
 ⟨⟨[],List.Perm.nil,FU.made w⟩,by simp,fun x hx=>by simp at hx,hb⟩
theorem Gc.Dp(h:Gc w base m L g){t:TypeId}:¬ Bf w m t:=by
 obtain⟨kv,_,_,D,⟨es,clock,hm,_⟩,_⟩:=h.map;rintro⟨cs,fr,hb⟩;rw[hm] at hb;injection hb with hb
 cases hb
theorem Gc.len(h:Gc w base m L g)(ty:TypeId):(Builtin.len_ #[190] ty #[.map (some m)]).run prog w=.ok (.int .i64 (L.length:Int)) w:=by
 obtain⟨kv,h2,_,D,hown,_,BL,_⟩:=h.map;rw[hown.len underlying190 ty,BL,h2.length_eq,Ca]
theorem Gc.tK(h:Gc w base m L g){x:T×M}(hx:x∈L)(hn:x.1.length≤maxLen):
  (Instr.lookup 190 (.map (some m)) (.string (bs x.1)) true).run prog w=.ok (.tuple #[.agg #[g x.1],.bool true]) w:=by
 obtain⟨kv,h1,h2⟩:=h.map;rw[h2.ZK underlying9 underlying190 (adg w) x.1 hn,ZY (h1.map (·.1) |>.nodup_iff.2 h.Wi) h1,(Y7 h.Wi).2 (BA.2 ⟨x,hx,rfl⟩)];rfl
theorem Gc.tL(h:Gc w base m L g){t:T}(hx:t∉L.map (·.1))(hn:t.length≤maxLen):
  (Instr.lookup 190 (.map (some m)) (.string (bs t)) true).run prog w=.ok (.tuple #[.agg #[.slice none 0 0],.bool false]) w:=by
 obtain⟨kv,h1,h2⟩:=h.map;have:DW kv t=none:=by
  cases hs:DW kv t with
  |none=>rfl
  |some v=>exact absurd ((Gc.keys h1).mem_iff.1 (BA.2 ⟨_,uD hs,rfl⟩)) hx
 rw[h2.ZK underlying9 underlying190 (adg w) t hn,this];rfl
def putRow(L:List (T×M))(name:T)(l:M):List (T×M):=(name,l) :: L.filter fun x=>!(x.1 == name)
theorem Gc.put(h:Gc w base m L g){name:T}{l:M}{v:Value}(hl:name.length≤maxLen)(hv:BK w base v l)(J2:L.length < maxLen):
  ∃ w',(Instr.mapUpdate 190 (.map (some m)) (.string (bs name)) (.agg #[v])).run prog w=.ok () w'∧Gc w' base m (Cg.putRow L name l) (fun t=>if t=name then v else g t)∧w.grownBy w' (some m):=by
 obtain⟨kv,h1,h2⟩:=h.map;have CJ:kv.length < maxLen:=by
  have e:kv.length=L.length:=by rw[h1.length_eq,Ca]
  rw[e];exact J2
 obtain⟨w',hrun,h3,h4⟩:=h2.update underlying9 underlying190 name hl (.agg #[v]) CJ;have hu:A7 (fun k=>k=m) w w':=A7.of_grownBy (F:=fun k=>k=m) h4 (fun k e=>(Gu e).symm);have NT:∀ {u:Value} {r:M},BK w base u r→BK w' base u r:=fun {u r} hr=>BH hr hu (fun k hk e=>h.Dp (by rw[←e];exact CB hr hk))
 refine⟨w',hrun,⟨⟨_,?_,h3⟩,?_,fun x hx=>?_,h.low⟩,h4⟩
 ·unfold QS Cg.putRow;rw[Ce];simp only[Ac];refine List.Perm.cons _ ((acL h1 name).trans (List.Perm.of_eq ?_));unfold J9;rw[List.filter_map];refine Q3 fun x hx=>?_
  have:x.1≠name:=by
   have:=(FQ.1 hx).2;simpa using this
  rw[Aa this]
 ·unfold Cg.putRow;rw[Ce];refine Ju.2 ⟨fun hm=>?_,List.Sublist.nodup (List.Sublist.map (fun x:T×M=>x.1) (List.filter_sublist (p:=fun x:T×M=>!(x.1 == name)) (l:=L))) h.nodup⟩;obtain⟨x,hx,e⟩:=BA.1 hm;have:=(FQ.1 hx).2;simp[e] at this
 ·unfold Cg.putRow at hx;rcases BZ.1 hx with rfl|hx
  ·simp only[Ac];exact NT hv
  ·obtain⟨Ee,Ea⟩:=FQ.1 hx;have:x.1≠name:=(by simpa using Ea);rw[Aa this];exact NT (h.row x Ee)
end
theorem afU{K:Kind}{A:M}{kt:List T}{L:List (T×M)}(h:O6 K A kt L){k:T}{l:M}(hl:l=J6 K A (kt++[k]) (K.nm k)):O6 K A (kt++[k]) (Cg.putRow L (K.nm k) l):=by
 unfold Cg.putRow;refine⟨Ju.2 ⟨fun hm=>?_,List.Sublist.nodup (List.Sublist.map (fun x:T×M=>x.1) (List.filter_sublist (p:=fun x:T×M=>!(x.1 == K.nm k)) (l:=L))) h.nodup⟩,fun t=>?_,fun x hx=>?_⟩
 ·obtain⟨x,hx,e⟩:=BA.1 hm;have:=(FQ.1 hx).2;simp[e] at this
 ·rw[Ce,BZ,D6,EG,List.map_singleton,FC];constructor
  ·rintro(e|e)
   ·exact .inr e
   ·obtain⟨x,hx,e2⟩:=BA.1 e;exact .inl ((h.names t).1 (by rw[←e2];exact Hl (FQ.1 hx).1))
  ·rintro(e|e)
   ·by_cases ht:t=K.nm k
    ·exact .inl ht
    ·obtain⟨x,hx,e2⟩:=BA.1 ((h.names t).2 e);refine .inr (BA.2 ⟨x,FQ.2 ⟨hx,?_⟩,e2⟩);have e2:x.1=t:=e2;simp[e2,ht]
   ·exact .inl e
 ·rcases BZ.1 hx with rfl|hx
  ·exact hl
  ·obtain⟨h1,h2⟩:=FQ.1 hx;have h2:x.1≠K.nm k:=(by simpa using h2);rw[akm _ (fun e=>h2 e.symm)];exact h.rows x h1
theorem ar4{K:Kind}{A:M}{kt:List T}{L:List (T×M)}(h:O6 K A kt L){k:T}(hk:K.nm k∉L.map (·.1)):((fileOf K A (K.nm k)).getD []).filter (fun p=>!(p.1 == k))=J6 K A (kt++[k]) (K.nm k):=
 (h.new hk).rows (K.nm k,_) (by simp)
def vg(w:World)(m:Nat)(A:M)(ks:List T)(i:Value)(wr:World):Prop:=
 ∃ (k:Nat) (L:List (T×M)) (g:T→Value),k≤ks.length∧i=.int .i64 (k:Int)∧Gc wr w.heap.size m L g∧O6 Ab A (ks.take k) L∧Bw w wr
theorem aqP{w:World}{p y:Nat}{A:M}{q:Option Addr}{cap:Nat}{ks:List T}{Q:Int→World→Prop}(hm:Fx w p y)(hg:Ap.OV w y A)(PO:Af.Good A)(hk:Dv w q ks)(hl:ks.length≤100000)(ht:There Ab A ks)
  (hf:∀ W,Bw w W→Calls prog 175 #[.pointer (some ⟨y,0,none⟩)] W fun e w'=>e=.returned (.int .i64 0)∧W=w')
  (h0:ks=[]→∀ w',Bw w w'→Q 0 w')
  (hc:∀ W q c,Bw w W→Ew W q (Ff Ab A ks)→Calls prog 17 #[.pointer (some ⟨y,0,none⟩),.slice q (Ff Ab A ks).length c] W fun e w'=>∃ c,e=.returned (.int .i64 c)∧Q c w'):
  Calls prog 73 #[.pointer (some ⟨p,0,none⟩),.slice q ks.length cap] w fun e w'=>∃ c,e=.returned (.int .i64 c)∧Q c w':=by
 have HF:=Hi hf;have H0:=Hi h0;have HC:=Hi hc;have HM:=Hi hm;have HG:=Hi hg;have HK:=Hi hk;have HT:=Hi ht;have wy:=Hi PO;have jZ:=hm.lt;clear hf h0 hc hm hg hk ht PO;have VN:=@run_makeMap prog
 go_in
 go_wp2_with fail;refine(afG (P:=fun W w'=>W=w') HM (HF _ (Ah _ _))).mono ?_;rintro e w1⟨rfl,Jr⟩;subst Jr;go_wp2_with fail;have jy:=AV w (.map #[] 0);have Pg:=Hi (show vg w w.heap.size A ks (.int .i64 0) (w.alloc (.map #[] 0)) from⟨0,[],fun _=>.slice none 0 0,AZ _,rfl,Gc.made w w.heap.size _ (Ae _),by rw[I8];exact O6.nil,jy⟩);generalize w.alloc (.map #[] 0)=V at*;clear jy
 go_loopw [23] (fun i wr=>vg w w.heap.size A ks i wr) (fun i _=>ks.length -(intOf i).toNat)
 case atStart=>exact Pg.out
 case round=>
  obtain⟨k,L,g,hk,rfl,he,Rv,hb⟩:=hrel;have HE:=Hi he;have WA:=Hi Rv;have HB:=Hi hb;clear he Rv hb Pg;by_cases hlt:k < ks.length
  ·obtain⟨a,Cx,c0⟩:=(HK.below HB).index cap k hlt;have Lb:=Hi (Dc hlt);have CX:=Hi (CQ hlt);generalize ks[k]=key at*;have Ka:=aAn HT Lb.out;have Jv:=Hi (fun(W:World)=>oK key W (by omega));have EB:(Ab.nm key).length=17:=iN key;go_wp2_with fail;refine(Jv _).mono ?_;rintro e w1⟨rfl,Ai⟩;have Jd:=Hi (HE.below Ai);have HB1:=bH HB Ai;clear Ai;obtain⟨t1,t2,t3⟩:=aAm HT Lb.out;have Xe:L.length≤100000:=by
    have:=z8 WA.out;rw[Be] at this;omega
   have aiG:key∈Eb ((fileOf Ab A (Ab.nm key)).getD []):=by
    have h1:=HT key Lb.out;rw[lX] at h1;obtain⟨v,hv⟩:=LM.1 h1;unfold Eb;rw[Eg];exact BA.2 ⟨_,get_some hv,rfl⟩
   have P6:=Hi aiG;have Jg:=Hi t1;have GM:=Hi t2;clear t1 t2 t3 aiG Cx c0 Jv HB HE;by_cases DV:Ab.nm key∈L.map (·.1)
   case' pos=>
    obtain⟨⟨t,l1⟩,hx,H9⟩:=BA.1 DV;have H9:t=Ab.nm key:=H9;subst H9;have NQ:=Jd.tK hx (by rw[EB];decide);have Ag:=Jd.row _ hx;obtain⟨q1,c1,Td,GX,-⟩:=Fz Ag;rw[Td] at NQ Ag;have dB:l1=J6 Ab A (ks.take k) (Ab.nm key):=WA.rows _ hx
    have V7:=Hi (show O6 Ab A (ks.take (k+1)) (Cg.putRow L (Ab.nm key) (l1.filter fun p=>!(p.1 == key))) from by
     rw[CX.out];exact afU WA (by rw[dB,abN]))
    have GR:l1.length≤1000000:=(by rw[dB];exact(akn wy _ _).2.1);have C8:=AV w1 (.cells #[.slice q1 l1.length c1] 193);have Fw:=Hi (AP w1 (.cells #[.slice q1 l1.length c1] 193));have Ra:=Hi (Jd.below C8);have Au:=bH HB1 C8;have Wv:=Hi (yx (Bj.D9 (Ch Ag C8)) GX GR key);have VI:w.heap.size≤w1.heap.size:=HB1.size;clear hx DV Td Ag C8 WA dB;generalize Ab.nm key=name at*;go_wp2_with fail;obtain⟨wA,Tw⟩:=ex (w1.alloc (.cells #[.slice q1 l1.length c1] 193));rw[Tw] at Fw Ra Au Wv ⊢;obtain⟨b,Oo⟩:=ex (w1.heap.size);rw[Oo] at Fw VI ⊢;clear Tw
   case' neg=>
    have NQ:=Jd.tL DV (by rw[EB];decide);have C8:=AV w1 (.cells #[.slice none 0 0] 193);have xH:=Hi (AP w1 (.cells #[.slice none 0 0] 193));have Yi:=bH HB1 C8;have vW:=Hi (Jd.below C8);have FK:=Hi (oL (HM.below Yi) (Xa HG Yi) (Ab.nm key) (by rw[EB];decide));have Zm:=(bE (K:=Ab) (A:=A) (name:=Ab.nm key)).1;unfold Ql at FK;rw[Jg.out,GM.out] at FK
    have V7:=Hi (show O6 Ab A (ks.take (k+1)) (Cg.putRow L (Ab.nm key) (((fileOf Ab A (Ab.nm key)).getD []).filter fun p=>!(p.1 == key))) from by
     rw[CX.out];exact afU WA (ar4 WA DV))
    have VI:w.heap.size≤w1.heap.size:=HB1.size;clear DV WA C8;generalize (fileOf Ab A (Ab.nm key)).getD []=l1 at*;have GR:l1.length≤1000000:=Ay Zm (by decide);generalize Ab.nm key=name at*;go_wp2_with fail;refine FK.mono ?_;rintro e w2⟨q1,c1,rfl,Ag,GX,Ad⟩;have Ak:=Hi Ad;have M4:=Hi (afW (Bj.D9 Ag) GX GR);have Vj:=Hi Ag;clear Ad Ag;go_wp2_with fail;refine M4.mono ?_;rintro e w3⟨kv,rfl,CJ,Aw⟩;obtain⟨kq,kc,rfl⟩:=Bp CJ;have aCU:=abJ l1;have Qa:=Hi (aAh kc (I6 CJ) key (by omega));rw[OT P6.out] at Qa;have AA:=bH Ak Aw;have aeu:=Hi (Ch Vj Aw);clear CJ Aw;go_wp2_with fail;refine Qa.mono ?_;rintro e w4⟨rfl,AB⟩;have aah:=AA.trans (AB.mono AA.size);have rX:=(aah.block _ (Ao xH)).trans xH.out;have abd:=Ch aeu AB;have yP:w4.cell? ⟨w1.heap.size,0,none⟩=some (.slice none 0 0):=cr rX;have hf4:=Cu w4 w1.heap.size 0 _ _ rX;have Lx:=(A7.refl (fun j=>j=w1.heap.size) w4).setCell (p:=⟨w1.heap.size,0,none⟩) (.inl rfl) (.slice q1 l1.length c1);have Fw:=Hi (Cf w4 w1.heap.size 0 _ _ (.slice q1 l1.length c1) rX);have VS:=Ar w1 (.cells #[.slice none 0 0] 193);have DU:Bw w1 (w4.setCell ⟨w1.heap.size,0,none⟩ (.slice q1 l1.length c1)):=by
     have h1:Bw w1 w4:=(AV w1 _).trans (aah.mono (AV w1 _).size);exact h1.setCell (p:=⟨w1.heap.size,0,none⟩) (Ae _) _
    have Ra:=Hi (Jd.below DU);have Au:=bH HB1 DU
    have ajq:=BH abd Lx (fun j hj e=>by
     have:=Ec abd hj;rw[VS] at this;omega)
    have Wv:=Hi (yx (Bj.D9 ajq) GX GR key);clear AB aah abd Lx DU ajq VS FK xH Yi vW Ak AA Vj aeu M4 Qa rX;go_wp2_with fail;obtain⟨wA,Tw⟩:=ex (w4.setCell ⟨w1.heap.size,0,none⟩ (.slice q1 l1.length c1));rw[Tw] at Fw Ra Au Wv ⊢;obtain⟨b,Oo⟩:=ex (w1.heap.size);rw[Oo] at Fw VI ⊢;clear Tw yP hf4
   all_goals
    refine Wv.mono ?_;rintro e w2⟨v2,rfl,DN,Ad⟩;obtain⟨q2,c2,rfl,-,-⟩:=Fz DN;have VV:=(Ad.block _ (Ao Fw)).trans Fw.out;have cu2:w2.cell? ⟨b,0,none⟩=some (.slice q1 l1.length c1):=cr VV;have hf2:=Cu w2 b 0 _ _ VV;have ajJ:=Cf w2 b 0 _ _ (.slice q2 (l1.filter fun p=>!(p.1 == key)).length c2) VV;have cu3:(w2.setCell ⟨b,0,none⟩ (.slice q2 (l1.filter fun p=>!(p.1 == key)).length c2)).cell? ⟨b,0,none⟩=some (.slice q2 (l1.filter fun p=>!(p.1 == key)).length c2):=cr ajJ;have Dk:=(A7.refl (fun j=>j=b) w2).setCell (p:=⟨b,0,none⟩) (.inl rfl) (.slice q2 (l1.filter fun p=>!(p.1 == key)).length c2);have JH:∀ k,k=b→¬ Bf w2 k 51:=fun k e hb=>by
     obtain⟨cs,fr,hb⟩:=hb;rw[e,VV] at hb;injection hb with hb
     injection hb with _ hb
     exact absurd hb (by decide)
    have aai:=Au.trans (Ad.mono Au.size);have aac:=Ra.below Ad;have aht:Gc (w2.setCell ⟨b,0,none⟩ (.slice q2 (l1.filter fun p=>!(p.1 == key)).length c2)) w.heap.size w.heap.size L g:=by
     have hNB:¬ Bf w2 w.heap.size 193:=aac.Dp;obtain⟨⟨kv,h1,h2⟩,h3,h4,h6⟩:=aac;exact⟨⟨kv,h1,h2.upd Dk (fun e=>hNB (by rw[e];exact⟨_,_,VV⟩))⟩,h3,fun x hx=>BH (h4 x hx) Dk (fun j hj e=>JH j e (CB (h4 x hx) hj)),h6⟩
    have QF:=BH (Fu DN Au.size) Dk (fun j hj e=>JH j e (CB DN hj));have Aw:=Cq aai Dk (fun i e=>by rw[e];exact VI) aai.size;obtain⟨w9,aD8,hU9,hg9⟩:=aht.put (name:=name) (by rw[EB];decide) QF (by unfold maxLen;omega);have Ez:=Aw.grown hg9 Aw.size (fun k e=>Nat.le_of_eq (Gu e));have Cz:=Hi (show vg w w.heap.size A ks (.int .i64 ((k:Int)+1)) w9 from⟨k+1,_,_,by omega,by go_num,hU9,V7,Ez⟩);generalize (l1.filter fun p=>!(p.1 == key)).length=n2 at*;clear DN Ad VV ajJ Dk JH aai aac aht QF Aw hU9 hg9 Ez;go_wp2;go_roundw
    case rel=>exact Cz.out
    case measure=>
     show ks.length -((k:Int)+1).toNat < ks.length -((k:Int)).toNat
     omega
  ·obtain rfl:k=ks.length:=(by omega);have Rv:=WA.out;rw[Dq] at Rv;by_cases hz:ks=[]
   ·subst hz;have hL:L=[]:=by
     have:=z8 Rv;exact JW.1 (by simpa using this)
    subst hL;have Ry:=HE.len 3;have HQ:=Hi (H0 rfl wr HB);clear Rv;go_wp2;go_ret;exact⟨0,rfl,HQ⟩
   ·have hL:L.length≠0:=fun e=>by
     have hL:=JW.1 e;cases Ka:ks with
     |nil=>exact hz Ka
     |cons x ks'=>
      have:=(Rv.names (Ab.nm x)).2 (Hl (by rw[Ka];simp));rw[hL] at this;simp at this
    have Xe:L.length≤100000:=Ay (z8 Rv) hl;obtain⟨e1,e2⟩:=Rv.oz wy HT.out
    have OY:=Hi (afH (Q:=Q) (HM.below HB) HE (fun x hx=>by rw[Rv.rows x hx];exact akn wy _ _) (fun x hx=>by
     obtain⟨z,_,hz⟩:=BA.1 ((Rv.names x.1).1 (Hl hx));rw[←hz,iN];decide) Xe (fun h=>absurd e2 h) (fun _ W q c hW Z8=>by
     rw[e1] at Z8 ⊢;exact HC W q c (bT HB hW) Z8))
    have Ry:=HE.len 3;have MS:((L.length:Int) == 0)=false:=EH.2 (by omega);clear Rv e1 e2;go_wp2_with fail;refine OY.mono ?_;rintro e w9⟨cc,rfl,Zt⟩;go_wp2;go_ret;exact⟨cc,rfl,Zt⟩
