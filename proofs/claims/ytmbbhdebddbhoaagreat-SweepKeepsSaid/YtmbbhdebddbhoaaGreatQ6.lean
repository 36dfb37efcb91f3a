/- StrHeap WalT DiskCopy2 Trod2 DiskH Both Same DiskLaw DiskAlive KeepsRep WalRep -/
import Derived.StringKeys
import Derived.Test.YtmbbhdebddbhoaaGreatQ5
import Derived.MapKept
import Derived.Deep.Slices
import Derived.Deep.Fields
import Derived.ChangeArms
set_option maxHeartbeats 2000000
set_option maxRecDepth 100000
set_option linter.all false
namespace Go.Proofs.YtmbbhdebddbhoaaGreat
open Tryz
section
open Go.RowKit Go.Maps Go.WideMaps
theorem Zm{P:Program}{k:TypeId}(hk:P.underlying k=some .string){x:List UInt8}(hx:x.length≤maxLen):keyOf P k (.string (bs x))=some (.string x):=by
 have:=keyOf_string_mk hk (s:=bs x) hx;simpa using this
def Cr(kv:List (List UInt8×Value))(i:List UInt8):Option Value:=(kv.find? (fun p=>p.1 == i)).map (·.2)
def FP(i:List UInt8)(kv:List (List UInt8×Value)):List (List UInt8×Value):=kv.filter (fun p=>!(p.1 == i))
def Ll(i:List UInt8)(v:Value)(kv:List (List UInt8×Value)):List (List UInt8×Value):=(i,v) :: FP i kv
theorem agE(i:List UInt8)(kv:List (List UInt8×Value)):Cr (FP i kv) i=none:=by
 unfold Cr FP;rw[Option.map_eq_none_iff,List.find?_eq_none];intro p hp;have:=(CU.1 hp).2;simpa using this
theorem uP{i j:List UInt8}(h:j≠i)(kv:List (List UInt8×Value)):Cr (FP i kv) j=Cr kv j:=by
 unfold Cr FP;rw[find_filter_keep];intro p hp;simp at hp ⊢;intro e;exact h (hp.symm.trans e)
theorem uQ(i:List UInt8)(v:Value)(kv:List (List UInt8×Value)):Cr (Ll i v kv) i=some v:=by simp[Cr,Ll]
theorem uR{i j:List UInt8}(h:j≠i)(v:Value)(kv:List (List UInt8×Value)):Cr (Ll i v kv) j=Cr kv j:=by
 have h2:¬ i=j:=fun e=>h e.symm
 rw[←uP h kv];simp[Cr,Ll,h2]
theorem uS{i:List UInt8}{kv:List (List UInt8×Value)}(hn:(kv.map (·.1)).Nodup):(FP i kv).length+(if(Cr kv i).isSome then 1 else 0)=kv.length:=by
 induction kv with
 |nil=>simp[FP,Cr]
 |cons p kv ih=>
  simp only[Bg,Hu] at hn;have ih':=ih hn.2;by_cases h:p.1=i
  ·have h0:Cr kv i=none:=by
    unfold Cr;rw[Option.map_eq_none_iff,List.find?_eq_none];intro q hq;simp;intro e;exact hn.1 (by rw[h,←e];exact ES hq)
   rw[h0] at ih';have e1:FP i (p :: kv)=FP i kv:=(by simp[FP,h]);have e2:Cr (p :: kv) i=some p.2:=(by simp[Cr,h]);rw[e1,e2];simpa using ih'
  ·have e1:FP i (p :: kv)=p :: FP i kv:=(by simp[FP,h]);have e2:Cr (p :: kv) i=Cr kv i:=(by simp[Cr,h]);rw[e1,e2];simp only[AX];omega
theorem uT{i:List UInt8}{kv:List (List UInt8×Value)}(hn:(kv.map (·.1)).Nodup):((FP i kv).map (·.1)).Nodup:=by
 unfold FP;exact hn.sublist (List.Sublist.map _ List.filter_sublist)
theorem agF{i:List UInt8}{v:Value}{kv:List (List UInt8×Value)}(hn:(kv.map (·.1)).Nodup):((Ll i v kv).map (·.1)).Nodup:=by
 simp only[Ll,Bg,Hu];refine⟨?_,uT hn⟩;intro h;obtain⟨p,hp,e⟩:=AV.1 h;have:=(CU.1 hp).2;simp[e] at this
theorem WA{kv:List (List UInt8×Value)}{i:List UInt8}{v:Value}(h:Cr kv i=some v):(i,v)∈kv:=by
 unfold Cr at h;obtain⟨p,hp,rfl⟩:=Pb.1 h;have h1:=List.find?_some hp;simp at h1;subst h1;exact List.mem_of_find?_eq_some hp
def StrMap(P:Program)(K:TypeId)(w:World)(m:Nat)(kv:List (List UInt8×Value)):Prop:=
 (kv.map (·.1)).Nodup∧∃ D:DataW Value,w.ownsMap P K Me m kv.length D∧Tidy D∧size D=kv.length∧∀ i z,D.atKey (.string i) z=(match Cr kv i with|some v=>.held v|none=>z)
section
variable {P:Program}{K T E:TypeId}{w:World}{m:Nat}{kv:List (List UInt8×Value)}
theorem StrMap.lt(h:StrMap P K w m kv):m < w.heap.size:=h.2.choose_spec.1.lt
theorem StrMap.made(w:World):StrMap P K (w.alloc (.map #[] 0)) w.heap.size []:=
 ⟨by simp,.map [],World.ownsMap_made w P K Me,tidy_empty,rfl,fun i z=>rfl⟩
theorem StrMap.kept{w':World}(h:StrMap P K w m kv)(e:w'.heap[m]?=w.heap[m]?):StrMap P K w' m kv:=by
 obtain⟨hn,D,⟨es,clock,hb,F,hs,hD⟩,rest⟩:=h;exact⟨hn,D,⟨es,clock,e.trans hb,F,hs,hD⟩,rest⟩
theorem StrMap.upd{F:Nat→Prop}{w':World}(h:StrMap P K w m kv)(hu:A7 F w w')(hF:¬ F m):StrMap P K w' m kv:=h.kept (hu.block m h.lt hF)
theorem StrMap.lookup(h:StrMap P K w m kv)(hk:P.underlying K=some .string)(ht:P.underlying T=some (.map K E)){z:Value}(hz:(zeroValue E).run P w=.ok z w)(i:List UInt8)(hw:i.length≤maxLen):
  (Instr.lookup T (.map (some m)) (.string (bs i)) false).run P w=.ok ((Cr kv i).getD z) w:=by
 obtain⟨_,D,hown,_,_,hat⟩:=h;obtain⟨v,ps,hrun,hv⟩:=hown.lookup (string_keyed hk) ht hz (zd:=.held z) (zp:=[]) rfl (Zm hk hw);have e:=hat i (.held z);simp only[Me,Bt,Jc] at hv;rw[e] at hv;rw[hrun];cases hg:Cr kv i with
 |none=>rw[hg] at hv;simp at hv ⊢;exact hv.1
 |some u=>rw[hg] at hv;simp at hv ⊢;exact hv.1
theorem StrMap.RZ(h:StrMap P K w m kv)(hk:P.underlying K=some .string)(ht:P.underlying T=some (.map K E)){z:Value}(hz:(zeroValue E).run P w=.ok z w)(i:List UInt8)(hw:i.length≤maxLen):
  (Instr.lookup T (.map (some m)) (.string (bs i)) true).run P w=.ok (.tuple #[(Cr kv i).getD z,.bool (Cr kv i).isSome]) w:=by
 obtain⟨_,D,⟨es,clock,hb,F,_,rfl⟩,_,_,hat⟩:=h;rcases Maps.fit_look true (string_keyed hk) ht hz hb F (Zm hk hw) with⟨hrun,_,h2⟩|⟨e0,y,_,_,hrun,hRv,h2,_⟩
 ·cases hg:Cr kv i with
  |none=>simpa using hrun
  |some u=>
   have:=hat i .nil;rw[h2 .nil,hg] at this;cases this
 ·cases hg:Cr kv i with
  |none=>
   have:=hat i .nil;rw[h2 .nil,hg] at this;simp only[Me,Bt] at hRv;rw[←hRv] at this;cases this
  |some u=>
   have:=hat i .nil;rw[h2 .nil,hg] at this;simp only[Me,Bt] at hRv;rw[←hRv] at this;simp at this;simpa[this] using hrun
theorem StrMap.update(h:StrMap P K w m kv)(hk:P.underlying K=some .string)(ht:P.underlying T=some (.map K E))(i:List UInt8)(hw:i.length≤maxLen)(v:Value)(au4:kv.length < maxLen):
  ∃ w',(Instr.mapUpdate T (.map (some m)) (.string (bs i)) v).run P w=.ok () w'∧StrMap P K w' m (Ll i v kv)∧w.grownBy w' (some m):=by
 obtain⟨hn,D,hown,ht1,hsz,hat⟩:=h;obtain⟨w',hrun,asJ,hg⟩:=hown.update (string_keyed hk) ht au4 (key:=.string (bs i)) (val:=v) (Zm hk hw) (d:=.held v) (ps:=[]) rfl;have aug:size (D.put (.string i) (.held v))=(Ll i v kv).length:=by
  rw[size_put ht1,Wl (hat i),hsz];have:=uS (i:=i) hn;simp only[Ll,AX];cases hgi:(Cr kv i).isSome<;>simp[hgi] at this ⊢ <;>omega
 refine⟨w',hrun,⟨agF hn,_,?_,ht1.put (show WideAt.IsKeyLit (.string i) from trivial) _,aug,fun j z=>?_⟩,hg⟩
 ·obtain⟨es,clock,hb,F,_,hD⟩:=asJ;refine⟨es,clock,hb,F,?_,hD⟩;rw[←aug,hD,size_eq,length_sorted];simp
 ·by_cases e:j=i
  ·subst e;rw[atKey_put_same ht1.isMap (show WideAt.IsKeyLit (.string j) from trivial),uQ]
  ·rw[atKey_put_other (fun e'=>e (by cases e';rfl)),uR e];exact hat j z
theorem StrMap.delete(h:StrMap P K w m kv)(hk:P.underlying K=some .string)(ht:P.underlying T=some (.map K E))(i:List UInt8)(hw:i.length≤maxLen)(ty:TypeId):
  ∃ w',(Builtin.delete_ #[T,K] ty #[.map (some m),.string (bs i)]).run P w=.ok (.tuple #[]) w'∧StrMap P K w' m (FP i kv)∧w.grownBy w' (some m):=by
 obtain⟨hn,D,hown,ht1,hsz,hat⟩:=h;obtain⟨es,clock,hb,F,hs,hD⟩:=hown;obtain⟨es',hrun,F',hle,ayX,_⟩:=Maps.fit_drop (ty:=ty) (string_keyed hk) ht hb F (Zm hk hw);have hD':D.del (.string i)=.map ((es'.toList.map (WideElems.rg P K Me)).foldr DataW.insert []):=by rw[hD,DataW.del_eq,ayX]
 have aug:size (D.del (.string i))=(FP i kv).length:=by
  have h1:=size_del (k:=.string i) ht1;rw[Wl (hat i),hsz] at h1;have:=uS (i:=i) hn;cases hgi:(Cr kv i).isSome<;>simp[hgi] at this h1<;>omega
 refine⟨_,hrun,⟨uT hn,D.del (.string i),⟨es',clock,ChangeMaps.heap_setBlock_same hb _,F',?_,hD'⟩,ht1.del _,aug,fun j z=>?_⟩,⟨rfl,rfl,rfl,by simp[ChangeMaps.setBlock],fun k _ hk'=>ChangeMaps.heap_setBlock_other hb _ (fun e=>hk' (by rw[e]))⟩⟩
 ·rw[←aug,hD',size_eq,length_sorted];simp
 ·by_cases e:j=i
  ·subst e;rw[atKey_del_same,agE]
  ·rw[atKey_del_other (fun e'=>e (by cases e';rfl)),uP e];exact hat j z
end
end
section
open Go.RowKit Go.Maps
open Wal
theorem gY(s:List UInt8)(w:World)(hs:s.length≤100000000):
  Calls prog 127 #[.string (bs s)] w fun e w'=>e=.returned (.string (bs (pad s)))∧Bw w w':=by
 obtain⟨N,hN⟩:∃ N:Nat,N=(s.length+63) / 64*64:=⟨_,rfl⟩;have hq:((s.length:Int)+64 -1) / 64*64=(N:Int):=by omega
 obtain⟨m,hm⟩:∃ m:Nat,m=N -s.length:=⟨_,rfl⟩;have hm2:(N:Int) -(s.length:Int)=(m:Int):=by omega
 have gZ:Hid (pad s=s++List.replicate m 0):=Hi (by unfold pad;rw[←hN,←hm]);have hmb:m≤100:=by omega
 have hnb:N≤100000100:=by omega
 obtain⟨C,hmk,ast⟩:=uJ w m (by omega);have aBH:=RH prog (w.alloc (.cells C 5)) 232 5 9 underlying232 underlying5 underlying9 w.heap.size 0 m m (List.replicate m 0) List.length_replicate (fun i h=>by rw[Fs];exact ast.cell i h);clear ast hN hm;go_enter func127,ntmps127;go_wp2_with fail;go_ret;rw[gZ.out];exact⟨rfl,(Ad _ _).alloc (Ab _) _⟩
theorem WB(gen used:Nat)(w:World)(hg:gen < 18446744073709551616)(hu:used < 4294967296):
  Calls prog 128 #[.int .u64 gen,.int .i64 used] w fun e w'=>e=.returned (.string (bs (Wal.mark gen used)))∧Bw w w':=by
 have HG:=Hi hg;have hu2:(used:Int)≤4294967295:=by omega
 have WC:({ data:=#[76,79,71,49] }:ByteArray)=bs [76,79,71,49]:=rfl;clear hg;go_enter func128,ntmps128;go_wp2_with fail;refine(RL gen 8 _ (by have:=HG.out;exact this) (by decide) (by decide)).mono ?_;rintro e w1⟨rfl,hb1⟩;have HB1:=Hi hb1;clear hb1;go_wp2_with fail;refine(RL used 4 _ hu (by decide) (by decide)).mono ?_;rintro e w2⟨rfl,hb2⟩;have HB2:=Hi (HB1.trans (hb2.mono HB1.size));clear hb2;go_wp2_with fail;refine(Uf (76 :: 79 :: 71 :: 49 :: (Crc.le 8 gen++Crc.le 4 used)) _ (by simp[Crc.Be])).mono ?_;rintro e w3⟨rfl,hb3⟩;have HB3:=Hi (HB2.trans (hb3.mono HB2.size));clear hb3;go_wp2_with fail;refine(gY (Crc.Du (76 :: 79 :: 71 :: 49 :: (Crc.le 8 gen++Crc.le 4 used))) _ (by rw[Crc.Mc];simp[Crc.Be])).mono ?_;rintro e w4⟨rfl,hb4⟩;have Ay:=Hi (HB3.trans (hb4.mono HB3.size));clear hb4;go_wp2_with fail;go_ret;exact⟨rfl,Ay⟩
def Gi(l:List (List UInt8)):List UInt8×Int:=match EU l with|none=>([],5)|some t=>(t,0)
theorem Zn{l:List (List UInt8)}{s:List UInt8}(h:Er l=some s):s.length=rowLen l:=by
 unfold Er at h;split at h
 ·cases h1:textsE l with
  |none=>rw[h1] at h;cases h
  |some a=>
   rw[h1] at h;simp at h;subst h;have:=Pk h1;simp[Crc.Be];omega
 ·cases h
theorem Ut(l:List (List UInt8))(a:Option Addr)(cap:Nat)(w:World)(hl:BB w a l)(hlen:l.length≤maxLen)(asV:rowLen l≤10000000):
  Calls prog 170 #[.slice a l.length cap] w fun e w'=>e=.returned (.tuple #[.string (bs (Gi l).1),.int .i64 (Gi l).2])∧Bw w w':=by
 have HL:=Hi hl;have atv:=Hi hlen;clear hl hlen;cases hr:Er l with
 |none=>
  have hR:BK l=([],5):=by unfold BK;rw[hr]
  have hG:Gi l=([],5):=by unfold Gi EU;rw[hr];rfl
  have HR:=Hi hR;rw[hG];clear hr hR hG;go_enter func170,ntmps170;go_wp2_with fail;refine(uK l a cap w HL atv (by omega)).mono ?_;rw[HR.out];rintro e w1⟨rfl,hb⟩;have HB:=Hi hb;clear hb;go_wp2_with fail;go_ret2;exact⟨rfl,HB⟩
 |some s=>
  have hR:BK l=(s,0):=by unfold BK;rw[hr]
  have hG:Gi l=(pad (Crc.le 4 s.length++s),0):=by unfold Gi EU;rw[hr];rfl
  have hsl:=Zn hr;have Pm:=Hi asV;have HR:=Hi hR;rw[hG];clear hr hR hG;rw[←hsl] at asV;clear hsl;go_enter func170,ntmps170;go_wp2_with fail;refine(uK l a cap w HL atv (by have:=Pm.out;omega)).mono ?_;rw[HR.out];rintro e w1⟨rfl,hb⟩;have HB:=Hi hb;clear hb;go_wp2_with fail;refine(RL s.length 4 _ (by omega) (by decide) (by decide)).mono ?_;rintro e w2⟨rfl,hb2⟩;have HB2:=Hi (HB.trans (hb2.mono HB.size));clear hb2;go_wp2_with fail;refine(gY (Crc.le 4 s.length++s) _ (by simp[Crc.Be];omega)).mono ?_;rintro e w3⟨rfl,hb3⟩;have HB3:=Hi (HB2.trans (hb3.mono HB2.size));clear hb3;go_wp2_with fail;go_ret2;exact⟨rfl,HB3⟩
end
section
open Go.RowKit Go.Maps
open Wal
theorem Ji(P:Program)(W:World)(t:TypeId)(hu:P.underlying t=some .string)(s:List UInt8)(hi:Nat)(h2:hi≤s.length):
  (Instr.slice t (.string (bs s)) none (some (.int .i64 (hi:Int))) none).run P W=.ok (.string (bs (s.take hi))) W:=by
 have g2:(hi:Int)≤(s.length:Int):=by omega
 simp[Instr.slice,ER hu,Instr.sliceBounds,run_sliceBound,go_sem,g2]
theorem uU(P:Program)(W:World)(t:TypeId)(hu:P.underlying t=some .string)(s:List UInt8)(lo hi:Nat)(h1:lo≤hi)(h2:hi≤s.length):
  (Instr.slice t (.string (bs s)) (some (.int .i64 (lo:Int))) (some (.int .u64 (hi:Int))) none).run P W=.ok (.string (bs ((s.take hi).drop lo))) W:=by
 have g2:(hi:Int)≤(s.length:Int):=by omega
 simp[Instr.slice,ER hu,Instr.sliceBounds,run_sliceBound,go_sem,h1,g2]
theorem Zo{w:World}{base:Nat}{v:Value}{l:List (List UInt8)}(h:w.ownsRow base 9 1 v l.length (strCells l)):∃ a cap,v=.slice a l.length cap∧BB w a l:=by
 rcases h.2 with⟨e1,e2⟩|⟨g,cap,cur,e1,_⟩
 ·exact⟨none,0,by rw[e1,e2],fun i hi=>by omega⟩
 ·subst e1;refine⟨_,cap,rfl,fun i hi=>⟨⟨g,0,none⟩,rfl,?_⟩⟩;exact h.cells (g:=g) rfl i _ (QA l i hi)
def Uu(w:World)(s:List UInt8)(e:Ending)(w':World):Prop:=
 match GQ s with
 |none=>e=.returned (.tuple #[.slice none 0 0,.int .i64 0,.bool false])∧Bw w w'
 |some (l,k)=>∃ v,e=.returned (.tuple #[v,.int .i64 (k:Int),.bool true])∧w'.ownsRow 0 9 1 v l.length (strCells l)∧Bw w w'∧∀ g,v.ownBlock=some g→w.heap.size≤g
theorem Zp{w w':World}{s:List UInt8}{e:Ending}(h:GQ s=none)(he:e=.returned (.tuple #[.slice none 0 0,.int .i64 0,.bool false]))(hb:Bw w w'):Uu w s e w':=by
 unfold Uu;rw[h];exact⟨he,hb⟩
theorem agG{w w':World}{s:List UInt8}{l:List (List UInt8)}{k:Nat}{e:Ending}{v:Value}(h:GQ s=some (l,k))(he:e=.returned (.tuple #[v,.int .i64 (k:Int),.bool true]))(ho:w'.ownsRow 0 9 1 v l.length (strCells l))(hb:Bw w w')(hg:∀ g,v.ownBlock=some g→w.heap.size≤g):Uu w s e w':=by
 unfold Uu;rw[h];exact⟨v,he,ho,hb,hg⟩
theorem agH{s:List UInt8}{l:List (List UInt8)}(h4:4≤s.length)(hv:Crc.val (s.take 4)≤s.length -4)(h:C9 ((s.take (4+Crc.val (s.take 4))).drop 4)=some l):EU l=some (pad (s.take (4+Crc.val (s.take 4))))∧rowLen l=Crc.val (s.take 4):=by
 have hr:=Wj h;have hl:((s.take (4+Crc.val (s.take 4))).drop 4).length=Crc.val (s.take 4):=by rw[BA,Aw];omega
 refine⟨?_,by rw[←Zn hr,hl]⟩;unfold EU;rw[hr];simp only[Dm];rw[hl];have e:Crc.le 4 (Crc.val (s.take 4))=s.take 4:=by
  have:=Crc.VY (s.take 4);rwa[Aw,FM h4] at this
 rw[e];generalize Crc.val (s.take 4)=v at*;have h3:s.take 4=(s.take (4+v)).take 4:=by rw[List.take_take,FM (by omega)]
 rw[h3,Ja]
theorem agI(s:List UInt8)(w:World)(hs:s.length≤10000000)(h64:s.length % 64=0):
  Calls prog 129 #[.string (bs s)] w fun e w'=>Uu w s e w':=by
 by_cases h0:s.length < 64
 ·have hN:Hid (GQ s=none):=Hi (by unfold GQ;rw[Ac h0]);go_enter func129,ntmps129;go_wp2_with fail;go_ret3;exact Zp hN.out rfl (Ad _ _)
 ·have hc4:∀ W,(Instr.slice 9 (.string (bs s)) none (some (.int .i64 4)) none).run prog W=.ok (.string (bs (s.take 4))) W:=fun W=>Ji prog W 9 underlying9 s 4 (by omega)
  have hl4:(s.take 4).length=4:=by rw[Aw];omega
  have hv:=Crc.Gg (s.take 4);rw[hl4] at hv;have av3:=fun(W:World)=>QB (s.take 4) W (by omega) (by omega)
  have hG:=fun(l:List (List UInt8))=>@agH s l
  have Lm:GQ s=if Crc.val (s.take 4)≤s.length -4 then
   (C9 ((s.take (4+Crc.val (s.take 4))).drop 4)).bind fun l=>
    if pad (s.take (4+Crc.val (s.take 4)))=s.take (pad (s.take (4+Crc.val (s.take 4)))).length then some (l,(pad (s.take (4+Crc.val (s.take 4)))).length) else none
   else none:=by unfold GQ;rw[Aa h0]
  generalize Crc.val (s.take 4)=v at*;have azX:v < 4294967296:=hv;have Jj:=Hi av3;have HG:=Hi hG;have hw1:IntKind.u64.wrap ((s.length:Int) -4)=(s.length:Int) -4:=IntWalk.u64_in _ (by omega);clear hl4 hv av3 hG;by_cases hvs:v≤s.length -4
  ·rw[Ac hvs] at Lm;have ib:(v:Int)≤(s.length:Int) -4:=(by omega);have hw2:IntKind.u64.wrap (4+(v:Int))=4+(v:Int):=IntWalk.u64_in _ (by omega);have uV:∀ W,(Instr.slice 9 (.string (bs s)) (some (.int .i64 4)) (some (.int .u64 (4+(v:Int)))) none).run prog W=.ok (.string (bs ((s.take (4+v)).drop 4))) W:=fun W=>by
    have:=uU prog W 9 underlying9 s 4 (4+v) (by omega) (by omega);rw[Int.natCast_add] at this;exact this
   cases hr:C9 ((s.take (4+v)).drop 4) with
   |none=>
    have hN:Hid (GQ s=none):=Hi (by rw[Lm,hr];rfl);have HR:=Hi hr;clear Lm hr;go_enter func129,ntmps129;go_wp2_with fail;refine(Jj _).mono ?_;rintro e w1⟨rfl,rfl⟩;go_wp2_with fail;refine(Ww ((s.take (4+v)).drop 4) _ (by rw[BA,Aw];omega)).mono ?_;intro e w1 hp;unfold Il at hp;rw[HR.out] at hp;obtain⟨rfl,hb⟩:=hp;have HB:=Hi hb;clear hb;go_wp2_with fail;go_ret3;exact Zp hN.out rfl HB.out
   |some l=>
    obtain⟨hge,hrl⟩:=HG l (by omega) hvs hr;have hgv:Gi l=(pad (s.take (4+v)),0):=(by unfold Gi;rw[hge]);have uW:=Hi hgv;have HR:=Hi hr;have GX:=Hi hrl;rw[hr] at Lm;simp only[BI] at Lm;have htl:(pad (s.take (4+v))).length≤s.length:=(by rw[Md,Aw];omega);have hct:∀ W,(Instr.slice 9 (.string (bs s)) none (some (.int .i64 ((pad (s.take (4+v))).length:Int))) none).run prog W=.ok (.string (bs (s.take (pad (s.take (4+v))).length))) W:=fun W=>Ji prog W 9 underlying9 s _ htl
    have hll:l.length≤100000000:=by
     have:=GX.out;unfold rowLen at this;have h2:∀ (l:List (List UInt8)),l.length≤(l.map fun s=>2+s.length).sum:=by
      intro l
      induction l with
      |nil=>simp
      |cons x l ih=>simp;omega
     have:=h2 l;omega
    clear hr hgv hge hrl;generalize pad (s.take (4+v))=t at*;by_cases hts:t=s.take t.length
    ·rw[Ac hts] at Lm;have Eg:=Hi Lm;have hbt:(t == s.take t.length)=true:=(by rw[←hts];simp);have O9:=Hi hts;clear Lm hts;go_enter func129,ntmps129;go_wp2_with fail;refine(Jj _).mono ?_;rintro e w1⟨rfl,rfl⟩;go_wp2_with fail;refine(Ww ((s.take (4+v)).drop 4) _ (by rw[BA,Aw];omega)).mono ?_;intro e w1 hp;unfold Il at hp;rw[HR.out] at hp;obtain⟨vv,rfl,ho,hb,hn⟩:=hp;obtain⟨qa,ca,rfl,htx⟩:=Zo ho;have HB:=Hi hb;have HO:=Hi ho;have HN:=Hi hn;have S9:=Hi htx;clear hb ho hn htx;go_wp2_with fail;refine(Ut l qa ca _ S9 (by unfold maxLen;omega) (by rw[GX.out];omega)).mono ?_;rw[uW.out];rintro e w2⟨rfl,hb2⟩;have HB2:=Hi hb2;clear hb2;go_wp2_with fail;go_ret3;exact agG Eg rfl (AL HO (ub HB2) (fun _ _ f=>f)) (HB.trans (HB2.mono HB.size)) HN.out
    ·rw[Aa hts] at Lm;have Eg:=Hi Lm;have hbt:(t == s.take t.length)=false:=(by simp[hts]);have O9:=Hi hts;clear Lm hts;go_enter func129,ntmps129;go_wp2_with fail;refine(Jj _).mono ?_;rintro e w1⟨rfl,rfl⟩;go_wp2_with fail;refine(Ww ((s.take (4+v)).drop 4) _ (by rw[BA,Aw];omega)).mono ?_;intro e w1 hp;unfold Il at hp;rw[HR.out] at hp;obtain⟨vv,rfl,ho,hb,hn⟩:=hp;obtain⟨qa,ca,rfl,htx⟩:=Zo ho;have HB:=Hi hb;have HO:=Hi ho;have HN:=Hi hn;have S9:=Hi htx;clear hb ho hn htx;go_wp2_with fail;refine(Ut l qa ca _ S9 (by unfold maxLen;omega) (by rw[GX.out];omega)).mono ?_;rw[uW.out];rintro e w2⟨rfl,hb2⟩;have HB2:=Hi hb2;clear hb2;go_wp2_with fail;go_ret3;exact Zp Eg rfl (HB.trans (HB2.mono HB.size))
  ·have hN:Hid (GQ s=none):=Hi (by rw[Lm,Aa hvs]);have ib:(s.length:Int) -4 < (v:Int):=(by omega);clear Lm;go_enter func129,ntmps129;go_wp2_with fail;refine(Jj _).mono ?_;rintro e w1⟨rfl,rfl⟩;go_wp2_with fail;go_ret3;exact Zp hN.out rfl (Ad _ _)
end
section
open Go.RowKit Go.Maps
end
section
open Go.RowKit Go.Maps
section
variable {B:Nat}{w0 w:World}{b:Nat}{D:Dsk}{fp:Nat→Prop}
end
end
section
open Go.RowKit Go.WideShapes Go.ChangeShapes Go.Deep
theorem WE{α:Type}{P:Nat→α→Prop}:∀ (n:Nat),(∀ i,i < n→∃ x,P i x)→∃ l:List α,l.length=n∧∀ i,(h:i < l.length)→P i l[i]
 |0,_=>⟨[],rfl,fun i hi=>by simp at hi⟩
 |n+1,h=>by
  obtain⟨l,hl,hp⟩:=WE n (fun i hi=>h i (by omega));obtain⟨x,hx⟩:=h n (by omega);refine⟨l++[x],by simp[hl],fun i hi=>?_⟩;by_cases hin:i < l.length
  ·rw[O3 hin];exact hp i hin
  ·have:i=l.length:=(by simp at hi;omega);subst this;rw[Qm (Ab _)];simp;rw[hl];exact hx
theorem Zq{H:Type}{P:Program}{e:TypeId}{x:DataW H}{l:List (DataW H)}(h:x∈l){n:Nat}(hn:n∈DataW.weights P e x):n∈DataW.weightsAll P e l:=by
 induction l with
 |nil=>simp at h
 |cons y l ih=>
  simp only[DataW.weightsAll,Ee];rcases AZ.1 h with rfl|h
  ·exact .inl hn
  ·exact .inr (ih h)
theorem Po{cs:List Value}{n:Nat}(hl:cs.length=n)(j:Nat)(hj:j < n):(cs.drop j).take 1=[cs[j]'(by omega)]:=by
 rw[Na (by omega)];rfl
end
section
open Go.RowKit Go.WideShapes Go.ChangeShapes Go.Deep
end
section
open Go.RowKit Go.Maps
end
section
open Go.RowKit Go.Maps
end
section
open Go.RowKit Go.Maps
section
variable {B:Nat}{w0 w w':World}{b r:Nat}{D D' R R':Dsk}{fp fp' fr fr':Nat→Prop}
end
section
variable {B:Nat}{w0 w:World}{b r:Nat}{D R:Dsk}{fp fr:Nat→Prop}
end
end
section
open Go.RowKit Go.Maps
section
variable {B:Nat}{w0 w:World}{b r:Nat}{D R:Dsk}{fp fr:Nat→Prop}
end
end
section
namespace Dsk
theorem agJ(D:Dsk)(a:Nat)(s:List UInt8)(n:Nat):(writes D a s n).1.loose.length≤D.loose.length+n:=by
 induction n generalizing D a s with
 |zero=>exact Ab _
 |succ n ih=>
  simp only[writes];split
  ·show D.loose.length≤_;omega
  ·have:=ih { D with loose:=D.loose++[(a,s.take 64)],left:=max (D.left -1) (-1) } (a+1) (s.drop 64);have e:(D.loose++[(a,s.take 64)]).length=D.loose.length+1:=(by simp);simp only[e] at this;omega
theorem Ng(D:Dsk)(a:Int)(s:List UInt8):(D.write a s).1.loose.length≤D.loose.length+s.length / 64:=by
 unfold write;split
 ·exact Nat.le_add_right _ _
 ·split
  ·exact agJ _ _ _ _
  ·exact Nat.le_add_right _ _
theorem Oa(D:Dsk):D.flush.1.loose.length≤D.loose.length:=by unfold flush;split<;>simp
end Dsk
end
section
open Go.RowKit Go.Maps
end
section
open Go.RowKit Go.Maps
theorem AU.kinds{w:World}{b:Nat}{D:Dsk}{fp:Nat→Prop}(h:AU w b D fp)(k:Nat)(hk:fp k):¬ Ap w k 9∧¬ Ap w k 27:=by
 obtain⟨m,lv,hI,rfl⟩:=h;have key:∀ t,(t=9∨t=27)→¬ Ap w k t:=by
  rintro t ht⟨cs,fr,hb⟩;rcases hk with rfl|rfl|hk
  ·rw[hI.struct] at hb;injection hb with hb
   injection hb with _ hb _
   subst hb;rcases ht with ht|ht<;>cases ht
  ·obtain⟨kv,⟨_,D',⟨es,clock,hm,_⟩,_⟩,_⟩:=hI.base;rw[hm] at hb;injection hb with hb
   cases hb
  ·rcases hI.loose.2 with⟨e1,_⟩|⟨g,cap,cur,e1,_,hg,_⟩
   ·subst e1;simp[Value.ownBlock] at hk
   ·subst e1;simp[Value.ownBlock] at hk;subst hk;rw[hg] at hb;injection hb with hb
    injection hb with _ hb _
    subst hb;rcases ht with ht|ht<;>cases ht
 exact⟨key _ (.inl rfl),key _ (.inr rfl)⟩
section
variable {B:Nat}{w0 w w':World}{b g1 g2 n:Nat}{D D':Dsk}{fp fp':Nat→Prop}{A K:List (List (List UInt8))}
end
end
section
open Go.RowKit Go.Maps
open Wal
def Gj(w:World)(v:Value)(l:List (List UInt8)):Prop:=
 ∃ a cap,v=.slice a l.length cap∧∀ i (h:i < l.length),∃ g o,a=some ⟨g,o,none⟩∧Ap w g 9∧w.cell? ⟨g,o+i,none⟩=some (.string (bs l[i]))
theorem Gj.upd{F:Nat→Prop}{w w':World}{v:Value}{l:List (List UInt8)}(h:Gj w v l)(hu:A7 F w w')(hF:∀ k,Ap w k 9→¬ F k):Gj w' v l:=by
 obtain⟨a,cap,e,h⟩:=h;refine⟨a,cap,e,fun i hi=>?_⟩;obtain⟨g,o,e1,e2,e3⟩:=h i hi;exact⟨g,o,e1,e2.upd hu (hF g e2),(hu.cell (p:=⟨g,o+i,none⟩) e2.lt (hF g e2)).trans e3⟩
theorem Gj.texts{w:World}{v:Value}{l:List (List UInt8)}(h:Gj w v l):∃ a cap,v=.slice a l.length cap∧BB w a l:=by
 obtain⟨a,cap,e,h⟩:=h;refine⟨a,cap,e,fun i hi=>?_⟩;obtain⟨g,o,e1,_,e3⟩:=h i hi;exact⟨⟨g,o,none⟩,e1,by rw[Qr];exact e3⟩
theorem Gj.BU{w:World}{base:Nat}{v:Value}{l:List (List UInt8)}(h:w.ownsRow base 9 1 v l.length (strCells l)):Gj w v l:=by
 rcases h.2 with⟨e1,e2⟩|⟨g,cap,cur,e1,_,hg,_⟩
 ·exact⟨none,0,by rw[e1,e2],fun i hi=>by omega⟩
 ·subst e1;refine⟨_,cap,rfl,fun i hi=>⟨g,0,rfl,⟨_,_,hg⟩,?_⟩⟩;have:=h.cells (g:=g) rfl i _ (QA l i hi);rw[add_plain] at this;rw[Fs];exact this
def GY(w:World)(v:Value)(L:List (List (List UInt8))):Prop:=
 ∃ cs:List Value,w.ownsRow 0 27 1 v L.length cs∧cs.length=L.length∧(∀ u∈cs,u.oneCell'=true)∧∀ i (h:i < L.length) (h':i < cs.length),Gj w cs[i] L[i]
theorem GY.upd{F:Nat→Prop}{w w':World}{v:Value}{L:List (List (List UInt8))}(h:GY w v L)(hu:A7 F w w')(hF:∀ k,Ap w k 9→¬ F k)(hG:∀ g,v.ownBlock=some g→¬ F g):GY w' v L:=by
 obtain⟨cs,h1,h2,h3,h4⟩:=h;exact⟨cs,AL h1 hu hG,h2,h3,fun i hi hi'=>(h4 i hi hi').upd hu hF⟩
theorem GY.none(w:World):GY w (.slice none 0 0) []:=⟨[],DJ _ _ _ _,rfl,by simp,fun i hi=>by simp at hi⟩
structure AO where
 from_:Nat
 n:Nat
 gen:Nat
 used:Nat
 groups:List (List (List UInt8))
 fault:Int
def uX(L:AO)(b:Nat)(gv:Value):Array Value:=#[.int .u64 (L.gen:Int),.int .i64 (L.used:Int),.pointer (some ⟨b,0,none⟩),.int .i64 (L.from_:Int),.int .i64 (L.n:Int),gv,.int .i64 L.fault]
structure Bq(w:World)(x b:Nat)(gv:Value)(L:AO):Prop where
 struct:w.heap[x]?=some (.cells (uX L b gv) 207)
 groups:GY w gv L.groups
 gen:L.gen < 18446744073709551616
 used:L.used+1≤L.n
 n:L.from_+L.n≤16384
def Ba(x:Nat)(gv:Value)(k:Nat):Prop:=k=x∨gv.ownBlock=some k
theorem Bq.cells{w:World}{x b:Nat}{gv:Value}{L:AO}(h:Bq w x b gv L):
  w.cell? ⟨x,0,none⟩=some (.int .u64 (L.gen:Int))∧w.cell? ⟨x,1,none⟩=some (.int .i64 (L.used:Int))∧w.cell? ⟨x,2,none⟩=some (.pointer (some ⟨b,0,none⟩))∧w.cell? ⟨x,3,none⟩=some (.int .i64 (L.from_:Int))∧
  w.cell? ⟨x,4,none⟩=some (.int .i64 (L.n:Int))∧w.cell? ⟨x,5,none⟩=some gv∧w.cell? ⟨x,6,none⟩=some (.int .i64 L.fault)∧∀ j,w.frozen? ⟨x,j,none⟩=false:=by
 refine⟨?_,?_,?_,?_,?_,?_,?_,fun j=>Cb w x j _ _ h.struct⟩<;>rw[AY w x _ _ _ _ h.struct]<;>rfl
theorem Bq.lt{w:World}{x b:Nat}{gv:Value}{L:AO}(h:Bq w x b gv L):∀ k,Ba x gv k→k < w.heap.size:=by
 rintro k (rfl|hk)
 ·exact Ae h.struct
 ·obtain⟨cs,h1,_⟩:=h.groups;exact RO h1 hk
theorem Bq.ne{w:World}{x b:Nat}{gv:Value}{L:AO}(h:Bq w x b gv L):gv.ownBlock≠some x:=fun e=>by
 obtain⟨cs,h1,_⟩:=h.groups;exact Ap.ne (Bi h1 e) ⟨_,_,h.struct⟩ (by decide) rfl
theorem Bq.upd{F:Nat→Prop}{w w':World}{x b:Nat}{gv:Value}{L:AO}(h:Bq w x b gv L)(hu:A7 F w w')(hF:∀ k,Ap w k 9→¬ F k)(hG:∀ k,Ba x gv k→¬ F k):Bq w' x b gv L:=
 ⟨(hu.block x (Ae h.struct) (hG x (.inl rfl))).trans h.struct,h.groups.upd hu hF (fun g hg=>hG g (.inr hg)),h.gen,h.used,h.n⟩
theorem Bq.below{w w':World}{x b:Nat}{gv:Value}{L:AO}(h:Bq w x b gv L)(hb:Bw w w'):Bq w' x b gv L:=h.upd (ub hb) (fun _ _ f=>f) (fun _ _ f=>f)
theorem AU.agK{w:World}{b:Nat}{D:Dsk}{fp:Nat→Prop}(h:AU w b D fp)(k:Nat)(hk:fp k):¬ Ap w k 207:=by
 obtain⟨m,lv,hI,rfl⟩:=h;rintro⟨cs,fr,hb⟩;rcases hk with rfl|rfl|hk
 ·rw[hI.struct] at hb;injection hb with hb
  injection hb with _ hb _
  cases hb
 ·obtain⟨kv,⟨_,D',⟨es,clock,hm,_⟩,_⟩,_⟩:=hI.base;rw[hm] at hb;injection hb with hb
  cases hb
 ·rcases hI.loose.2 with⟨e1,_⟩|⟨g,cap,cur,e1,_,hg,_⟩
  ·subst e1;simp[Value.ownBlock] at hk
  ·subst e1;simp[Value.ownBlock] at hk;subst hk;rw[hg] at hb;injection hb with hb
   injection hb with _ hb _
   cases hb
theorem Bq.disk{w w':World}{x b b':Nat}{gv:Value}{L:AO}{D:Dsk}{fp:Nat→Prop}(h:Bq w x b gv L)(hd:AU w b' D fp)(hu:A7 fp w w'):Bq w' x b gv L:=
 h.upd hu (fun k hk hf=>(hd.kinds k hf).1 hk) (fun k hk hf=>by
  rcases hk with rfl|hk
  ·exact hd.agK k hf ⟨_,_,h.struct⟩
  ·obtain⟨cs,h1,_⟩:=h.groups;exact(hd.kinds k hf).2 (Bi h1 hk))
theorem Gj.one{w:World}{v:Value}{l:List (List UInt8)}(h:Gj w v l):v.oneCell'=true:=by
 obtain⟨a,cap,rfl,_⟩:=h;rfl
theorem Bq.pushed{w w1 w2:World}{x b:Nat}{gv lv v':Value}{L:AO}{l:List (List UInt8)}{cs:List Value}(h:Bq w x b gv L)(hl:Gj w lv l)
  (hcl:cs.length=L.groups.length)(hc1:∀ u∈cs,u.oneCell'=true)(hcr:∀ i (h:i < L.groups.length) (h':i < cs.length),Gj w cs[i] L.groups[i])
  (hb:Bw w w1)(asx:w1.grownBy w2 gv.ownBlock)(hown:w2.ownsRow 0 27 1 v' (L.groups.length+1) (cs++[lv]))(hat:v'.ownBlock=gv.ownBlock∨v'.ownBlock=some w1.heap.size):
  Bq (w2.setCell ⟨x,5,none⟩ v') x b v' { L with groups:=L.groups++[l] }∧A7 (Ba x gv) w (w2.setCell ⟨x,5,none⟩ v')∧Cg (Ba x gv) (Ba x v') w:=by
 have hx:=Ae h.struct;have hsz:=hb.size;have u1:A7 (fun k=>gv.ownBlock=some k) w w2:=(A7.of_below hb).trans (A7.of_grownBy (F:=fun k=>gv.ownBlock=some k) asx (fun k e=>e)) (fun k hk=>.inl hk);have hs2:w2.heap[x]?=some (.cells (uX L b gv) 207):=(u1.block x hx (fun e=>h.ne e)).trans h.struct;have hgb:∀ k,Ap w k 9→¬ gv.ownBlock=some k:=fun k hk e=>by
  obtain⟨cs',h1,_⟩:=h.groups;exact Ap.ne hk (Bi h1 e) (by decide) rfl
 have hv':v'.ownBlock≠some x:=fun e=>by
  rcases hat with hat|hat
  ·exact h.ne (by rw[←hat,e])
  ·rw[e] at hat;have:=EH hat;omega
 have c1:A7 (fun k=>k=x) w2 (w2.setCell ⟨x,5,none⟩ v'):=(A7.refl (fun k=>k=x) w2).setCell (p:=⟨x,5,none⟩) (.inl rfl) _;have keep:∀ v l,Gj w v l→Gj (w2.setCell ⟨x,5,none⟩ v') v l:=fun v l hr=>(hr.upd u1 hgb).upd c1 (fun k hk e=>by subst e;exact Ap.ne hk ⟨_,_,hs2⟩ (by decide) rfl)
 refine⟨⟨Bh w2 x 5 _ _ v' hs2,⟨cs++[lv],?_,by simp[hcl],?_,fun i hi hi'=>?_⟩,h.gen,h.used,h.n⟩,?_,?_⟩
 ·show World.ownsRow _ 0 _ 1 v' (L.groups++[l]).length _
  rw[Aj];exact AL hown c1 (fun g hg e=>hv' (by rw[hg,e]))
 ·intro u hu;rcases Ee.1 hu with hu|hu
  ·exact hc1 u hu
  ·rw[DT] at hu;subst hu;exact hl.one
 ·by_cases hlt:i < L.groups.length
  ·show Gj _ _ (L.groups++[l])[i]
   rw[O3 (by omega),O3 hlt];exact keep _ _ (hcr i hlt (by omega))
  ·have hi2:i < (L.groups++[l]).length:=hi;rw[Aj,Ii] at hi2;have e:i=L.groups.length:=by omega
   show Gj _ _ (L.groups++[l])[i]
   rw[Qm (by omega),Qm (by omega)];simp only[List.getElem_singleton];exact keep _ _ hl
 ·exact(u1.mono (fun k e=>.inr e)).setCell (p:=⟨x,5,none⟩) (.inl (.inl rfl)) _
 ·rintro k (rfl|hk)
  ·exact .inl (.inl rfl)
  ·rcases hat with hat|hat
   ·exact .inl (.inr (by rw[←hat];exact hk))
   ·rw[hat] at hk;have:=EH hk;exact .inr (by omega)
end
end Go.Proofs.YtmbbhdebddbhoaaGreat
