/- Parts. -/
import Derived.Test.YtlakomilichhnaaGreatDoorROi
import Derived.Test.YtlakomilichhnaaGreatDoorROk
import Derived.Test.YtlakomilichhnaaGreatDoorROx
namespace Go.Proofs.YtlakomilichhnaaGreatDoor
set_option maxHeartbeats 3200000
set_option maxRecDepth 100000
open Go.RowKit
open Act renaming put->Fi
open Bool renaming eq_iff_iff->Bx,or_false->If
open Cp renaming ltI->Bf,puts->BP,puts_mem->Jz
open Go renaming Addr->Aq,Calls->Af,Value->Ak,World->Ab,callFunc->F6,cell_later->A4,heap_alloc_new->Ae,maxLen->Ap,wpAnyH_take->DA,zeroValue->K6
open Ix renaming Dist->LH,IA->DC,OwnI->Bq,PT->C5,PsA->DT,nkey->Gt,phrase->JQ
open Ix.IA renaming of_own->Cb
open Lib renaming hid->J
open List renaming any_append->M3,append_nil->AB,filter_append->CE,getElem?_eq_getElem->Ai,length_append->Ag,length_filter_le->BB,length_map->Ax,length_take->Az,map_append->AY,mem_cons_of_mem->BH,mem_cons_self->B8,mem_filter->Be,mem_map->BG,mem_of_getElem?->AJ,mem_singleton->B9,nil_append->C8,setIfInBounds_toArray->Bj,set_cons_succ->BS,set_cons_zero->BR,take_add_one->Cz,take_length->At,take_zero->BJ
open Nat renaming add_zero->BN,le_refl->Ad,le_trans->Au,zero_le->Am,zero_mul->F7
open Option renaming none->A0,some->A3
open Or renaming inl->Gq,inr->Iy
open Proofs renaming enters_of->Hm,intOf->Aj,own_below->B4
open Proofs.Tryz renaming func38->IK,ntmps38->I4,prog->A8,underlying35->Bk,underlying63->Ft
open Qr renaming KA->Le,Qy->Cq
open Rc renaming FldA->Bz,Rd->Ci,cell_lt->Km,year->DQ
open RowKit renaming Below->Aa
open RowKit.Below renaming refl->Ah
open Sr renaming Fd->FK,In64->F4,Rg->Iq,ev->CJ,evalQ->Jf,leafX->Bt,ownI_le->EN,yrB->Hy
open Tx renaming below_drewN->DP,blk->A7,ent6->IU,newb->A9,step->Ac
open Value renaming int->B3
open Vm renaming Map->G8,ins_step->G6,upd->H7,upd_other->C3,upd_same->EV
open World renaming cell?_of_block->Ce,cell?_setCell_other->JN,ownsRow_nil->AI,setCell->B5
variable {P:Prop}
namespace Qr
end Qr
namespace Rc
end Rc
namespace Vm
theorem Map.look_ok {k:TypeId}{w:Ab}{M n:Nat}{f:Lit->Option Ak} (h:Map k w M n f) (K:Maps.Keyed A8 k) {t e:TypeId} (ht:A8.underlying t=A3 (.map k e)) {z:Ak} (hz:(K6 e).run A8 w=.ok z w) {key:Ak}{kl:Lit} (hkey:keyOf A8 k key=A3 kl) {v:Ak} (hv:(f kl).getD z=v) :
  (Instr.lookup t (.map (A3 M)) key true).run A8 w=.ok (.tuple #[v,.bool (f kl).isSome]) w:=by
 obtain⟨D,h1,h2⟩:=h.d;obtain⟨u,ps,hrun,hu⟩:=h1.look_ok K ht hz (zd:=.held z) (zp:=[]) rfl hkey;rw[(h2 kl).2]at hu;rw[(h2 kl).1]at hrun
 have e:u=v:=by
  injection hu with hu;injection hu with hu;cases hf:f kl with
  | none=>rw[hf]at hu hv;injection hu with hu;rw[hu];exact hv
  | some x=>rw[hf]at hu hv;injection hu with hu;rw[hu];exact hv
 rw[hrun,e]
end Vm
namespace Sr
open Rc hiding bys
open Qr
open Classical in
noncomputable def knowF (l:List Rd):Lit->Option Ak:=fun kl=>if ∃ r∈l,kl=.int .i64 r.id then A3 (.bool true) else A0
theorem knowF_at (l:List Rd) (n:Int):(knowF l (.int .i64 n)).getD (.bool false)=.bool (decide (n∈l.map (·.id))):=by
 unfold knowF;by_cases h:∃ r∈l,Lit.int .i64 n=.int .i64 r.id
 ·rw[if_pos h];obtain⟨r,hr,e⟩:=h;injection e with _ e;rw[decide_eq_true (BG.2 ⟨r,hr,e.symm⟩)];rfl
 ·rw[if_neg h,decide_eq_false]
  ·rfl
  ·intro h1;obtain⟨r,hr,e⟩:=BG.1 h1;exact h ⟨r,hr,by rw[e]⟩
theorem in64_wf {x:Int} (h:In64 x):(Lit.int .i64 x).wf=true:=WalkArith.wf_i64 (by unfold In64 at h;omega)
theorem in64_key {x:Int} (h:In64 x):keyOf A8 3 (.int .i64 x)=A3 (.int .i64 x):=Maps.keyOf_int_mk Tryz.underlying3 (in64_wf h)
theorem bzero (w:Ab):(K6 4).run A8 w=.ok (.bool false) w:=by kernel_rfl
structure CapK (w:Ab) (bx P MI nI:Nat) (l:List Rd):Prop where
 k0:w.cell? ⟨bx,0,A0⟩=A3 (.pointer (A3 ⟨P,0,A0⟩))
 k2:w.cell? ⟨P,2,A0⟩=A3 (.map (A3 MI))
 mi:G8 3 w MI nI (knowF l)
theorem CapK.grown {w w':Ab}{bx P MI nI:Nat}{l:List Rd}{row:Option Nat} (h:CapK w bx P MI nI l) (hg:w.grownBy w' row) (h1:A3 bx≠row) (h2:A3 P≠row) (h3:A3 MI≠row):CapK w' bx P MI nI l :=
 ⟨(Ce (hg.block bx (Km h.k0) h1)).trans h.k0,(Ce (hg.block P (Km h.k2) h2)).trans h.k2,h.mi.kept hg h3⟩
end Sr
theorem sr_known1_enters:∀ args w,(F6 147 args).run A8 w=.ok (.enter 147 args) w:=Hm Tryz.func147 oJ rfl
theorem sr_known1_c (l:List Ci) (bx P MI nI:Nat) (x:Int) (w:Ab) (h:Sr.CapK w bx P MI nI l) (hx:F4 x) :
  Af A8 147 #[.int .i64 x,.pointer (A3 ⟨bx,0,A0⟩)] w fun e w'=>e=.returned (.bool (!decide (x∈l.map (·.id))))/\w=w':=by
 obtain⟨k0,k2,mi⟩:=h;have hrun:=mi.look Gt Tryz.underlying62 (Sr.bzero w) (Sr.in64_key hx) (Sr.knowF_at l x);obtain⟨b,hb⟩:∃ b,decide (x∈l.map (·.id))=b:=⟨_,rfl⟩;rw[hb]at hrun ⊢;clear mi hb hx;go_enter Tryz.func147,Tryz.ntmps147;go_wp2;go_ret;exact⟨rfl,rfl⟩
namespace Sr
open Rc hiding bys
open Qr
abbrev fnW (P:Nat):Ak:=.func (.func 34) #[.pointer (A3 ⟨P,0,A0⟩)] #[]
abbrev fnY (P:Nat):Ak:=.func (.func 35) #[.pointer (A3 ⟨P,0,A0⟩)] #[]
abbrev fnK (P:Nat):Ak:=.func (.func 36) #[.pointer (A3 ⟨P,0,A0⟩)] #[]
noncomputable def findF (P:Nat):Lit->Option Ak :=
 H7 (H7 (H7 (H7 (H7 (H7 (H7 (fun _=>A0) (.int .i64 1) (fnW P)) (.int .i64 2) (fnW P)) (.int .i64 3) (fnW P)) (.int .i64 4) (fnY P)) (.int .i64 5) (fnK P)) (.int .i64 6) (fnK P)) (.int .i64 7) (fnK P)
theorem ne_lit {a b:Int} (h:a≠b):Lit.int .i64 a≠.int .i64 b:=fun e=>h (by injection e)
theorem yc9 (h:P:=by
 rcases h with rfl | rfl | rfl
 ·rw[C3 _ _ (ne_lit oQ),C3 _ _ (ne_lit oQ),EV]
 ·rw[C3 _ _ (ne_lit oQ),EV]
 ·rw[EV]):P:=h
theorem findF_w {o:Int} (P:Nat) (h:o=1\/o=2\/o=3):findF P (.int .i64 o)=A3 (fnW P):=by
 unfold findF;rw[C3 _ _ (ne_lit oQ),C3 _ _ (ne_lit oQ),C3 _ _ (ne_lit oQ),C3 _ _ (ne_lit oQ)];exact yc9
theorem findF_y (P:Nat):findF P (.int .i64 4)=A3 (fnY P):=by
 unfold findF;rw[C3 _ _ (ne_lit oQ),C3 _ _ (ne_lit oQ),C3 _ _ (ne_lit oQ),EV]
theorem findF_k {o:Int} (P:Nat) (h:o=5\/o=6\/o=7):findF P (.int .i64 o)=A3 (fnK P):=by
 unfold findF;exact yc9
structure Gx (T:List C5):Prop where
 len:T.length<=2500000000
 wl:∀ t∈T,t.1.word.length<=140737488351232
 al:∀ t∈T,t.1.at_.length<=9223372036854775807
 ids:∀ t∈T,In64 t.1.id
 asc:Ix.Asc (T.map (·.1))
 at0:∀ t∈T,∀ n∈t.1.at_,0<=n/\n<=9223372036854775807
structure Ev (w:Ab) (P MI MF nI:Nat) (T:List C5) (xa:Option Aq) (xc:Nat) (l:List Rd) (la:Option Aq) (lc:Nat):Prop where
 c0:w.cell? ⟨P,0,A0⟩=A3 (.slice xa T.length xc)
 c1:w.cell? ⟨P,1,A0⟩=A3 (.slice la l.length lc)
 c2:w.cell? ⟨P,2,A0⟩=A3 (.map (A3 MI))
 c3:w.cell? ⟨P,3,A0⟩=A3 (.map (A3 MF))
 px:DT w xa xc T
 rl:Rc.RdA w la lc l
 mi:G8 3 w MI nI (knowF l)
 mf:G8 3 w MF 7 (findF P)
variable {w w' : Ab} {P MI MF nI : Nat} {T : List C5} {xa : Option Aq} {xc : Nat} {l : List Rd} {la : Option Aq} {lc : Nat}
theorem Ev.below (h:Ev w P MI MF nI T xa xc l la lc) (hb:Aa w.heap.size w w'):Ev w' P MI MF nI T xa xc l la lc :=
 ⟨A4 hb h.c0,A4 hb h.c1,A4 hb h.c2,A4 hb h.c3,h.px.below hb,h.rl.below hb,h.mi.below hb,h.mf.below hb⟩
theorem word_in64 {T:List C5} (h:∀ t∈T,In64 t.1.id) {x:List Ix.Post} (hx:T.map (·.1)=x) {p:Ix.Post->Bool}:∀ n∈BP Bf ((x.filter p).map (·.id)),In64 n:=by
 intro n hn;rw[Jz,BG]at hn;obtain⟨q,hq,rfl⟩:=hn;have hq:=(Be.1 hq).1;rw[<- hx]at hq;obtain⟨t,ht,rfl⟩:=BG.1 hq;exact h t ht
end Sr
theorem sr_known_c (P MI MF nI:Nat) (T:List C5) (xa:Option Aq) (xc:Nat) (l:List Ci) (la:Option Aq) (lc:Nat) (L:List Int) (ia:Option Aq) (ic:Nat) (w:Ab) (hE:Sr.Ev w P MI MF nI T xa xc l la lc) (hL:DC w ia ic L) (hr:∀ x∈L,F4 x) (hl:L.length<=1000000000000) :
  Af A8 80 #[.pointer (A3 ⟨P,0,A0⟩),.slice ia L.length ic] w fun e w'=>∃ v,e=.returned v/\Bq w' w.heap.size v (L.filter fun n=>decide (n∈l.map (·.id)))/\Aa w.heap.size w w':=by
 have hmf:=za;obtain⟨W,hW,hB,k0⟩:=Tx.ent1 w (.pointer (A3 ⟨P,0,A0⟩)) 61;have hWs:=zv;have hPl:=Km hE.c2;have hMl:=hE.mi.lt;have hEW:=hE.below hB;have hCK:Sr.CapK W w.heap.size P MI nI l:=⟨k0,hEW.c2,hEW.mi⟩;have HCL:=J (cloneI_c L ia ic W (hL.below hB) hl);have HCK:=J hCK;have HR:=J hr
 have HD:Hid (∀ (v:Ak) (w1:Ab),Bq w1 W.heap.size v L->Aa W.heap.size W w1->Af A8 85 #[v,.func (.func 147) #[] #[.pointer (A3 ⟨w.heap.size,0,A0⟩)]] w1 fun e w'=>∃ v',e=.returned v'/\Bq w' W.heap.size v' (L.filter fun n=>decide (n∈l.map (·.id)))/\w1.grownBy w' v.ownBlock):=J (fun v w1 ho hb1=>by
  have hC1:=HCK.out.grown (Sr.grown_below hb1 A0) oZ oZ oZ;have hlow:=fun g hg=>(ho.lt g hg).1;have hne:∀ b,b<W.heap.size->A3 b≠v.ownBlock:=fun b hb e=>by have:=hlow b e.symm;omega
  have hd:=delI_c 147 #[.pointer (A3 ⟨w.heap.size,0,A0⟩)] sr_known1_enters (fun x=>!decide (x∈l.map (·.id))) L v W.heap.size w1 ho HR.out hl (fun x hx W' hg=>(sr_known1_c l w.heap.size P MI nI x W' (hC1.grown hg (hne _ oQ) (hne _ oQ) (hne _ oQ)) hx).mono fun e w' ⟨he,hw⟩=>⟨he,0,hw▸(World.drewN_zero W').symm⟩);refine hd.mono fun e w' ⟨v',he,ho',_,hg⟩=>⟨v',he,?_,hg⟩;have e9:(L.filter fun x=>!!decide (x∈l.map (·.id)))=L.filter fun n=>decide (n∈l.map (·.id)):=by congr 1;funext x;rw[Bool.not_not]
  rwa [e9]at ho')
 clear hE hL hr hEW hCK k0;go_enter Tryz.func80,Tryz.ntmps80
 go_wp2_with (first
  |(go_at_call 85;(with_reducible refine (HD.out _ _ HO1.out HB1.out).mono ?_);rintro e w2 ⟨v2,rfl,ho2,hg2⟩;have HO2:=J ho2;clear ho2)
  |(go_at_call 53;(with_reducible refine HCL.out.mono ?_);rintro e w1 ⟨v1,rfl,ho1,hb1⟩;have HO1:=J ho1;have HB1:=J hb1;clear ho1 hb1))
 go_ret;exact⟨_,rfl,EN HO2.out oQ,Ac hB (HB1.out.grown hg2 HB1.out.size (fun i hi=>(HO1.out.lt i hi).1))⟩
namespace Sr
theorem phr_sub (x:List Ix.Post) (f:Int) (ws:List Ix.By):∀ n∈JQ x f ws,∃ p∈x,p.id=n:=by
 intro n hn;unfold JQ at hn;rw[Jz]at hn;cases ws with
 | nil=>simp[Ix.phr]at hn
 | cons s r =>
  obtain⟨p,hp,_,_,e,_⟩:=Ix.phr_mem.1 (by rw[<- Jz (lt:=Bf)]at hn;exact hn);exact⟨p,hp,e⟩
theorem phr_in64 {T:List C5} (h:∀ t∈T,In64 t.1.id) {f:Int}{ws:List Ix.By}:∀ n∈JQ (T.map (·.1)) f ws,In64 n:=by
 intro n hn;obtain⟨p,hp,rfl⟩:=phr_sub _ _ _ n hn;obtain⟨t,ht,rfl⟩:=BG.1 hp;exact h t ht
theorem phr_len {T:List C5} (hX:Gx T) (f:Int) (ws:List Ix.By) (hw:ws.length<=100000):(JQ (T.map (·.1)) f ws).length<=T.length:=by
 rw[<- Ix.phr_same hX.asc hX.at0 f ws hw];refine Au (puts_len _ _) ?_;unfold Ix.phrQ Ix.ofF;refine Au (BB _ _) ?_;rw[Ax];exact BB _ _
end Sr
theorem ywo (h:P:=by
 go_split_ands;go_wp2;go_ret;have hb9:=zff;have hfl:=BB (fun n=>decide (n∈l.map (·.id))) L;exact⟨_,_,rfl,HO.out,HFD.out,oQ,Ac hB hb9⟩):P:=h
theorem ygs (h:P:=by
 rw[<- hL];refine Au ?_ hX.len;refine Au (Sr.puts_len _ _) ?_;rw[Ax];exact Au (BB _ _) uB):P:=h
theorem vf7 (h:P:=by
 have KC:∀ W' ia ic,Aa W.heap.size W W'->DC W' ia ic L->_:=fun W' ia ic h9 h8=>sr_known_c P MI MF nI T xa xc l la lc L ia ic W' (hEW.below h9) h8 hin oQ;have HXC:=J XC;have HKC:=J KC;have HFD:=J hFd;have p0:=hEW.c0;have hWs:=hB.size
 first
  |obtain⟨b2,o2,rfl,hb2,y0⟩:=(hw.below hB).get (k:=0) (x:=y) rfl
   rw[BN]at y0;clear hE hX hw hin hFd XC KC hEW hL;go_enter Tryz.func34,Tryz.ntmps34;go_wp2;clear hW
   go_region_held3 (fun w'=>Aa W.heap.size W w'/\w'.cell? ⟨w.heap.size,1,A0⟩=A3 (.int .i64 f)/\w'.cell? ⟨w.heap.size,2,A0⟩=A3 (.slice (A3 ⟨b2,o2,A0⟩) 1 sc)/\w'.cell? ⟨b2,o2,A0⟩=A3 (.string y)/\w'.cell? ⟨P,0,A0⟩=A3 (.slice xa T.length xc))
    (first | exact⟨(Ah _ _).drew,d1,d2,y0,p0⟩ | (go_split_ands;exact⟨Ac ‹_› hbx,by repeat' first | exact A4 hbx ‹_› | constructor⟩))
    (first
     |(go_split_ands;go_at_call 81;((with_reducible refine (HXC.out _ ‹_›).mono ?_);rintro e wx ⟨v,rfl,ho,hbx⟩;obtain⟨va,vc,rfl,hia,_⟩:=Cb ho rfl;have HIA:=J hia;clear hia ho))
     |(go_split_ands;go_at_call 80;((with_reducible refine (HKC.out _ _ _ ‹_› HIA.out).mono ?_);rintro e wx ⟨v,rfl,ho,hbx⟩;have hwsz:=(by assumption:Aa W.heap.size W _).size;have HO:=J (EN ho (Au hWs hwsz));clear ho)))
   exact ywo
  |obtain⟨b2,o2,rfl,hb2,y0⟩:=(hw.below hB).get (k:=0) (x:=y) rfl
   rw[BN]at y0;clear hE hX hw hin hFd XC KC hEW hL;go_enter Tryz.func34,Tryz.ntmps34;go_wp2;clear hW
   go_region_held3 (fun w'=>Aa W.heap.size W w'/\w'.cell? ⟨w.heap.size,1,A0⟩=A3 (.int .i64 f)/\w'.cell? ⟨w.heap.size,2,A0⟩=A3 (.slice (A3 ⟨b2,o2,A0⟩) 1 sc)/\w'.cell? ⟨b2,o2,A0⟩=A3 (.string y)/\w'.cell? ⟨P,0,A0⟩=A3 (.slice xa T.length xc))
    (first | exact⟨(Ah _ _).drew,d1,d2,y0,p0⟩ | (go_split_ands;exact⟨Ac ‹_› hbx,by repeat' first | exact A4 hbx ‹_› | constructor⟩))
    (first
     |(go_split_ands;go_at_call 82;((with_reducible refine (HXC.out _ ‹_›).mono ?_);rintro e wx ⟨v,rfl,ho,hbx⟩;obtain⟨va,vc,rfl,hia,_⟩:=Cb ho rfl;have HIA:=J hia;clear hia ho))
     |(go_split_ands;go_at_call 80;((with_reducible refine (HKC.out _ _ _ ‹_› HIA.out).mono ?_);rintro e wx ⟨v,rfl,ho,hbx⟩;have hwsz:=(by assumption:Aa W.heap.size W _).size;have HO:=J (EN ho (Au hWs hwsz));clear ho)))
   exact ywo
  |have hwp:(ws.length:Int)≠0:=by have:=List.length_pos_iff.2 hw0;omega
   have hwq:((ws.length:Int) == 0)=false:=beq_eq_false_iff_ne.2 hwp;clear hE hX hw hin hFd XC KC hEW hL hwz;go_enter Tryz.func34,Tryz.ntmps34;go_wp2;clear hW
   go_region_held3 (fun w'=>Aa W.heap.size W w'/\w'.cell? ⟨w.heap.size,1,A0⟩=A3 (.int .i64 f)/\w'.cell? ⟨w.heap.size,2,A0⟩=A3 (.slice sa ws.length sc)/\w'.cell? ⟨P,0,A0⟩=A3 (.slice xa T.length xc))
    (first | exact⟨(Ah _ _).drew,d1,d2,p0⟩ | (go_split_ands;exact⟨Ac ‹_› hbx,by repeat' first | exact A4 hbx ‹_› | constructor⟩))
    (first
     |(go_split_ands;go_at_call 83;((with_reducible refine (HXC.out _ ‹_›).mono ?_);rintro e wx ⟨v,rfl,ho,hbx⟩;obtain⟨va,vc,rfl,hia,_⟩:=Cb ho rfl;have HIA:=J hia;clear hia ho))
     |(go_split_ands;go_at_call 80;((with_reducible refine (HKC.out _ _ _ ‹_› HIA.out).mono ?_);rintro e wx ⟨v,rfl,ho,hbx⟩;have hwsz:=(by assumption:Aa W.heap.size W _).size;have HO:=J (EN ho (Au hWs hwsz));clear ho)))
   exact ywo):P:=h
theorem sr_words_1 (P MI MF nI:Nat) (T:List C5) (xa:Option Aq) (xc:Nat) (l:List Ci) (la:Option Aq) (lc:Nat) (f:Int) (y:ByteArray) (sa:Option Aq) (sc:Nat) (ka:Option Aq) (kc:Nat) (w:Ab) (hE:Sr.Ev w P MI MF nI T xa xc l la lc) (hX:Sr.Gx T) (hw:SLA w sa sc [y]) :
  Af A8 34 #[.pointer (A3 ⟨P,0,A0⟩),.agg #[.int .i64 1,.int .i64 f,.slice sa 1 sc,.int .i64 0,.int .i64 0,.slice ka 0 kc]] w fun e w'=>∃ v out,e=.returned v/\Bq w' w.heap.size v out/\FK l (fun r=>CJ (Bt (T.map (·.1)) r) (.mk 1 f [y] 0 0 [])) out/\out.length<=1000000000000/\Aa w.heap.size w w':=by
 obtain⟨W,hW,hB,d0,d1,d2,d3,d4,d5⟩:=IU w (.int .i64 1) (.int .i64 f) (.slice sa 1 sc) (.int .i64 0) (.int .i64 0) (.slice ka 0 kc) 29;obtain⟨L,hL⟩:=zns
 have hin:∀ n∈L,F4 n:=by
  rw[<- hL];exact Sr.word_in64 hX.ids rfl
 have hlen:L.length<=2500000000:=by
  exact ygs
 have hFd:FK l (fun r=>CJ (Bt (T.map (·.1)) r) (.mk 1 f [y] 0 0 [])) (L.filter fun n=>decide (n∈l.map (·.id))) :=
  (Sr.Fd.known l L).congr fun r _=>by rw[CJ,if_neg oX,if_neg oX,if_neg oX,<- hL];rfl
 have hEW:=hE.below hB;have XC:∀ W',Aa W.heap.size W W'->_:=fun W' h9=>ix_Word_c T xa xc f y.data.toList W' (hEW.px.below h9) iY;rw[<- Ix.word_T,hL]at XC;exact vf7
theorem sr_words_2 (P MI MF nI:Nat) (T:List C5) (xa:Option Aq) (xc:Nat) (l:List Ci) (la:Option Aq) (lc:Nat) (f:Int) (y:ByteArray) (sa:Option Aq) (sc:Nat) (ka:Option Aq) (kc:Nat) (w:Ab) (hE:Sr.Ev w P MI MF nI T xa xc l la lc) (hX:Sr.Gx T) (hw:SLA w sa sc [y]) :
  Af A8 34 #[.pointer (A3 ⟨P,0,A0⟩),.agg #[.int .i64 2,.int .i64 f,.slice sa 1 sc,.int .i64 0,.int .i64 0,.slice ka 0 kc]] w fun e w'=>∃ v out,e=.returned v/\Bq w' w.heap.size v out/\FK l (fun r=>CJ (Bt (T.map (·.1)) r) (.mk 2 f [y] 0 0 [])) out/\out.length<=1000000000000/\Aa w.heap.size w w':=by
 obtain⟨W,hW,hB,d0,d1,d2,d3,d4,d5⟩:=IU w (.int .i64 2) (.int .i64 f) (.slice sa 1 sc) (.int .i64 0) (.int .i64 0) (.slice ka 0 kc) 29;obtain⟨L,hL⟩:=zmx
 have hin:∀ n∈L,F4 n:=by
  rw[<- hL];exact Sr.word_in64 hX.ids rfl
 have hlen:L.length<=2500000000:=by
  exact ygs
 have hFd:FK l (fun r=>CJ (Bt (T.map (·.1)) r) (.mk 2 f [y] 0 0 [])) (L.filter fun n=>decide (n∈l.map (·.id))) :=
  (Sr.Fd.known l L).congr fun r _=>by rw[CJ,if_neg oX,if_neg oX,if_neg oX,<- hL];rfl
 have hEW:=hE.below hB;have XC:∀ W',Aa W.heap.size W W'->_:=fun W' h9=>ix_Prefix_c T xa xc f y.data.toList W' (hEW.px.below h9) iY;rw[<- Ix.prefix_T,hL]at XC;exact vf7
theorem sr_words_3 (P MI MF nI:Nat) (T:List C5) (xa:Option Aq) (xc:Nat) (l:List Ci) (la:Option Aq) (lc:Nat) (f:Int) (ws:List ByteArray) (sa:Option Aq) (sc:Nat) (ka:Option Aq) (kc:Nat) (w:Ab) (hE:Sr.Ev w P MI MF nI T xa xc l la lc) (hX:Sr.Gx T) (hw:SLA w sa sc ws) (hw0:ws≠[]) (hwn:ws.length<=8) (hwz:∀ s∈ws,s.size<=50000000) :
  Af A8 34 #[.pointer (A3 ⟨P,0,A0⟩),.agg #[.int .i64 3,.int .i64 f,.slice sa ws.length sc,.int .i64 0,.int .i64 0,.slice ka 0 kc]] w fun e w'=>∃ v out,e=.returned v/\Bq w' w.heap.size v out/\FK l (fun r=>CJ (Bt (T.map (·.1)) r) (.mk 3 f ws 0 0 [])) out/\out.length<=1000000000000/\Aa w.heap.size w w':=by
 obtain⟨W,hW,hB,d0,d1,d2,d3,d4,d5⟩:=IU w (.int .i64 3) (.int .i64 f) (.slice sa ws.length sc) (.int .i64 0) (.int .i64 0) (.slice ka 0 kc) 29;obtain⟨L,hL⟩:=zkp
 have hin:∀ n∈L,F4 n:=by
  rw[<- hL];exact Sr.phr_in64 hX.ids
 have hlen:L.length<=2500000000:=by
  rw[<- hL];refine Au ?_ hX.len;exact Sr.phr_len hX f _ eK
 have hFd:FK l (fun r=>CJ (Bt (T.map (·.1)) r) (.mk 3 f ws 0 0 [])) (L.filter fun n=>decide (n∈l.map (·.id))) :=
  (Sr.Fd.known l L).congr fun r _=>by rw[CJ,if_neg oX,if_neg oX,if_neg oX,<- hL];rfl
 have hEW:=hE.below hB;have hwm:=zcl;have XC:∀ W',Aa W.heap.size W W'->_:=fun W' h9=>ix_Phrase_c T xa xc f (ws.map (·.data.toList)) sa sc W' (hEW.px.below h9) iY zss eK (fun s hs=>by obtain⟨x,hx,rfl⟩:=BG.1 hs;rw[Array.length_toList];exact hwz x hx) hX.wl (fun t ht=>hX.ids t ht);rw[Ax,Ix.phr_same hX.asc hX.at0 f _ eK,hL]at XC;exact vf7
theorem y9b (h:P:=by
 have HFN:=zrt;clear hfin;go_wp2;go_ret;exact⟨_,_,rfl,EN hown.out oQ,HFN.out,oQ,Ac hB hb⟩):P:=h
theorem sr_evyears_c (P MI MF nI:Nat) (T:List C5) (xa:Option Aq) (xc:Nat) (l:List Ci) (la:Option Aq) (lc:Nat) (ya yb:Int) (sa:Option Aq) (sc:Nat) (ka:Option Aq) (kc:Nat) (w:Ab) (hE:Sr.Ev w P MI MF nI T xa xc l la lc) (hR:∀ r∈l,Iq r) (hl:l.length<=1000000) :
  Af A8 35 #[.pointer (A3 ⟨P,0,A0⟩),.agg #[.int .i64 4,.int .i64 0,.slice sa 0 sc,.int .i64 ya,.int .i64 yb,.slice ka 0 kc]] w fun e w'=>∃ v out,e=.returned v/\Bq w' w.heap.size v out/\FK l (fun r=>CJ (Bt (T.map (·.1)) r) (.mk 4 0 [] ya yb [])) out/\out.length<=1000000000000/\Aa w.heap.size w w':=by
 have hml:Ap=9223372036854775807:=rfl;obtain⟨i0,hi0,hz0,hz1,hz2⟩:=zhb;have HI0:=J hi0;clear hi0;obtain⟨W,hW,hB,d0,d1,d2,d3,d4,d5⟩:=IU w (.int .i64 4) (.int .i64 0) (.slice sa 0 sc) (.int .i64 ya) (.int .i64 yb) (.slice ka 0 kc) 29;have hEW:=hE.below hB;have c1:=hEW.c1;have HL:=J hEW.rl;have HR:=J hR;have hcap:=hEW.rl.cap;have hmax:=hEW.rl.max;have HF:Hid (∀ L,L=(l.filter fun r=>Hy (DQ r.fields) ya yb).map (·.id)->FK l (fun r=>CJ (Bt (T.map (·.1)) r) (.mk 4 0 [] ya yb [])) L):=J (fun L hL=>by rw[hL];exact Sr.Fd.of_filter l _);have hWs:=hB.size;clear hE hEW hR;go_enter Tryz.func35,Tryz.ntmps35;go_wp2;clear hW;go_loopw [5,13] (fun v i wr=>∃ (k:Nat) (L:List Int),k<=l.length/\i=.int .i64 k/\Hid (L=((l.take k).filter fun r=>Hy (DQ r.fields) ya yb).map (·.id))/\L.length<=k/\Hid (Bq wr W.heap.size v L)/\Aa W.heap.size W wr) (fun _ i _=>l.length - (Aj i).toNat)
 case atStart=>exact⟨0,[],Am _,rfl,J oZ,Ad _,J (AI _ _ _ _),Ah _ _⟩
 case round =>
  obtain⟨k,L,hk,rfl,hT,hTk,hown,hb⟩:=hrel;have hbs:=hb.size;by_cases hlt:k<l.length
  ·obtain⟨x,hx⟩:=zcq;obtain⟨b,o,fa,fc,rfl,hbl,x0,x1,x2,x3,x4,hfx⟩:=HL.out.get hx;replace x0:=A4 hb x0;replace x1:=A4 hb x1;replace x2:=A4 hb x2;replace x3:=A4 hb x3;replace x4:=A4 hb x4;have hxm:=zgk;obtain⟨U,hU,-,y0,y1,y2,y3,y4⟩:=zbz;have hbU:=zmv;have hbUs:=hbU.size;have d0':=A4 hbU d0;have d1':=A4 hbU d1;have d2':=A4 hbU d2;have d3':=A4 hbU d3;have d4':=A4 hbU d4;have d5':=A4 hbU d5;have hoU:=zdx;rw[hU]at hoU;have CC:=search_years_c x.fields fa fc x.id x.ver x.kind x.lang 4 0 ya yb (.slice sa 0 sc) (.slice ka 0 kc) U (hfx.below hbU) (HR.out x hxm).gd;have HOU:=J hoU
   have hst:(l.take (k+1)).filter (fun r=>Hy (DQ r.fields) ya yb)=(l.take k).filter (fun r=>Hy (DQ r.fields) ya yb)++(if Hy (DQ x.fields) ya yb=true then [x] else []):=by
    rw[Cz,hx,CE];by_cases hq:Hy (DQ x.fields) ya yb=true <;> simp[hq]
   obtain⟨t,ht⟩:∃ t,Hy (DQ x.fields) ya yb=t:=⟨_,rfl⟩;rw[ht]at CC hst;have HC:=zik;clear CC hoU hx hfx hown hxm ht d0' d1' d2' d3' d4' d5';have d0':=A4 hbU d0;have d1':=A4 hbU d1;have d2':=A4 hbU d2;have d3':=A4 hbU d3;have d4':=A4 hbU d4;have d5':=A4 hbU d5;cases t with
   | true =>
    rw[if_pos rfl]at hst;have HT:Hid (L++[x.id]=((l.take (k+1)).filter fun r=>Hy (DQ r.fields) ya yb).map (·.id)):=J (by rw[hst,hT.out,AY];rfl);clear hst hT
    go_wp2_with (first
     |(go_at_call 67;(with_reducible refine HC.out.mono ?_);rintro e w7 ⟨rfl,hb7⟩;have hb7':=hbU.trans (hb7.mono hbUs);have hb7s:=hb7'.size;have HO7:=J (B4 HOU.out hb7);have z0:=A4 hb7 y0)
     |(at_builtin;go_must ((refine wpList_append_sl rfl _ _ 35 rfl W.heap.size 3 i0 _ 1 8 Bk HI0.out hz0 hz1 hz2 rfl oX _ L.length _ rfl (HO7.out.alloc _) (A3 ⟨_,0,A0⟩) 1 1 [B3 .i64 x.id] rfl rfl oF oD oG oK oQ oW ?_);intro v' w8 hown8 hg8 hnil8)))
    go_roundw
    case rel=>exact⟨k+1,L++[x.id],hlt,by go_num,HT,by simp;omega,J (by unfold Bq;rw[Ag,AY];exact hown8),(hb7'.alloc hb7s _).grown hg8 oW (fun i hi=>(HO7.out.lt i hi).1)⟩
    case measure=>simp[Aj];omega
   | false =>
    rw[if_neg oX,AB]at hst;have HT:Hid (L=((l.take (k+1)).filter fun r=>Hy (DQ r.fields) ya yb).map (·.id)):=J (by rw[hst,hT.out]);clear hst hT;go_wp2_with (go_at_call 67;(with_reducible refine HC.out.mono ?_);rintro e w7 ⟨rfl,hb7⟩;have hb7':=hbU.trans (hb7.mono hbUs);have HO7:=J (B4 HOU.out hb7));go_roundw
    case rel=>exact⟨k+1,L,hlt,by go_num,HT,oQ,HO7,hb7'⟩
    case measure=>simp[Aj];omega
  ·obtain rfl:k=l.length:=oQ;have hfin:=HF.out L (by rw[hT.out,At]);exact y9b
namespace Sr
open Rc hiding bys
open Qr
theorem FA_kept {α:Type}{enc:α->List Ak}{size:Nat}{w w':Ab}{a:Option Aq}{c:Nat}{xs:List α}{row:Option Nat} (h:Br.FA enc size w a c xs) (hg:w.grownBy w' row) (hne:∀ ad,a=A3 ad->A3 ad.block≠row):Br.FA enc size w' a c xs:=by
 obtain⟨b,o,h1,h2⟩:=h.at_;refine⟨h.cap,h.max,b,o,fun hn=>⟨(h1 hn).1,Nat.lt_of_lt_of_le (h1 hn).2 hg.size⟩,fun j i x u hx hu=>?_⟩;have hn:xs≠[]:=fun e=>by rw[e]at hx;simp at hx
 exact (Ce (hg.block b (h1 hn).2 (hne _ (h1 hn).1))).trans (h2 j i x u hx hu)
structure CapF (w:Ab) (f:Nat) (fa:Option Aq) (fc:Nat) (F:List Int):Prop where
 k0:w.cell? ⟨f,0,A0⟩=A3 (.slice fa F.length fc)
 ia:DC w fa fc F
theorem CapF.grown {w w':Ab}{f:Nat}{fa:Option Aq}{fc:Nat}{F:List Int}{row:Option Nat} (h:CapF w f fa fc F) (hg:w.grownBy w' row) (h1:A3 f≠row) (h2:∀ ad,fa=A3 ad->A3 ad.block≠row):CapF w' f fa fc F :=
 ⟨(Ce (hg.block f (Km h.k0) h1)).trans h.k0,FA_kept h.ia hg h2⟩
end Sr
theorem sr_kids1_enters:∀ args w,(F6 84 args).run A8 w=.ok (.enter 84 args) w:=Hm Tryz.func84 oJ rfl
theorem sr_kids2_enters:∀ args w,(F6 86 args).run A8 w=.ok (.enter 86 args) w:=Hm Tryz.func86 oJ rfl
theorem sr_kids1_c (f:Nat) (fa:Option Aq) (fc:Nat) (F:List Int) (x:Int) (w:Ab) (h:Sr.CapF w f fa fc F) :
  Af A8 84 #[.int .i64 x,.pointer (A3 ⟨f,0,A0⟩)] w fun e w'=>e=.returned (.bool (decide (x∈F)))/\w=w':=by
 obtain⟨k0,ia⟩:=h;have HC:=J ((containsI_c F x fa fc w ia).mono fun e w' h9=>(show e=.returned (.bool (decide (x∈F)))/\w=w' from ⟨h9.1,h9.2.symm⟩));clear ia;go_enter Tryz.func84,Tryz.ntmps84;go_wp2_with (go_at_call 40;(with_reducible refine HC.out.mono ?_);rintro e w1 ⟨rfl,rfl⟩);go_ret;exact⟨rfl,rfl⟩
theorem sr_kids2_c (g f:Nat) (fa:Option Aq) (fc:Nat) (F:List Int) (x:Int) (w:Ab) (h:Sr.CapF w f fa fc F) (k1:w.cell? ⟨g,0,A0⟩=A3 (.func (.func 84) #[] #[.pointer (A3 ⟨f,0,A0⟩)])) :
  Af A8 86 #[.int .i64 x,.pointer (A3 ⟨g,0,A0⟩)] w fun e w'=>e=.returned (.bool (!decide (x∈F)))/\w=w':=by
 have HC:=J (sr_kids1_c f fa fc F x w h);clear h;go_enter Tryz.func86,Tryz.ntmps86;go_wp2_with (go_at_call 84;(with_reducible refine HC.out.mono ?_);rintro e w1 ⟨rfl,rfl⟩);go_ret;exact⟨rfl,rfl⟩
namespace Sr
open Rc hiding bys
open Qr
def EvalC (P MI MF nI:Nat) (T:List C5) (xa:Option Aq) (xc:Nat) (l:List Rd) (la:Option Aq) (lc B:Nat) (q:Qy):Prop :=
 ∀ (cs:List Ak) (w:Ab),QC B w q cs->Ev w P MI MF nI T xa xc l la lc ->
  Af A8 37 #[.pointer (A3 ⟨P,0,A0⟩),.agg cs.toArray] w fun e w'=>∃ v,e=.returned v/\Bq w' w.heap.size v (evalQ (T.map (·.1)) l q)/\Aa w.heap.size w w'
def evT (o:Int) (lf:Qy->Bool) (ks:List Qy):Bool:=if o=5 then evAll lf ks else if o=6 then evAny lf ks else evNot lf ks
theorem evT_one (o:Int) (ho:o=5\/o=6\/o=7) (lf:Qy->Bool) (x:Qy):evT o lf [x]=ev lf x:=by
 rcases ho with rfl | rfl | rfl
 ·show (ev lf x&&true)=_;rw[Bool.and_true]
 ·show (ev lf x||false)=_;rw[If]
 ·show (ev lf x&&!false)=_;rw[Bool.not_false,Bool.and_true]
theorem evT_5 (lf:Qy->Bool) (ks:List Qy) (x:Qy):evT 5 lf (ks++[x])=(evT 5 lf ks&&ev lf x):=by
 show evAll lf _=(evAll lf ks&&_);rw[evAll_eq,evAll_eq,List.all_append];simp
theorem evT_6 (lf:Qy->Bool) (ks:List Qy) (x:Qy):evT 6 lf (ks++[x])=(evT 6 lf ks||ev lf x):=by
 show evAny lf _=(evAny lf ks||_);rw[evAny_eq,evAny_eq,M3];simp
theorem evT_7 (lf:Qy->Bool) (ks:List Qy) (x:Qy) (h:ks≠[]):evT 7 lf (ks++[x])=(evT 7 lf ks&&!ev lf x):=by
 cases ks with
 | nil=>exact absurd rfl h
 | cons y r =>
  show (ev lf y&&!evAny lf (r++[x]))=((ev lf y&&!evAny lf r)&&!ev lf x);rw[evAny_eq,evAny_eq,M3,List.any_cons,List.any_nil,If,Bool.not_or,Bool.and_assoc]
theorem ev_T (o:Int) (ho:o=5\/o=6\/o=7) (lf:Qy->Bool) (ks:List Qy):ev lf (.mk o 0 [] 0 0 ks)=evT o lf ks:=by
 rcases ho with rfl | rfl | rfl <;> rfl
theorem fd_in64 {l:List Rd} (hR:∀ r∈l,Rg r) {p:Rd->Bool}{out:List Int} (h:Fd l p out):∀ n∈out,In64 n:=fun n hn=>by
 obtain⟨r,hr,_,rfl⟩:=(h n).1 hn;have:=(hR r hr).ids;unfold In64;omega
end Sr
theorem vl6 (h:P:=by
 obtain⟨x,hx⟩:=zdq;obtain⟨kb,ko,xsa,xsc,xka,xkc,rfl,hkb,k0,k1,k2,k3,k4,k5,hq⟩:=(HKA.out.below hb).get hx;have htk:=zrp;have hxm:=zgk;obtain⟨U,hU,hbU1,y0,y1,y2,y3,y4,y5⟩:=IU wr (.int .i64 x.op) (.int .i64 x.fld) (.slice xsa x.ws.length xsc) (.int .i64 x.a) (.int .i64 x.b) (.slice xka x.ks.length xkc) 29;have hbU:Aa W.heap.size W U:=Ac hb hbU1;have hbUs:=hbU.size;have hUs:U.heap.size=wr.heap.size+1:=by rw[<- hU];simp
 have HOU:=J (B4 hown.out hbU1);have hqU:=hq.later hbU1;have EC:=HIH.out x hxm _ U hqU (HEV.out.below hbU);obtain⟨FF,hFF⟩:∃ FF,Jf (T.map (·.1)) l x=FF:=⟨_,rfl⟩;have hFd:=Sr.evalQ_fd (T.map (·.1)) l x;have hFl:=Sr.evalQ_len (T.map (·.1)) l x;rw[hFF]at EC hFd hFl;have HEC:=J EC;have HFD:=J hFd;have HTK:=J htk;have HLK:=J (fun g hg=>(hown.out.lt g hg));have d0':=A4 hbU d0;clear EC hFd hFF htk hxm hq hqU hx hown;have hFl2:FF.length<=1000000:=oQ;rcases (by omega:k=0\/1<=k) with hk0 | hk1
 first
  |·subst hk0
    simp only[F7,BN]at k0 k1 k2 k3 k4 k5;go_wp2_with (go_at_call 37;(with_reducible refine HEC.out.mono ?_);rintro e w1 ⟨v1,rfl,ho1,hb1⟩;obtain⟨fa,fc,rfl,hia,hlow⟩:=zjg;have HO1:=J ho1;have hb1s:=hb1.size;clear ho1 hia hlow);go_roundw
    case rel=>exact⟨1,FF,_,rfl,hlt,by go_num,J (fun h=>absurd h oX),J (fun _=>HFD.out.congr fun r _=>by rw[HTK.out,BJ,C8,Sr.evT_one 5 oQ]),oQ,J (EN ((HO1.out.alloc _).alloc _) hbUs),((Ac hbU hb1).alloc oQ _).alloc oW _⟩
    case measure=>simp[Aj];omega
   ·have hk0:=zhz;have hPd:FK l (fun r=>Sr.evT 5 (Bt (T.map (·.1)) r) (ks.take k)) L:=hL1.out hk1;have hin:=Sr.fd_in64 HRG.out hPd;have HPD:=J hPd;have HIN:=J hin;clear hPd hin hL1 hL0
    go_wp2_with (first
     |(go_at_call 85;(with_reducible refine HDL.out.mono ?_);rintro e w5 ⟨v5,rfl,ho5,hv5,hg5⟩;have HO5:=J ho5;have HB5:=zjj;clear ho5 hg5)
     |(go_at_call 37;(with_reducible refine HEC.out.mono ?_);rintro e w1 ⟨v1,rfl,ho1,hb1⟩;obtain⟨fa,fc,rfl,hia,hlow⟩:=zjg;have hb1s:=hb1.size;obtain⟨U3,hU3⟩:=zaw;have hb3:=zes;have hb3s:=hb3.size;have hU3s:=zjx;have f0:=zee;have f1:=zbw;have e0:=zmz;have HOV:=zjc;have HIA3:=J (hia.below hb3);have HLW:=J hlow;have HB3:=zln;have HVL:Hid (∀ g,ov.ownBlock=A3 g->W.heap.size<=g/\g<wr.heap.size):=HLK;have HDL:Hid (Af A8 85 #[ov,.func (.func 86) #[] #[.pointer (A3 ⟨w1.heap.size+1,0,A0⟩)]] U3 fun e w'=>∃ v',e=.returned v'/\Bq w' W.heap.size v' (L.filter fun x=>!(fun x=>!decide (x∈FF)) x)/\v'.ownBlock=ov.ownBlock/\U3.grownBy w' ov.ownBlock):=J (have hne:∀ b,wr.heap.size<=b->A3 b≠ov.ownBlock:=QB;have hneF:∀ ad,fa=A3 ad->A3 ad.block≠ov.ownBlock:=(fun ad had=>hne _ (by have:=HLW.out ad had;omega));have hC3:Sr.CapF U3 w1.heap.size fa fc FF:=⟨f0,HIA3.out⟩;delI_c 86 #[.pointer (A3 ⟨w1.heap.size+1,0,A0⟩)] sr_kids2_enters (fun x=>!decide (x∈FF)) L ov W.heap.size U3 HOV.out HIN.out oQ (fun x _ W' hg=>(sr_kids2_c (w1.heap.size+1) w1.heap.size fa fc FF x W' (hC3.grown hg (hne _ oQ) hneF) ((Ce (hg.block _ (by show w1.heap.size+1<U3.heap.size;omega) (hne _ (by show wr.heap.size<=w1.heap.size+1;omega)))).trans f1)).mono (fun e w' h9=>⟨h9.1,0,h9.2.symm⟩)));clear ho1 hia hlow))
    go_roundw
    case rel=>exact⟨k+1,(L.filter fun x=>!(fun x=>!decide (x∈FF)) x),_,rfl,hlt,by go_num,J (fun h=>absurd h oQ),J (fun _=>by
     show FK l _ (L.filter _);have e9:(L.filter fun x=>!(!decide (x∈FF)))=L.filter fun n=>decide (n∈FF):=by congr 1;funext x;rw[Bool.not_not]
     show FK l _ (L.filter fun x=>!(!decide (x∈FF)));rw[e9];exact (Sr.Fd.and HDI.out HPD.out HFD.out).congr fun r _=>by rw[HTK.out,Sr.evT_5]),by have:=BB (fun x=>!(fun x=>!decide (x∈FF)) x) L;omega,HO5,HB5.out⟩
    case measure=>simp[Aj];omega
  |·subst hk0
    simp only[F7,BN]at k0 k1 k2 k3 k4 k5;go_wp2_with (go_at_call 37;(with_reducible refine HEC.out.mono ?_);rintro e w1 ⟨v1,rfl,ho1,hb1⟩;obtain⟨fa,fc,rfl,hia,hlow⟩:=zjg;have HO1:=J ho1;have hb1s:=hb1.size;clear ho1 hia hlow);go_roundw
    case rel=>exact⟨1,FF,_,rfl,hlt,by go_num,J (fun h=>absurd h oX),J (fun _=>HFD.out.congr fun r _=>by rw[HTK.out,BJ,C8,Sr.evT_one 7 oQ]),oQ,J (EN ((HO1.out.alloc _).alloc _) hbUs),((Ac hbU hb1).alloc oQ _).alloc oW _⟩
    case measure=>simp[Aj];omega
   ·have hk0:=zhz;have hPd:FK l (fun r=>Sr.evT 7 (Bt (T.map (·.1)) r) (ks.take k)) L:=hL1.out hk1;have hin:=Sr.fd_in64 HRG.out hPd;have HPD:=J hPd;have HIN:=J hin;clear hPd hin hL1 hL0
    go_wp2_with (first
     |(go_at_call 85;(with_reducible refine HDL.out.mono ?_);rintro e w5 ⟨v5,rfl,ho5,hv5,hg5⟩;have HO5:=J ho5;have HB5:=zjj;clear ho5 hg5)
     |(go_at_call 37;(with_reducible refine HEC.out.mono ?_);rintro e w1 ⟨v1,rfl,ho1,hb1⟩;obtain⟨fa,fc,rfl,hia,hlow⟩:=zjg;have hb1s:=hb1.size;obtain⟨U3,hU3⟩:=zaw;have hb3:=zes;have hb3s:=hb3.size;have hU3s:=zjx;have f0:=zee;have f1:=zbw;have e0:=zmz;have HOV:=zjc;have HIA3:=J (hia.below hb3);have HLW:=J hlow;have HB3:=zln;have HVL:Hid (∀ g,ov.ownBlock=A3 g->W.heap.size<=g/\g<wr.heap.size):=HLK;have HDL:Hid (Af A8 85 #[ov,.func (.func 84) #[] #[.pointer (A3 ⟨w1.heap.size,0,A0⟩)]] U3 fun e w'=>∃ v',e=.returned v'/\Bq w' W.heap.size v' (L.filter fun x=>!(fun x=>decide (x∈FF)) x)/\v'.ownBlock=ov.ownBlock/\U3.grownBy w' ov.ownBlock):=J (have hne:∀ b,wr.heap.size<=b->A3 b≠ov.ownBlock:=QB;have hneF:∀ ad,fa=A3 ad->A3 ad.block≠ov.ownBlock:=(fun ad had=>hne _ (by have:=HLW.out ad had;omega));have hC3:Sr.CapF U3 w1.heap.size fa fc FF:=⟨f0,HIA3.out⟩;delI_c 84 #[.pointer (A3 ⟨w1.heap.size,0,A0⟩)] sr_kids1_enters (fun x=>decide (x∈FF)) L ov W.heap.size U3 HOV.out HIN.out oQ (fun x _ W' hg=>(sr_kids1_c w1.heap.size fa fc FF x W' (hC3.grown hg (hne _ oQ) hneF)).mono (fun e w' h9=>⟨h9.1,0,h9.2.symm⟩)));clear ho1 hia hlow))
    go_roundw
    case rel=>exact⟨k+1,(L.filter fun x=>!(fun x=>decide (x∈FF)) x),_,rfl,hlt,by go_num,J (fun h=>absurd h oQ),J (fun _=>by
     show FK l _ (L.filter _)
     skip
     show FK l _ (L.filter fun x=>!decide (x∈FF))
     skip
     exact (Sr.Fd.not HDI.out HPD.out HFD.out).congr fun r _=>by rw[HTK.out,Sr.evT_7 _ _ _ (fun e=>by have:=congrArg List.length e;rw[Az,List.length_nil]at this;omega)]),by have:=BB (fun x=>!(fun x=>decide (x∈FF)) x) L;omega,HO5,HB5.out⟩
    case measure=>simp[Aj];omega
  |·subst hk0
    simp only[F7,BN]at k0 k1 k2 k3 k4 k5;go_wp2_with (go_at_call 37;(with_reducible refine HEC.out.mono ?_);rintro e w1 ⟨v1,rfl,ho1,hb1⟩;obtain⟨fa,fc,rfl,hia,hlow⟩:=zjg;have HO1:=J ho1;have hb1s:=hb1.size;clear ho1 hia hlow);go_roundw
    case rel=>exact⟨1,FF,_,rfl,hlt,by go_num,J (fun h=>absurd h oX),J (fun _=>HFD.out.congr fun r _=>by rw[HTK.out,BJ,C8,Sr.evT_one 6 oQ]),oQ,J (EN ((HO1.out.alloc _).alloc _) hbUs),((Ac hbU hb1).alloc oQ _).alloc oW _⟩
    case measure=>simp[Aj];omega
   ·have hk0:=zhz;have hPd:FK l (fun r=>Sr.evT 6 (Bt (T.map (·.1)) r) (ks.take k)) L:=hL1.out hk1;have hin:=Sr.fd_in64 HRG.out hPd;have HPD:=J hPd;have HIN:=J hin;clear hPd hin hL1 hL0
    go_wp2_with (first
     |(at_builtin;go_must ((refine wpList_append_sl rfl _ _ 35 rfl W.heap.size 3 i0 _ 1 8 Bk HI0.out hz0 hz1 hz2 rfl oX _ L.length _ rfl HOV.out fa FF.length fc (FF.flatMap fun x:Int=>[B3 .i64 x]) rfl (Br.flat_len (fun x:Int=>[B3 .i64 x]) 1 (fun _=>rfl) FF) HIA3.out.none (Br.FA.cells (enc:=fun x:Int=>[B3 .i64 x]) (size:=1) (fun _=>rfl) oX HIA3.out) (Br.flat_one (fun _ u hu=>by rw[B9]at hu;rw[hu];rfl) FF) oK oQ HB3.out.size ?_);intro v8 w8 hown8 hg8 hnil8))
     |(go_at_call 37;(with_reducible refine HEC.out.mono ?_);rintro e w1 ⟨v1,rfl,ho1,hb1⟩;obtain⟨fa,fc,rfl,hia,hlow⟩:=zjg;have hb1s:=hb1.size;obtain⟨U3,hU3⟩:=zaw;have hb3:=zes;have hb3s:=hb3.size;have hU3s:=zjx;have f0:=zee;have f1:=zbw;have e0:=zmz;have HOV:=zjc;have HIA3:=J (hia.below hb3);have HLW:=J hlow;have HB3:=zln;have HVL:Hid (∀ g,ov.ownBlock=A3 g->W.heap.size<=g/\g<wr.heap.size):=HLK;clear ho1 hia hlow))
    go_roundw
    case rel=>exact⟨k+1,L++FF,_,rfl,hlt,by go_num,J (fun h=>absurd h oQ),J (fun _=>(HPD.out.or HFD.out).congr fun r _=>by rw[HTK.out,Sr.evT_6]),by rw[Ag];omega,J (by unfold Bq;rw[Ag,AY,<- Ix.flat_int FF];exact hown8),HB3.out.grown hg8 HB3.out.size (fun i hi=>(HVL.out i hi).1)⟩
    case measure=>simp[Aj];omega):P:=h
theorem vub (h:P:=by
 have hWs:=hB.size;have HKA:=J (hK.below hB);have HEV:=J (hE.below hB);have HIH:=J IH;have HDI:=J hD;have HRG:=J hR;have hmax:=hK.max;clear hE hK IH hD hR;go_enter Tryz.func36,Tryz.ntmps36;go_wp2;clear hW
 first
  |go_loopw [5,6,7,8,9,13] (fun s5 _ _ _ _ i wr=>∃ (k:Nat) (L:List Int) (ov:Ak),ov=s5/\k<=ks.length/\i=.int .i64 k/\Hid (k=0->L=[])/\Hid (1<=k->FK l (fun r=>Sr.evT 5 (Bt (T.map (·.1)) r) (ks.take k)) L)/\L.length<=1000000*k/\Hid (Bq wr W.heap.size ov L)/\Aa W.heap.size W wr) (fun _ _ _ _ _ i _=>ks.length - (Aj i).toNat)
   case atStart=>exact⟨0,[],_,rfl,Am _,rfl,J (fun _=>rfl),J (fun h=>absurd h oX),Am _,J (AI _ _ _ _),Ah _ _⟩
   case round =>
    obtain⟨k,L,ov,hov,hk,rfl,hL0,hL1,hLk,hown,hb⟩:=hrel;subst hov;have hbs:=hb.size;by_cases hlt:k<ks.length
    ·exact vl6
    ·obtain rfl:k=ks.length:=oQ;have hfin:FK l (fun r=>CJ (Bt (T.map (·.1)) r) (.mk 5 0 [] 0 0 ks)) L:=(hL1.out hkn.1).congr fun r _=>by rw[At,Sr.ev_T 5 oQ]
     exact y9b
  |go_loopw [5,6,7,8,9,13] (fun s5 _ _ _ _ i wr=>∃ (k:Nat) (L:List Int) (ov:Ak),ov=s5/\k<=ks.length/\i=.int .i64 k/\Hid (k=0->L=[])/\Hid (1<=k->FK l (fun r=>Sr.evT 6 (Bt (T.map (·.1)) r) (ks.take k)) L)/\L.length<=1000000*k/\Hid (Bq wr W.heap.size ov L)/\Aa W.heap.size W wr) (fun _ _ _ _ _ i _=>ks.length - (Aj i).toNat)
   case atStart=>exact⟨0,[],_,rfl,Am _,rfl,J (fun _=>rfl),J (fun h=>absurd h oX),Am _,J (AI _ _ _ _),Ah _ _⟩
   case round =>
    obtain⟨k,L,ov,hov,hk,rfl,hL0,hL1,hLk,hown,hb⟩:=hrel;subst hov;have hbs:=hb.size;by_cases hlt:k<ks.length
    ·exact vl6
    ·obtain rfl:k=ks.length:=oQ;have hfin:FK l (fun r=>CJ (Bt (T.map (·.1)) r) (.mk 6 0 [] 0 0 ks)) L:=(hL1.out hkn.1).congr fun r _=>by rw[At,Sr.ev_T 6 oQ]
     exact y9b
  |go_loopw [5,6,7,8,9,13] (fun s5 _ _ _ _ i wr=>∃ (k:Nat) (L:List Int) (ov:Ak),ov=s5/\k<=ks.length/\i=.int .i64 k/\Hid (k=0->L=[])/\Hid (1<=k->FK l (fun r=>Sr.evT 7 (Bt (T.map (·.1)) r) (ks.take k)) L)/\L.length<=1000000*k/\Hid (Bq wr W.heap.size ov L)/\Aa W.heap.size W wr) (fun _ _ _ _ _ i _=>ks.length - (Aj i).toNat)
   case atStart=>exact⟨0,[],_,rfl,Am _,rfl,J (fun _=>rfl),J (fun h=>absurd h oX),Am _,J (AI _ _ _ _),Ah _ _⟩
   case round =>
    obtain⟨k,L,ov,hov,hk,rfl,hL0,hL1,hLk,hown,hb⟩:=hrel;subst hov;have hbs:=hb.size;by_cases hlt:k<ks.length
    ·exact vl6
    ·obtain rfl:k=ks.length:=oQ;have hfin:FK l (fun r=>CJ (Bt (T.map (·.1)) r) (.mk 7 0 [] 0 0 ks)) L:=(hL1.out hkn.1).congr fun r _=>by rw[At,Sr.ev_T 7 oQ]
     exact y9b):P:=h
theorem vsf (h:P:=by
 have hml:Ap=9223372036854775807:=rfl;have hmf:=za;obtain⟨i0,hi0,hz0,hz1,hz2⟩:=zhb;have HI0:=J hi0;clear hi0
 first
  |obtain⟨W,hW,hB,d0,d1,d2,d3,d4,d5⟩:=IU w (.int .i64 5) (.int .i64 0) (.slice sa 0 sc) (.int .i64 0) (.int .i64 0) (.slice ka ks.length kc) 29
   exact vub
  |obtain⟨W,hW,hB,d0,d1,d2,d3,d4,d5⟩:=IU w (.int .i64 6) (.int .i64 0) (.slice sa 0 sc) (.int .i64 0) (.int .i64 0) (.slice ka ks.length kc) 29
   exact vub
  |obtain⟨W,hW,hB,d0,d1,d2,d3,d4,d5⟩:=IU w (.int .i64 7) (.int .i64 0) (.slice sa 0 sc) (.int .i64 0) (.int .i64 0) (.slice ka ks.length kc) 29
   exact vub):P:=h
theorem sr_kids_5 (P MI MF nI:Nat) (T:List C5) (xa:Option Aq) (xc:Nat) (l:List Ci) (la:Option Aq) (lc:Nat) (B:Nat) (ks:List Cq) (sa:Option Aq) (sc:Nat) (ka:Option Aq) (kc:Nat) (w:Ab) (hE:Sr.Ev w P MI MF nI T xa xc l la lc) (hR:∀ r∈l,Iq r) (hD:LH l) (hl:l.length<=1000000) (hK:Le B w ka kc ks) (hkn:1<=ks.length/\ks.length<=8) (IH:∀ k∈ks,Sr.EvalC P MI MF nI T xa xc l la lc B k) :
  Af A8 36 #[.pointer (A3 ⟨P,0,A0⟩),.agg #[.int .i64 5,.int .i64 0,.slice sa 0 sc,.int .i64 0,.int .i64 0,.slice ka ks.length kc]] w fun e w'=>∃ v out,e=.returned v/\Bq w' w.heap.size v out/\FK l (fun r=>CJ (Bt (T.map (·.1)) r) (.mk 5 0 [] 0 0 ks)) out/\out.length<=1000000000000/\Aa w.heap.size w w':=by
 exact vsf
theorem sr_kids_6 (P MI MF nI:Nat) (T:List C5) (xa:Option Aq) (xc:Nat) (l:List Ci) (la:Option Aq) (lc:Nat) (B:Nat) (ks:List Cq) (sa:Option Aq) (sc:Nat) (ka:Option Aq) (kc:Nat) (w:Ab) (hE:Sr.Ev w P MI MF nI T xa xc l la lc) (hR:∀ r∈l,Iq r) (hD:LH l) (hl:l.length<=1000000) (hK:Le B w ka kc ks) (hkn:1<=ks.length/\ks.length<=8) (IH:∀ k∈ks,Sr.EvalC P MI MF nI T xa xc l la lc B k) :
  Af A8 36 #[.pointer (A3 ⟨P,0,A0⟩),.agg #[.int .i64 6,.int .i64 0,.slice sa 0 sc,.int .i64 0,.int .i64 0,.slice ka ks.length kc]] w fun e w'=>∃ v out,e=.returned v/\Bq w' w.heap.size v out/\FK l (fun r=>CJ (Bt (T.map (·.1)) r) (.mk 6 0 [] 0 0 ks)) out/\out.length<=1000000000000/\Aa w.heap.size w w':=by
 exact vsf
theorem sr_kids_7 (P MI MF nI:Nat) (T:List C5) (xa:Option Aq) (xc:Nat) (l:List Ci) (la:Option Aq) (lc:Nat) (B:Nat) (ks:List Cq) (sa:Option Aq) (sc:Nat) (ka:Option Aq) (kc:Nat) (w:Ab) (hE:Sr.Ev w P MI MF nI T xa xc l la lc) (hR:∀ r∈l,Iq r) (hD:LH l) (hl:l.length<=1000000) (hK:Le B w ka kc ks) (hkn:1<=ks.length/\ks.length<=8) (IH:∀ k∈ks,Sr.EvalC P MI MF nI T xa xc l la lc B k) :
  Af A8 36 #[.pointer (A3 ⟨P,0,A0⟩),.agg #[.int .i64 7,.int .i64 0,.slice sa 0 sc,.int .i64 0,.int .i64 0,.slice ka ks.length kc]] w fun e w'=>∃ v out,e=.returned v/\Bq w' w.heap.size v out/\FK l (fun r=>CJ (Bt (T.map (·.1)) r) (.mk 7 0 [] 0 0 ks)) out/\out.length<=1000000000000/\Aa w.heap.size w w':=by
 exact vsf
theorem Sr.fzero (w:Ab):(K6 66).run A8 w=.ok .nilFunc w:=by kernel_rfl
theorem sr_eval_of (P MI MF nI:Nat) (T:List C5) (xa:Option Aq) (xc:Nat) (l:List Ci) (la:Option Aq) (lc:Nat) (B:Nat) (q:Cq) (cs:List Ak) (w:Ab) (hq:Qr.QC B w q cs) (hE:Sr.Ev w P MI MF nI T xa xc l la lc) (fn:Nat) (eg:∀ args w,(F6 fn args).run A8 w=.ok (.enter fn args) w) (hop:Sr.findF P (.int .i64 q.op)=A3 (.func (.func fn) #[.pointer (A3 ⟨P,0,A0⟩)] #[])) (hi:F4 q.op)
  (FC:∀ w',Aa w.heap.size w w'->Af A8 fn #[.pointer (A3 ⟨P,0,A0⟩),.agg cs.toArray] w' fun e w''=>∃ v out,e=.returned v/\Bq w'' w'.heap.size v out/\FK l (fun r=>CJ (Bt (T.map (·.1)) r) q) out/\out.length<=1000000000000/\Aa w'.heap.size w' w'') :
  Af A8 37 #[.pointer (A3 ⟨P,0,A0⟩),.agg cs.toArray] w fun e w'=>∃ v,e=.returned v/\Bq w' w.heap.size v (Jf (T.map (·.1)) l q)/\Aa w.heap.size w w':=by
 obtain⟨sa,sc,ka,kc,rfl,_,_,_⟩:=hq.kids;obtain⟨W,hW,hB,d0,d1,d2,d3,d4,d5⟩:=IU w (.int .i64 q.op) (.int .i64 q.fld) (.slice sa q.ws.length sc) (.int .i64 q.a) (.int .i64 q.b) (.slice ka q.ks.length kc) 29;have hEW:=hE.below hB;have hWs:=hB.size;have p3:=hEW.c3
 have hrun:∀ n,(Instr.lookup 63 (.map (A3 MF)) (.int .i64 q.op) true).run A8 (W.drewN n)=.ok (.tuple #[.func (.func fn) #[.pointer (A3 ⟨P,0,A0⟩)] #[],.bool true]) (W.drewN n):=fun n=>by
  have h1:=(hEW.mf.below (DP (Ah _ _) n)).look_ok Gt Ft (Sr.fzero _) (Sr.in64_key hi) (v:=.func (.func fn) #[.pointer (A3 ⟨P,0,A0⟩)] #[]) (by rw[hop];rfl);rw[hop]at h1;exact h1
 have HFC:=J FC;have HFP:Hid (∀ out,FK l (fun r=>CJ (Bt (T.map (·.1)) r) q) out->BP Bf out=Jf (T.map (·.1)) l q):=J (fun out h=>h.puts);obtain⟨R,hR⟩:∃ R,Jf (T.map (·.1)) l q=R:=⟨_,rfl⟩;rw[hR]at HFP ⊢;clear FC hE hEW hq hop hi hR;go_enter Tryz.func37,Tryz.ntmps37;go_wp2;clear hW;go_quiet (fail);have hbq:=DP (Ah W.heap.size W) nq;generalize W.drewN nq=V at hbq ⊢;replace d0:=A4 hbq d0;replace d1:=A4 hbq d1;replace d2:=A4 hbq d2;replace d3:=A4 hbq d3;replace d4:=A4 hbq d4;replace d5:=A4 hbq d5;have hBV:=Ac hB hbq;have hVs:=hBV.size;clear hrun p3 hbq
 go_wp2_with (first
  |(go_at_call 88;(with_reducible refine (CompactI_c HO3.out (by have:=HMl.out;omega)).mono ?_);rintro e w4 ⟨va,vc,rfl,hown4,hv4,hg4⟩;have HO4:=J hown4;have HB4:=J (HB3.out.grown hg4 HB3.out.size (fun j hj=>(HO3.out.lt j hj).1));clear hown4 hg4)
  |(go_at_call 87;(with_reducible refine (SortI_c HO2.out oQ).mono ?_);rintro e w3 ⟨rfl,hown3,hg3⟩;rw[HMD.out,<- HMl.out]at hown3;have HO3:=J hown3;have HB3:=J (HB2.out.grown hg3 HB2.out.size (fun j hj=>(HO2.out.lt j hj).1));clear hown3 hg3)
  |(go_at_call 53;(with_reducible refine (cloneI_c L fa fc _ HIA.out hln).mono ?_);rintro e w2 ⟨v2,rfl,hown2,hb2⟩;have HO2:=J (Ix.row_lower hown2 HB1.out.size);have HB2:=J (Ac HB1.out hb2);clear hown2 hb2)
  |(go_at_fn fn;refine (HFC.out _ hBV).mono ?_;rintro e w1 ⟨v1,L,rfl,ho1,hfd,hln,hb1⟩;obtain⟨fa,fc,rfl,hia,_⟩:=zjg;have HIA:=J hia;have HB1:=J hb1;have hcs:=Cp.compact_sortedI L;obtain⟨M,hMd⟩:=zoy;have hMl:=znn;rw[hMd,HFP.out L hfd]at hcs;have HCS:=J hcs;have HMD:=J hMd;have HMl:=J hMl;clear hcs hMd hMl hia hb1 ho1 hfd))
 go_ret;refine⟨_,rfl,?_,Ac hBV HB4.out⟩;rw[<- HCS.out];exact Ix.row_lower HO4.out hVs
namespace Sr
open Rc hiding bys
open Qr
theorem wordF_enters:∀ args w,(F6 34 args).run A8 w=.ok (.enter 34 args) w:=Hm Tryz.func34 oJ rfl
theorem yearF_enters:∀ args w,(F6 35 args).run A8 w=.ok (.enter 35 args) w:=Hm Tryz.func35 oJ rfl
theorem kidsF_enters:∀ args w,(F6 36 args).run A8 w=.ok (.enter 36 args) w:=Hm Tryz.func36 oJ rfl
end Sr
theorem sr_eval_c (P MI MF nI:Nat) (T:List C5) (xa:Option Aq) (xc:Nat) (l:List Ci) (la:Option Aq) (lc:Nat) (B:Nat) (hX:Sr.Gx T) (hR:∀ r∈l,Iq r) (hD:LH l) (hl:l.length<=1000000):∀ q,Sr.Rq q->(Qr.Wz 1000000 q->Sr.EvalC P MI MF nI T xa xc l la lc B q):=by
 refine Qr.Qy.ind ?_;intro o f ws a b ks ih hq hM cs w hc hE;obtain⟨sa,sc,ka,kc,e,hw,_,hK⟩:=hc.kids;dsimp only[Qr.Qy.op,Qr.Qy.fld,Qr.Qy.a,Qr.Qy.b,Qr.Qy.ks,Qr.Qy.ws]at e hw hK
 have hS:∀ w',Aa w.heap.size w w'->ws≠[]->SLA w' sa sc ws:=fun w' hb hne=>by
  obtain⟨a9,c9,e,h9⟩:=(hw.below hb).sla;injection e with e1 e2 e3;subst e1 e3;exact h9 hne
 have hne:1<=ws.length->ws≠[]:=fun h9 e=>by rw[e]at h9;exact absurd h9 oX
 cases hq with
 | term h1 h2 h3 h5 h4 =>
  refine sr_eval_of P MI MF nI T xa xc l la lc B _ cs w hc hE 34 Sr.wordF_enters (Sr.findF_w P h1) YW fun w' hb=>?_;rw[e];rcases h1 with rfl | rfl | rfl
  ·obtain⟨y,rfl⟩:=zhn;exact sr_words_1 P MI MF nI T xa xc l la lc f y sa sc ka kc w' (hE.below hb) hX (hS w' hb (hne h3.1))
  ·obtain⟨y,rfl⟩:=zhn;exact sr_words_2 P MI MF nI T xa xc l la lc f y sa sc ka kc w' (hE.below hb) hX (hS w' hb (hne h3.1))
  ·exact sr_words_3 P MI MF nI T xa xc l la lc f ws sa sc ka kc w' (hE.below hb) hX (hS w' hb (hne h3.1)) (hne h3.1) h3.2 (fun s hs=>Au (hM.ws s hs) oX)
 | years h1 h2 =>
  refine sr_eval_of P MI MF nI T xa xc l la lc B _ cs w hc hE 35 Sr.yearF_enters (Sr.findF_y P) (by unfold F4;show (-9223372036854775808:Int)<=4/\(4:Int)<=9223372036854775807;omega) fun w' hb=>?_;rw[e];exact sr_evyears_c P MI MF nI T xa xc l la lc a b sa sc ka kc w' (hE.below hb) hR hl
 | kids h1 h2 h4 h3 =>
  refine sr_eval_of P MI MF nI T xa xc l la lc B _ cs w hc hE 36 Sr.kidsF_enters (Sr.findF_k P h1) YW fun w' hb=>?_;rw[e];have hkn:1<=ks.length/\ks.length<=8:=oQ;have hIH:∀ k∈ks,Sr.EvalC P MI MF nI T xa xc l la lc B k:=fun k hk=>ih k hk (h3 k hk) (hM.ks k hk);rcases h1 with rfl | rfl | rfl
  ·exact sr_kids_5 P MI MF nI T xa xc l la lc B ks sa sc ka kc w' (hE.below hb) hR hD hl (hK.below hb) hkn hIH
  ·exact sr_kids_6 P MI MF nI T xa xc l la lc B ks sa sc ka kc w' (hE.below hb) hR hD hl (hK.below hb) hkn hIH
  ·exact sr_kids_7 P MI MF nI T xa xc l la lc B ks sa sc ka kc w' (hE.below hb) hR hD hl (hK.below hb) hkn hIH
namespace Sr
open Rc hiding bys
open Qr
theorem knowF_nil:knowF []=fun _=>A0:=by
 funext kl;unfold knowF;rw[if_neg];rintro⟨r,hr,_⟩;cases hr
theorem knowF_step (l:List Rd) (x:Rd):H7 (knowF l) (.int .i64 x.id) (.bool true)=knowF (l++[x]):=by
 funext kl;unfold H7 knowF;by_cases h:kl=.int .i64 x.id
 ·rw[if_pos h,if_pos ⟨x,List.mem_append_right _ B8,h⟩]
 ·rw[if_neg h];by_cases h2:∃ r∈l,kl=.int .i64 r.id
  ·obtain⟨r,hr,e⟩:=h2;rw[if_pos ⟨r,hr,e⟩,if_pos ⟨r,List.mem_append_left _ hr,e⟩]
  ·rw[if_neg h2,if_neg];rintro⟨r,hr,e⟩;rcases List.mem_append.1 hr with hr | hr
   ·exact h2 ⟨r,hr,e⟩
   ·rw[B9]at hr;rw[hr]at e;exact h e
theorem made_at {w w':Ab}{X:Nat} (h:w.alloc (.map #[] 0)=w') (hX:w.heap.size=X):G8 3 w' X 0 (fun _=>A0):=by
 rw[<- h,<- hX];exact Vm.Map.made 3 w
theorem grown_set (w:Ab) (p:Aq) (v:Ak):w.grownBy (w.setCell p v) (A3 p.block) :=
 ⟨rfl,rfl,rfl,by simp[B5],fun k _ hk=>Below.heap_setCell _ _ _ _ (fun e=>hk (by rw[e]))⟩
theorem cell_grown {w w':Ab}{row:Option Nat}{b o:Nat}{v:Ak} (hg:w.grownBy w' row) (hne:A3 b≠row) (hc:w.cell? ⟨b,o,A0⟩=A3 v):w'.cell? ⟨b,o,A0⟩=A3 v :=
 (Ce (hg.block b (Km hc) hne)).trans hc
end Sr
theorem search_Eval_c (T:List C5) (xa:Option Aq) (xc:Nat) (l:List Ci) (la:Option Aq) (lc B:Nat) (q:Cq) (cs:List Ak) (w:Ab) (px:DT w xa xc T) (hX:Sr.Gx T) (rl:Rc.RdA w la lc l) (hR:∀ r∈l,Iq r) (hD:LH l) (hl:l.length<=1000000) (hq:Qr.QC B w q cs) (hrq:Sr.Rq q) (hz:Qr.Wz 1000000 q) :
  Af A8 15 #[.agg #[.slice xa T.length xc],.slice la l.length lc,.agg cs.toArray] w fun e w'=>∃ v,e=.returned v/\Bq w' w.heap.size v (Jf (T.map (·.1)) l q)/\Aa w.heap.size w w':=by
 have hml:Ap=9223372036854775807:=rfl;have hmm:=zmk;have hmf:=za;obtain⟨sa,sc,ka,kc,rfl,_,_,_⟩:=hq.kids;obtain⟨V,hV⟩:∃ V,((((w.alloc (.cells #[.slice xa T.length xc] 24)).alloc (.cells #[.int .i64 q.op,.int .i64 q.fld,.slice sa q.ws.length sc,.int .i64 q.a,.int .i64 q.b,.slice ka q.ks.length kc] 29)).alloc (.map #[] 0)).alloc (.cells #[.slice xa T.length xc,.slice la l.length lc,.map (A3 (w.heap.size+2)),.map A0] 65)).alloc (.map #[] 0)=V:=⟨_,rfl⟩;have hBV:Aa w.heap.size w V:=by rw[<- hV];exact ((((A9 _ _).alloc oZ _).alloc oW _).alloc oW _).alloc oW _
 have hVs:V.heap.size=w.heap.size+5:=by rw[<- hV];simp
 have hM0:G8 3 V (w.heap.size+4) 0 (fun _=>A0):=Sr.made_at hV oZ
 have hI0:G8 3 V (w.heap.size+2) 0 (fun _=>A0):=by
  have h:=Sr.made_at (w:=(w.alloc (.cells #[.slice xa T.length xc] 24)).alloc (.cells #[.int .i64 q.op,.int .i64 q.fld,.slice sa q.ws.length sc,.int .i64 q.a,.int .i64 q.b,.slice ka q.ks.length kc] 29)) rfl (X:=w.heap.size+2) oZ;rw[<- hV];exact h.below ((A9 _ _).alloc oZ _)
 have KP:Hid (V.heap[w.heap.size+3]?=A3 (.cells #[.slice xa T.length xc,.slice la l.length lc,.map (A3 (w.heap.size+2)),.map A0] 65 (0,0))):=J (by
  rw[<- hV];have h:=Ae (((w.alloc (.cells #[.slice xa T.length xc] 24)).alloc (.cells #[.int .i64 q.op,.int .i64 q.fld,.slice sa q.ws.length sc,.int .i64 q.a,.int .i64 q.b,.slice ka q.ks.length kc] 29)).alloc (.map #[] 0)) (.cells #[.slice xa T.length xc,.slice la l.length lc,.map (A3 (w.heap.size+2)),.map A0] 65);rw[show (((w.alloc (.cells #[.slice xa T.length xc] 24)).alloc (.cells #[.int .i64 q.op,.int .i64 q.fld,.slice sa q.ws.length sc,.int .i64 q.a,.int .i64 q.b,.slice ka q.ks.length kc] 29)).alloc (.map #[] 0)).heap.size=w.heap.size+3 by simp]at h;exact ((A9 _ _).block _ oZ).trans h)
 have d0:V.cell? ⟨w.heap.size+1,0,A0⟩=A3 (.int .i64 q.op):=by rw[<- hV];exact A4 (((A9 _ _).alloc oZ _).alloc oZ _) oZ
 have d1:V.cell? ⟨w.heap.size+1,1,A0⟩=A3 (.int .i64 q.fld):=by rw[<- hV];exact A4 (((A9 _ _).alloc oZ _).alloc oZ _) oZ
 have d2:V.cell? ⟨w.heap.size+1,2,A0⟩=A3 (.slice sa q.ws.length sc):=by rw[<- hV];exact A4 (((A9 _ _).alloc oZ _).alloc oZ _) oZ
 have d3:V.cell? ⟨w.heap.size+1,3,A0⟩=A3 (.int .i64 q.a):=by rw[<- hV];exact A4 (((A9 _ _).alloc oZ _).alloc oZ _) oZ
 have d4:V.cell? ⟨w.heap.size+1,4,A0⟩=A3 (.int .i64 q.b):=by rw[<- hV];exact A4 (((A9 _ _).alloc oZ _).alloc oZ _) oZ
 have d5:V.cell? ⟨w.heap.size+1,5,A0⟩=A3 (.slice ka q.ks.length kc):=by rw[<- hV];exact A4 (((A9 _ _).alloc oZ _).alloc oZ _) oZ
 have b0:V.cell? ⟨w.heap.size,0,A0⟩=A3 (.slice xa T.length xc):=by rw[<- hV];exact A4 ((((A9 _ _).alloc oZ _).alloc oZ _).alloc oZ _) oZ
 have HPL:Hid (w.heap.size+3<V.heap.size):=J oQ;have HPX:=J px;have HRL:=J rl;have HQ:=zlb;have HI0:=J hI0;have HRG:=J hR;have HBV:=J hBV;have hcap:=rl.cap;have hmax:=rl.max;have HEV:=J (fun nI=>sr_eval_c (w.heap.size+3) (w.heap.size+2) (w.heap.size+4) nI T xa xc l la lc B hX hR hD hl q hrq hz);clear px hX rl hR hD hq hrq hz hI0;go_enter Tryz.func15,Tryz.ntmps15
 go_wp2_with (first
  |(refine G6 hM6 oX Gt (Sr.in64_key (x:=7) aB) trivial rfl _ _ _ rfl Ft rfl rfl rfl ?_;intro w7 hM7 hg7;have hgA:=((((((hg1.trans hg2).trans hg3).trans hg4).trans hg5).trans hg6).trans hg7);have K7:=A7 ((hgA.block (w.heap.size+3) HPL.out (by intro h9;injection h9 with h9;omega)).trans KP.out);obtain⟨k7c,k7f,k7l⟩:=K7;have HGA:=J hgA)
  |(refine G6 hM5 oX Gt (Sr.in64_key (x:=6) aB) trivial rfl _ _ _ rfl Ft rfl rfl rfl ?_;intro w6 hM6 hg6)
  |(refine G6 hM4 oX Gt (Sr.in64_key (x:=5) aB) trivial rfl _ _ _ rfl Ft rfl rfl rfl ?_;intro w5 hM5 hg5)
  |(refine G6 hM3 oX Gt (Sr.in64_key (x:=4) aB) trivial rfl _ _ _ rfl Ft rfl rfl rfl ?_;intro w4 hM4 hg4)
  |(refine G6 hM2 oX Gt (Sr.in64_key (x:=3) aB) trivial rfl _ _ _ rfl Ft rfl rfl rfl ?_;intro w3 hM3 hg3)
  |(refine G6 hM1 oX Gt (Sr.in64_key (x:=2) aB) trivial rfl _ _ _ rfl Ft rfl rfl rfl ?_;intro w2 hM2 hg2)
  |(refine G6 hM0 oX Gt (Sr.in64_key (x:=1) aB) trivial rfl _ _ _ rfl Ft rfl rfl rfl ?_;intro w1 hM1 hg1))
 obtain⟨V9,hV9⟩:∃ V9,(w7.setCell ⟨w.heap.size+3,3,A0⟩ (.map (A3 (w.heap.size+4))))=V9:=⟨_,rfl⟩;have hA7:V.heap.size<=w7.heap.size:=HGA.out.size;have hVN:w.heap.size+5<=w7.heap.size:=oQ;have hs9:V9.heap.size=w7.heap.size:=by rw[<- hV9];simp[B5]
 have h7:Aa w.heap.size w w7:=HBV.out.grown HGA.out HBV.out.size iX;have h9:Aa w.heap.size w V9:=by rw[<- hV9];exact h7.setCell (show w.heap.size<=w.heap.size+3 by omega) _
 have hg9:w7.grownBy V9 (A3 (w.heap.size+3)):=by rw[<- hV9];exact Sr.grown_set w7 _ _
 have r0:V9.cell? ⟨w.heap.size+3,0,A0⟩=A3 (.slice xa T.length xc):=by rw[<- hV9];exact (JN w7 _ _ _ OV).trans (k7c 0)
 have r1:V9.cell? ⟨w.heap.size+3,1,A0⟩=A3 (.slice la l.length lc):=by rw[<- hV9];exact (JN w7 _ _ _ OV).trans (k7c 1)
 have r2:V9.cell? ⟨w.heap.size+3,2,A0⟩=A3 (.map (A3 (w.heap.size+2))):=by rw[<- hV9];exact (JN w7 _ _ _ OV).trans (k7c 2)
 have r3:V9.cell? ⟨w.heap.size+3,3,A0⟩=A3 (.map (A3 (w.heap.size+4))):=by rw[<- hV9];exact World.cell?_setCell_same w7 _ _ (k7c 3)
 have hI9:G8 3 V9 (w.heap.size+2) 0 (fun _=>A0):=(HI0.out.kept HGA.out aQ).kept hg9 aQ;have hF9:G8 3 V9 (w.heap.size+4) 7 (Sr.findF (w.heap.size+3)):=(show G8 3 w7 (w.heap.size+4) 7 (Sr.findF (w.heap.size+3)) from hM7).kept hg9 aQ;have hgV:V.grownBy w7 (A3 (w.heap.size+4)):=HGA.out;have e0:=Sr.cell_grown hg9 aQ (Sr.cell_grown hgV aQ d0);have e1:=Sr.cell_grown hg9 aQ (Sr.cell_grown hgV aQ d1);have e2:=Sr.cell_grown hg9 aQ (Sr.cell_grown hgV aQ d2);have e3:=Sr.cell_grown hg9 aQ (Sr.cell_grown hgV aQ d3);have e4:=Sr.cell_grown hg9 aQ (Sr.cell_grown hgV aQ d4);have e5:=Sr.cell_grown hg9 aQ (Sr.cell_grown hgV aQ d5);have HI9:=J hI9;have HF9:=J hF9;have H9:=J h9;clear hI9 hF9 hgV hg9 h7 h9 k7c k7f k7l hM1 hM2 hM3 hM4 hM5 hM6 hM7 hM0 hg1 hg2 hg3 hg4 hg5 hg6 hg7 d0 d1 d2 d3 d4 d5 hV b0 hBV;go_loopw [9,36] (fun _ i wr=>∃ (k n:Nat),k<=l.length/\n<=k/\i=.int .i64 k/\Hid (G8 3 wr (w.heap.size+2) n (Sr.knowF (l.take k)))/\Hid (V9.grownBy wr (A3 (w.heap.size+2)))) (fun _ i _=>l.length - (Aj i).toNat)
 case atStart=>exact⟨0,0,Am _,Ad _,rfl,J (by rw[BJ,Sr.knowF_nil,hV9];exact HI9.out),J (by rw[hV9];exact⟨rfl,rfl,rfl,Ad _,fun _ _ _=>rfl⟩)⟩
 case round =>
  obtain⟨k,n,hk,hnk,rfl,hmi,hgr⟩:=hrel;have hrs:=hgr.out.size;have hbr:Aa w.heap.size w wr:=H9.out.grown hgr.out H9.out.size iX;have z0:=Sr.cell_grown hgr.out aQ r0;have z1:=Sr.cell_grown hgr.out aQ r1;have z2:=Sr.cell_grown hgr.out aQ r2;have z3:=Sr.cell_grown hgr.out aQ r3;by_cases hlt:k<l.length
  ·obtain⟨x,hx⟩:=zcq;obtain⟨b,o,fa,fc,rfl,hbl,x0,x1,x2,x3,x4,hfx⟩:=(HRL.out.below hbr).get hx;have htk:l.take (k+1)=l.take k++[x]:=by rw[Cz,hx];rfl
   have hst:=Sr.knowF_step (l.take k) x;rw[<- htk]at hst;have hid:=(HRG.out x (AJ hx)).ids;have hkx:=Sr.in64_key (x:=x.id) aB;obtain⟨U,hU,hbU,y0,-,-,-,-⟩:=zbz;have u2:=A4 hbU z2;have HMU:=J (hmi.out.below hbU);have HGU:Hid (V9.grownBy U (A3 (w.heap.size+2))):=J (hgr.out.trans (Sr.grown_below hbU _));have HST:=J hst;have HKX:=J hkx;clear htk hst hkx hx hfx hmi hgr;go_wp2;go_still_tail 6,oJ;have hbq:Aa U.heap.size U U.drew:=(Ah _ _).drew;change wpList _ _ _ _ _ U.drew;generalize U.drew=U6 at hbq ⊢;go_wp2_with (at_mapUpdate;go_must (refine Vm.put_step (HMU.out.below hbq) oQ Gt HKX.out trivial rfl _ _ _ rfl Tryz.underlying62 rfl rfl rfl ?_);intro w3 hM3 hg3);go_roundw
   case rel=>exact⟨k+1,n+1,hlt,oQ,by go_num,J (by rw[<- HST.out];exact hM3),J ((HGU.out.trans (Sr.grown_below hbq _)).trans hg3)⟩
   case measure=>simp[Aj];omega
  ·obtain rfl:k=l.length:=oQ;have hmi2:=hmi.out;rw[At]at hmi2;have hev:Sr.Ev wr (w.heap.size+3) (w.heap.size+2) (w.heap.size+4) n T xa xc l la lc:=⟨z0,z1,z2,z3,HPX.out.below hbr,HRL.out.below hbr,hmi2,HF9.out.kept hgr.out aQ⟩;have EC:=HEV.out n _ wr (HQ.out.later hbr) hev;have t0:=Sr.cell_grown hgr.out aQ e0;have t1:=Sr.cell_grown hgr.out aQ e1;have t2:=Sr.cell_grown hgr.out aQ e2;have t3:=Sr.cell_grown hgr.out aQ e3;have t4:=Sr.cell_grown hgr.out aQ e4;have t5:=Sr.cell_grown hgr.out aQ e5;have HEC:=J EC;clear EC hev hmi2 hmi hgr;go_wp2_with (go_at_call 37;(with_reducible refine HEC.out.mono ?_);rintro e w1 ⟨v1,rfl,ho1,hb1⟩);go_ret;exact⟨_,rfl,EN ho1 oQ,Ac hbr hb1⟩
namespace Sr
open Rc hiding bys
open Qr
def FiC (T:List C5) (xa:Option Aq) (xc:Nat) (r:Rd) (fa:Option Aq) (fc B:Nat) (q:Qy):Prop:=∀ (cs:List Ak) (w:Ab),QC B w q cs->DT w xa xc T->Bz w fa fc r.fields ->
  Af A8 38 #[.agg #[.slice xa T.length xc],.agg #[.int .i64 r.id,.int .i64 r.ver,.int .i64 r.kind,.string r.lang,.slice fa r.fields.length fc],.agg cs.toArray] w fun e w'=>e=.returned (.bool (ev (leafX (T.map (·.1)) r) q))/\Aa w.heap.size w w'
theorem ev5 (lf:Qy->Bool) (ks:List Qy):ev lf (.mk 5 0 [] 0 0 ks)=ks.all (ev lf):=by rw[ev,if_pos rfl,evAll_eq]
theorem ev6 (lf:Qy->Bool) (ks:List Qy):ev lf (.mk 6 0 [] 0 0 ks)=ks.any (ev lf):=by rw[ev,if_neg oX,if_pos rfl,evAny_eq]
theorem ev7 (lf:Qy->Bool) (x y:Qy):ev lf (.mk 7 0 [] 0 0 [x,y])=(ev lf x&&!ev lf y):=by
 rw[ev,if_neg oX,if_neg oX,if_pos rfl,evNot,evAny,evAny,If]
theorem evl (lf:Qy->Bool) {o f a b:Int}{ws:List ByteArray} (h:o≠5/\o≠6/\o≠7):ev lf (.mk o f ws a b [])=lf (.mk o f ws a b []):=by
 rw[ev,if_neg h.1,if_neg h.2.1,if_neg h.2.2]
def cnt (p:Qy->Bool) (ks:List Qy):Nat:=(ks.filter p).length
theorem cnt_take {p:Qy->Bool}{ks:List Qy}{k:Nat}{x:Qy} (h:ks[k]?=A3 x):cnt p (ks.take (k+1))=cnt p (ks.take k)+(if p x=true then 1 else 0):=by
 unfold cnt;rw[take_snoc h,CE,Ag];by_cases hp:p x=true <;> simp[hp]
theorem cnt_le (p:Qy->Bool) (ks:List Qy):cnt p ks<=ks.length:=BB _ _
theorem cnt_all (p:Qy->Bool) (ks:List Qy):ks.all p=decide (cnt p ks=ks.length):=by
 unfold cnt;rw[Bx,decide_eq_true_eq,List.length_filter_eq_length_iff,List.all_eq_true]
theorem cnt_any (p:Qy->Bool) (ks:List Qy):ks.any p=decide (0<cnt p ks):=by
 unfold cnt;rw[Bx,decide_eq_true_eq,List.length_pos_iff_exists_mem,List.any_eq_true];constructor
 ·rintro⟨x,h1,h2⟩;exact⟨x,Be.2 ⟨h1,h2⟩⟩
 ·rintro⟨x,h⟩;exact⟨x,(Be.1 h).1,(Be.1 h).2⟩
theorem la_ia {w:Ab}{b o c:Nat}{xs:List Int} (h:Cs.LA (B3 .i64) w b o c xs):DC w (A3 ⟨b,o,A0⟩) c xs :=
 ⟨h.cap,h.max,b,o,fun _=>⟨rfl,h.lt⟩,fun j i x u hx hu=>by
  match i,hu with
  | 0,hu =>
   injection hu with hu;subst hu;have:=h.at_ j x hx;rw[Nat.mul_one,BN];exact this⟩
end Sr
theorem vyo (h:P:=by
 go_wp2
 go_region_held3 (fun w'=>Aa wr.heap.size wr w'/\w'.cell? ⟨w.heap.size,0,A0⟩=A3 (.slice xa T.length xc)/\w'.cell? ⟨w.heap.size+1,0,A0⟩=A3 (.int .i64 r.id)/\w'.cell? ⟨w.heap.size+1,1,A0⟩=A3 (.int .i64 r.ver)/\w'.cell? ⟨w.heap.size+1,2,A0⟩=A3 (.int .i64 r.kind)/\w'.cell? ⟨w.heap.size+1,3,A0⟩=A3 (.string r.lang)/\w'.cell? ⟨w.heap.size+1,4,A0⟩=A3 (.slice fa r.fields.length fc)/\w'.cell? ⟨w.heap.size+2,0,A0⟩=A3 (.int .i64 5)/\w'.cell? ⟨w.heap.size+2,1,A0⟩=A3 (.int .i64 0)/\w'.cell? ⟨w.heap.size+2,2,A0⟩=A3 (.slice sa 0 sc)/\w'.cell? ⟨w.heap.size+2,3,A0⟩=A3 (.int .i64 0)/\w'.cell? ⟨w.heap.size+2,4,A0⟩=A3 (.int .i64 0)/\w'.cell? ⟨w.heap.size+2,5,A0⟩=A3 (.slice (A3 ⟨kb,ko,A0⟩) ks.length kc)/\w'.cell? ⟨kb,ko+k*6,A0⟩=A3 (.int .i64 x.op)/\w'.cell? ⟨kb,ko+k*6+1,A0⟩=A3 (.int .i64 x.fld)/\w'.cell? ⟨kb,ko+k*6+2,A0⟩=A3 (.slice xsa x.ws.length xsc)/\w'.cell? ⟨kb,ko+k*6+3,A0⟩=A3 (.int .i64 x.a)/\w'.cell? ⟨kb,ko+k*6+4,A0⟩=A3 (.int .i64 x.b)/\w'.cell? ⟨kb,ko+k*6+5,A0⟩=A3 (.slice xka x.ks.length xkc))
  (first | exact⟨(Ah _ _).drew,zc0,zr0,zr1,zr2,zr3,zr4,zd0,zd1,zd2,zd3,zd4,zd5,k0,k1,k2,k3,k4,k5⟩ | (go_split_ands;exact⟨Ac ‹_› hbx,by repeat' first | exact A4 hbx ‹_› | constructor⟩))
  (first | (go_split_ands;go_at_call 38;((with_reducible refine (HC.out _ ‹_›).mono ?_);rintro e wx ⟨rfl,hbx⟩)))
 first
  |exact y3o
  |exact y2v):P:=h
theorem vqd (h:P:=by
 go_wp2
 go_region_held3 (fun w'=>Aa wr.heap.size wr w'/\w'.cell? ⟨w.heap.size,0,A0⟩=A3 (.slice xa T.length xc)/\w'.cell? ⟨w.heap.size+1,0,A0⟩=A3 (.int .i64 r.id)/\w'.cell? ⟨w.heap.size+1,1,A0⟩=A3 (.int .i64 r.ver)/\w'.cell? ⟨w.heap.size+1,2,A0⟩=A3 (.int .i64 r.kind)/\w'.cell? ⟨w.heap.size+1,3,A0⟩=A3 (.string r.lang)/\w'.cell? ⟨w.heap.size+1,4,A0⟩=A3 (.slice fa r.fields.length fc)/\w'.cell? ⟨w.heap.size+2,0,A0⟩=A3 (.int .i64 6)/\w'.cell? ⟨w.heap.size+2,1,A0⟩=A3 (.int .i64 0)/\w'.cell? ⟨w.heap.size+2,2,A0⟩=A3 (.slice sa 0 sc)/\w'.cell? ⟨w.heap.size+2,3,A0⟩=A3 (.int .i64 0)/\w'.cell? ⟨w.heap.size+2,4,A0⟩=A3 (.int .i64 0)/\w'.cell? ⟨w.heap.size+2,5,A0⟩=A3 (.slice (A3 ⟨kb,ko,A0⟩) ks.length kc)/\w'.cell? ⟨kb,ko+k*6,A0⟩=A3 (.int .i64 x.op)/\w'.cell? ⟨kb,ko+k*6+1,A0⟩=A3 (.int .i64 x.fld)/\w'.cell? ⟨kb,ko+k*6+2,A0⟩=A3 (.slice xsa x.ws.length xsc)/\w'.cell? ⟨kb,ko+k*6+3,A0⟩=A3 (.int .i64 x.a)/\w'.cell? ⟨kb,ko+k*6+4,A0⟩=A3 (.int .i64 x.b)/\w'.cell? ⟨kb,ko+k*6+5,A0⟩=A3 (.slice xka x.ks.length xkc))
  (first | exact⟨(Ah _ _).drew,zc0,zr0,zr1,zr2,zr3,zr4,zd0,zd1,zd2,zd3,zd4,zd5,k0,k1,k2,k3,k4,k5⟩ | (go_split_ands;exact⟨Ac ‹_› hbx,by repeat' first | exact A4 hbx ‹_› | constructor⟩))
  (first | (go_split_ands;go_at_call 38;((with_reducible refine (HC.out _ ‹_›).mono ?_);rintro e wx ⟨rfl,hbx⟩)))
 first
  |exact y3o
  |exact y2v):P:=h
theorem vdv (h:P:=by
 obtain⟨k,hk,rfl,rfl,hbr⟩:=hrel;have hcl:=Sr.cnt_le (CJ (Bt (T.map (·.1)) r)) (ks.take k);rw[Az]at hcl;have zc0:=A4 hbr c0;have zr0:=A4 hbr r0;have zr1:=A4 hbr r1;have zr2:=A4 hbr r2;have zr3:=A4 hbr r3;have zr4:=A4 hbr r4;have zd0:=A4 hbr d0;have zd1:=A4 hbr d1;have zd2:=A4 hbr d2;have zd3:=A4 hbr d3;have zd4:=A4 hbr d4;have zd5:=A4 hbr d5;clear c0 r0 r1 r2 r3 r4 d0 d1 d2 d3 d4 d5;by_cases hlt:k<ks.length
 first
  |·obtain⟨x,hx⟩:∃ x,ks[k]?=A3 x:=⟨_,Ai hlt⟩
    obtain⟨kb,ko,xsa,xsc,xka,xkc,rfl,hkb,k0,k1,k2,k3,k4,k5,hq⟩:=(HKW.out.below hbr).get hx;have CC:=zch;have hct:=zmp;obtain⟨t,ht⟩:=zoo;rw[ht]at CC hct;obtain⟨c,hc⟩:=zjy;rw[hc]at hct hcl ⊢;have HC:=zik;have HCT:=J hct;have hki:(k:Int)<(ks.length:Int):=oQ;clear CC hx ht hq hct hc;cases t with
    | true =>
     exact vyo
    | false =>
     exact vyo
   ·obtain rfl:k=ks.length:=oQ;have hbf:=HM.out;rw[At]at hcl ⊢;obtain⟨c,hc⟩:=zlv;rw[hc]at hbf hcl ⊢;by_cases hce:c=ks.length
    ·have t1:((c:Int) == (ks.length:Int))=true:=beq_iff_eq.2 oQ;rw[decide_eq_true hce]at hbf;subst hbf;clear hce hc;go_wp2;go_ret;exact⟨rfl,Ac hB hbr⟩
    ·have t1:((c:Int) == (ks.length:Int))=false:=beq_eq_false_iff_ne.2 oQ;rw[decide_eq_false hce]at hbf;subst hbf;clear hce hc;go_wp2;go_ret;exact⟨rfl,Ac hB hbr⟩
  |·obtain⟨x,hx⟩:∃ x,ks[k]?=A3 x:=⟨_,Ai hlt⟩
    obtain⟨kb,ko,xsa,xsc,xka,xkc,rfl,hkb,k0,k1,k2,k3,k4,k5,hq⟩:=(HKW.out.below hbr).get hx;have CC:=zch;have hct:=zmp;obtain⟨t,ht⟩:=zoo;rw[ht]at CC hct;obtain⟨c,hc⟩:=zjy;rw[hc]at hct hcl ⊢;have HC:=zik;have HCT:=J hct;have hki:(k:Int)<(ks.length:Int):=oQ;clear CC hx ht hq hct hc;cases t with
    | true =>
     exact vqd
    | false =>
     exact vqd
   ·obtain rfl:k=ks.length:=oQ;have hbf:=HM.out;rw[At]at hcl ⊢;obtain⟨c,hc⟩:=zlv;rw[hc]at hbf hcl ⊢;by_cases hce:0<c
    ·have t1:(c:Int) > 0:=oQ;rw[decide_eq_true hce]at hbf;exact ylo
    ·have t1:¬ (c:Int) > 0:=oQ;rw[decide_eq_false hce]at hbf;exact ylo):P:=h
theorem vwu (h:P:=by
 have KC:=zio;rw[hb2]at KC;have HXC:=J XC;have HKC:=J KC;obtain⟨b2,o2,rfl,hb2',y0⟩:=(hw.below hB).get (k:=0) (x:=y) rfl;rw[BN]at y0;clear px hX h hw XC KC hPW hFW hL hb hb2;go_enter IK,I4;go_wp2;clear hW
 first
  |go_region_held3 (fun w'=>Aa W.heap.size W w'/\w'.cell? ⟨w.heap.size,0,A0⟩=A3 (.slice xa T.length xc)/\w'.cell? ⟨w.heap.size+1,0,A0⟩=A3 (.int .i64 r.id)/\w'.cell? ⟨w.heap.size+2,1,A0⟩=A3 (.int .i64 f)/\w'.cell? ⟨w.heap.size+2,2,A0⟩=A3 (.slice (A3 ⟨b2,o2,A0⟩) 1 sc)/\w'.cell? ⟨b2,o2,A0⟩=A3 (.string y))
    (first | exact⟨(Ah _ _).drew,c0,r0,d1,d2,y0⟩ | (go_split_ands;exact⟨Ac ‹_› hbx,by repeat' first | exact A4 hbx ‹_› | constructor⟩) | (go_split_ands;exact⟨oB,oB,oB,oB,oB,oB⟩))
    (first
     |(go_split_ands;go_at_call 90;((with_reducible refine (HXC.out _ ‹_›).mono ?_);rintro e wx ⟨v,rfl,ho,hbx⟩;obtain⟨va,vc,rfl,hia,_⟩:=Cb ho rfl;have HIA:=J hia;clear hia ho))
     |(go_split_ands;go_at_call 51;((with_reducible refine (HKC.out _ _ _ HIA.out).mono ?_);rintro e wx ⟨rfl,rfl⟩)))
   go_split_ands;go_wp2;go_ret;exact⟨rfl,Ac hB ‹_›⟩
  |go_region_held3 (fun w'=>Aa W.heap.size W w'/\w'.cell? ⟨w.heap.size,0,A0⟩=A3 (.slice xa T.length xc)/\w'.cell? ⟨w.heap.size+1,0,A0⟩=A3 (.int .i64 r.id)/\w'.cell? ⟨w.heap.size+2,1,A0⟩=A3 (.int .i64 f)/\w'.cell? ⟨w.heap.size+2,2,A0⟩=A3 (.slice (A3 ⟨b2,o2,A0⟩) 1 sc)/\w'.cell? ⟨b2,o2,A0⟩=A3 (.string y))
    (first | exact⟨(Ah _ _).drew,c0,r0,d1,d2,y0⟩ | (go_split_ands;exact⟨Ac ‹_› hbx,by repeat' first | exact A4 hbx ‹_› | constructor⟩) | (go_split_ands;exact⟨oB,oB,oB,oB,oB,oB⟩))
    (first
     |(go_split_ands;go_at_call 89;((with_reducible refine (HXC.out _ ‹_›).mono ?_);rintro e wx ⟨v,rfl,ho,hbx⟩;obtain⟨va,vc,rfl,hia,_⟩:=Cb ho rfl;have HIA:=J hia;clear hia ho))
     |(go_split_ands;go_at_call 51;((with_reducible refine (HKC.out _ _ _ HIA.out).mono ?_);rintro e wx ⟨rfl,rfl⟩)))
   go_split_ands;go_wp2;go_ret;exact⟨rfl,Ac hB ‹_›⟩):P:=h
theorem v8v (h:P:=by
 have d3:=zad;have d4:=zae
 first
  |have d5:W.cell? ⟨w.heap.size+2,5,A0⟩=A3 (.slice ka ks.length kc):=by rw[<- hW,show w.heap.size+2=((w.alloc (.cells #[.slice xa T.length xc] 24)).alloc (.cells #[.int .i64 r.id,.int .i64 r.ver,.int .i64 r.kind,.string r.lang,.slice fa r.fields.length fc] 51)).heap.size by simp];exact (A7 (Ae _ _)).1 5
   have hFW:=zfw;have hPW:=zrl;rw[Sr.ev5,Sr.cnt_all]at hb;have HM:=J hb;have HKW:=J (hK.below hB);have HF:=J hFW;have HPX:=J hPW;have HIH:=J IH;have hmax:=hK.max;have hmx:Ap=9223372036854775807:=rfl;clear hb hFW hPW h px hK IH;go_enter IK,I4;go_wp2;clear hW;go_loopw [7,8] (fun n i wr=>∃ k:Nat,k<=ks.length/\i=.int .i64 k/\n=.int .i64 (Sr.cnt (CJ (Bt (T.map (·.1)) r)) (ks.take k):Nat)/\Aa W.heap.size W wr) (fun _ i _=>ks.length - (Aj i).toNat)
   case atStart=>exact⟨0,Am _,by go_num,rfl,Ah _ _⟩
   case round =>
    exact vdv
  |have d5:W.cell? ⟨w.heap.size+2,5,A0⟩=A3 (.slice ka ks.length kc):=by rw[<- hW,show w.heap.size+2=((w.alloc (.cells #[.slice xa T.length xc] 24)).alloc (.cells #[.int .i64 r.id,.int .i64 r.ver,.int .i64 r.kind,.string r.lang,.slice fa r.fields.length fc] 51)).heap.size by simp];exact (A7 (Ae _ _)).1 5
   have hFW:=zfw;have hPW:=zrl;rw[Sr.ev6,Sr.cnt_any]at hb;have HM:=J hb;have HKW:=J (hK.below hB);have HF:=J hFW;have HPX:=J hPW;have HIH:=J IH;have hmax:=hK.max;have hmx:Ap=9223372036854775807:=rfl;clear hb hFW hPW h px hK IH;go_enter IK,I4;go_wp2;clear hW;go_loopw [7,8] (fun n i wr=>∃ k:Nat,k<=ks.length/\i=.int .i64 k/\n=.int .i64 (Sr.cnt (CJ (Bt (T.map (·.1)) r)) (ks.take k):Nat)/\Aa W.heap.size W wr) (fun _ i _=>ks.length - (Aj i).toNat)
   case atStart=>exact⟨0,Am _,by go_num,rfl,Ah _ _⟩
   case round =>
    exact vdv
  |have d5:W.cell? ⟨w.heap.size+2,5,A0⟩=A3 (.slice ka 0 kc):=by rw[<- hW,show w.heap.size+2=((w.alloc (.cells #[.slice xa T.length xc] 24)).alloc (.cells #[.int .i64 r.id,.int .i64 r.ver,.int .i64 r.kind,.string r.lang,.slice fa r.fields.length fc] 51)).heap.size by simp];exact (A7 (Ae _ _)).1 5
   have hFW:=zfw;have hPW:=zrl;obtain⟨L,hL⟩:=zkp;rw[Sr.evl _ oX]at hb;have hb2:=zmj;have hwm:=zcl;have XC:∀ W',Aa W.heap.size W W'->_:=fun W' h9=>r20_Phrase_c T xa xc f (ws.map (·.data.toList)) sa sc W' (hPW.below h9) hX.len hX.al zss;rw[Ax,hL]at XC;have KC:=zio;rw[hb2]at KC;have HXC:=J XC;have HKC:=J KC;clear px hX h hw XC KC hPW hFW hL hb hb2;go_enter IK,I4;go_wp2;clear hW
   go_region_held3 (fun w'=>Aa W.heap.size W w'/\w'.cell? ⟨w.heap.size,0,A0⟩=A3 (.slice xa T.length xc)/\w'.cell? ⟨w.heap.size+1,0,A0⟩=A3 (.int .i64 r.id)/\w'.cell? ⟨w.heap.size+2,1,A0⟩=A3 (.int .i64 f)/\w'.cell? ⟨w.heap.size+2,2,A0⟩=A3 (.slice sa ws.length sc))
    (first | exact⟨(Ah _ _).drew,c0,r0,d1,d2⟩ | (go_split_ands;exact⟨Ac ‹_› hbx,by repeat' first | exact A4 hbx ‹_› | constructor⟩) | (go_split_ands;exact⟨oB,oB,oB,oB,oB⟩))
    (first
     |(go_split_ands;go_at_call 91;((with_reducible refine (HXC.out _ ‹_›).mono ?_);rintro e wx ⟨v,rfl,ho,hbx⟩;obtain⟨va,vc,rfl,hia,_⟩:=Cb ho rfl;have HIA:=J hia;clear hia ho))
     |(go_split_ands;go_at_call 51;((with_reducible refine (HKC.out _ _ _ HIA.out).mono ?_);rintro e wx ⟨rfl,rfl⟩)))
   go_split_ands;go_wp2;go_ret;exact⟨rfl,Ac hB ‹_›⟩
  |have d5:W.cell? ⟨w.heap.size+2,5,A0⟩=A3 (.slice ka 0 kc):=by rw[<- hW,show w.heap.size+2=((w.alloc (.cells #[.slice xa T.length xc] 24)).alloc (.cells #[.int .i64 r.id,.int .i64 r.ver,.int .i64 r.kind,.string r.lang,.slice fa r.fields.length fc] 51)).heap.size by simp];exact (A7 (Ae _ _)).1 5
   have hFW:=zfw;have hPW:=zrl;obtain⟨L,hL⟩:=zmx;rw[Sr.evl _ oX]at hb;have hb2:=zmj;have XC:∀ W',Aa W.heap.size W W'->_:=fun W' h9=>r20_Prefix_c T xa xc f y.data.toList W' (hPW.below h9) iY hX.wl;rw[<- Ix.prefix_T,hL]at XC;exact vwu
  |have d5:W.cell? ⟨w.heap.size+2,5,A0⟩=A3 (.slice ka 0 kc):=by rw[<- hW,show w.heap.size+2=((w.alloc (.cells #[.slice xa T.length xc] 24)).alloc (.cells #[.int .i64 r.id,.int .i64 r.ver,.int .i64 r.kind,.string r.lang,.slice fa r.fields.length fc] 51)).heap.size by simp];exact (A7 (Ae _ _)).1 5
   have hFW:=zfw;have hPW:=zrl;obtain⟨L,hL⟩:=zns;rw[Sr.evl _ oX]at hb;have hb2:=zmj;have XC:∀ W',Aa W.heap.size W W'->_:=fun W' h9=>r20_Word_c T xa xc f y.data.toList W' (hPW.below h9) iY;rw[<- Ix.word_T,hL]at XC;exact vwu):P:=h
theorem v67 (h:P:=by
 have d1:=zaf;have d2:=zac
 first
  |have d3:W.cell? ⟨w.heap.size+2,3,A0⟩=A3 (.int .i64 ya):=by rw[<- hW,show w.heap.size+2=((w.alloc (.cells #[.slice xa T.length xc] 24)).alloc (.cells #[.int .i64 r.id,.int .i64 r.ver,.int .i64 r.kind,.string r.lang,.slice fa r.fields.length fc] 51)).heap.size by simp];exact (A7 (Ae _ _)).1 3
   have d4:W.cell? ⟨w.heap.size+2,4,A0⟩=A3 (.int .i64 yb):=by rw[<- hW,show w.heap.size+2=((w.alloc (.cells #[.slice xa T.length xc] 24)).alloc (.cells #[.int .i64 r.id,.int .i64 r.ver,.int .i64 r.kind,.string r.lang,.slice fa r.fields.length fc] 51)).heap.size by simp];exact (A7 (Ae _ _)).1 4
   have d5:W.cell? ⟨w.heap.size+2,5,A0⟩=A3 (.slice ka 0 kc):=by rw[<- hW,show w.heap.size+2=((w.alloc (.cells #[.slice xa T.length xc] 24)).alloc (.cells #[.int .i64 r.id,.int .i64 r.ver,.int .i64 r.kind,.string r.lang,.slice fa r.fields.length fc] 51)).heap.size by simp];exact (A7 (Ae _ _)).1 5
   have hFW:=zfw;have hPW:=zrl;have YC:=r22_Years_c r.fields fa fc r.id r.ver r.kind r.lang 4 0 ya yb (.slice sa 0 sc) (.slice ka 0 kc) W hFW hR.gd;rw[show Hy (DQ r.fields) ya yb=b from hb]at YC;have HY:=J YC;clear YC hb hFW h hR hPW px;go_enter IK,I4;go_wp2_with (go_at_call 69;(with_reducible refine HY.out.mono ?_);rintro e w1 ⟨rfl,hb1⟩);go_ret;exact⟨rfl,Ac hB hb1⟩
  |exact v8v):P:=h
theorem vgv (h:P:=by
 have d1:W.cell? ⟨w.heap.size+2,1,A0⟩=A3 (.int .i64 f):=by rw[<- hW,show w.heap.size+2=((w.alloc (.cells #[.slice xa T.length xc] 24)).alloc (.cells #[.int .i64 r.id,.int .i64 r.ver,.int .i64 r.kind,.string r.lang,.slice fa r.fields.length fc] 51)).heap.size by simp];exact (A7 (Ae _ _)).1 1
 first
  |have d2:W.cell? ⟨w.heap.size+2,2,A0⟩=A3 (.slice sa 1 sc):=by rw[<- hW,show w.heap.size+2=((w.alloc (.cells #[.slice xa T.length xc] 24)).alloc (.cells #[.int .i64 r.id,.int .i64 r.ver,.int .i64 r.kind,.string r.lang,.slice fa r.fields.length fc] 51)).heap.size by simp];exact (A7 (Ae _ _)).1 2
   exact v8v
  |have d2:W.cell? ⟨w.heap.size+2,2,A0⟩=A3 (.slice sa ws.length sc):=by rw[<- hW,show w.heap.size+2=((w.alloc (.cells #[.slice xa T.length xc] 24)).alloc (.cells #[.int .i64 r.id,.int .i64 r.ver,.int .i64 r.kind,.string r.lang,.slice fa r.fields.length fc] 51)).heap.size by simp];exact (A7 (Ae _ _)).1 2
   exact v8v):P:=h
theorem v4u (h:P:=by
 have hB:=zbl;have c0:=zdg;have r0:=zfj;have r1:=zfg;have r2:=zfb;have r3:=zfk;have r4:=zeb
 first
  |have d0:W.cell? ⟨w.heap.size+2,0,A0⟩=A3 (.int .i64 5):=by rw[<- hW,show w.heap.size+2=((w.alloc (.cells #[.slice xa T.length xc] 24)).alloc (.cells #[.int .i64 r.id,.int .i64 r.ver,.int .i64 r.kind,.string r.lang,.slice fa r.fields.length fc] 51)).heap.size by simp];exact (A7 (Ae _ _)).1 0
   exact v67
  |have d0:W.cell? ⟨w.heap.size+2,0,A0⟩=A3 (.int .i64 6):=by rw[<- hW,show w.heap.size+2=((w.alloc (.cells #[.slice xa T.length xc] 24)).alloc (.cells #[.int .i64 r.id,.int .i64 r.ver,.int .i64 r.kind,.string r.lang,.slice fa r.fields.length fc] 51)).heap.size by simp];exact (A7 (Ae _ _)).1 0
   exact v67
  |have d0:W.cell? ⟨w.heap.size+2,0,A0⟩=A3 (.int .i64 3):=by rw[<- hW,show w.heap.size+2=((w.alloc (.cells #[.slice xa T.length xc] 24)).alloc (.cells #[.int .i64 r.id,.int .i64 r.ver,.int .i64 r.kind,.string r.lang,.slice fa r.fields.length fc] 51)).heap.size by simp];exact (A7 (Ae _ _)).1 0
   exact vgv
  |have d0:W.cell? ⟨w.heap.size+2,0,A0⟩=A3 (.int .i64 2):=by rw[<- hW,show w.heap.size+2=((w.alloc (.cells #[.slice xa T.length xc] 24)).alloc (.cells #[.int .i64 r.id,.int .i64 r.ver,.int .i64 r.kind,.string r.lang,.slice fa r.fields.length fc] 51)).heap.size by simp];exact (A7 (Ae _ _)).1 0
   exact vgv
  |have d0:W.cell? ⟨w.heap.size+2,0,A0⟩=A3 (.int .i64 1):=by rw[<- hW,show w.heap.size+2=((w.alloc (.cells #[.slice xa T.length xc] 24)).alloc (.cells #[.int .i64 r.id,.int .i64 r.ver,.int .i64 r.kind,.string r.lang,.slice fa r.fields.length fc] 51)).heap.size by simp];exact (A7 (Ae _ _)).1 0
   exact vgv
  |have d0:W.cell? ⟨w.heap.size+2,0,A0⟩=A3 (.int .i64 4):=by rw[<- hW,show w.heap.size+2=((w.alloc (.cells #[.slice xa T.length xc] 24)).alloc (.cells #[.int .i64 r.id,.int .i64 r.ver,.int .i64 r.kind,.string r.lang,.slice fa r.fields.length fc] 51)).heap.size by simp];exact (A7 (Ae _ _)).1 0
   exact v67):P:=h
theorem r22_Finds_4 (T:List C5) (xa:Option Aq) (xc:Nat) (r:Ci) (fa:Option Aq) (fc:Nat) (ya yb:Int) (sa:Option Aq) (sc:Nat) (ka:Option Aq) (kc:Nat) (w:Ab) (px:DT w xa xc T) (h:Bz w fa fc r.fields) (hR:Iq r) :
  Af A8 38 #[.agg #[.slice xa T.length xc],.agg #[.int .i64 r.id,.int .i64 r.ver,.int .i64 r.kind,.string r.lang,.slice fa r.fields.length fc],.agg #[.int .i64 4,.int .i64 0,.slice sa 0 sc,.int .i64 ya,.int .i64 yb,.slice ka 0 kc]] w fun e w'=>e=.returned (.bool (CJ (Bt (T.map (·.1)) r) (.mk 4 0 [] ya yb [])))/\Aa w.heap.size w w':=by
 obtain⟨b,hb⟩:∃ b,CJ (Bt (T.map (·.1)) r) (.mk 4 0 [] ya yb [])=b:=⟨_,rfl⟩;rw[hb];obtain⟨W,hW⟩:∃ W,((w.alloc (.cells #[.slice xa T.length xc] 24)).alloc (.cells #[.int .i64 r.id,.int .i64 r.ver,.int .i64 r.kind,.string r.lang,.slice fa r.fields.length fc] 51)).alloc (.cells #[.int .i64 4,.int .i64 0,.slice sa 0 sc,.int .i64 ya,.int .i64 yb,.slice ka 0 kc] 29)=W:=⟨_,rfl⟩;exact v4u
theorem r22_Finds_1 (T:List C5) (xa:Option Aq) (xc:Nat) (r:Ci) (fa:Option Aq) (fc:Nat) (f:Int) (y:ByteArray) (sa:Option Aq) (sc:Nat) (ka:Option Aq) (kc:Nat) (w:Ab) (px:DT w xa xc T) (hX:Sr.Gx T) (h:Bz w fa fc r.fields) (hw:SLA w sa sc [y]) :
  Af A8 38 #[.agg #[.slice xa T.length xc],.agg #[.int .i64 r.id,.int .i64 r.ver,.int .i64 r.kind,.string r.lang,.slice fa r.fields.length fc],.agg #[.int .i64 1,.int .i64 f,.slice sa 1 sc,.int .i64 0,.int .i64 0,.slice ka 0 kc]] w fun e w'=>e=.returned (.bool (CJ (Bt (T.map (·.1)) r) (.mk 1 f [y] 0 0 [])))/\Aa w.heap.size w w':=by
 obtain⟨b,hb⟩:∃ b,CJ (Bt (T.map (·.1)) r) (.mk 1 f [y] 0 0 [])=b:=⟨_,rfl⟩;rw[hb];obtain⟨W,hW⟩:∃ W,((w.alloc (.cells #[.slice xa T.length xc] 24)).alloc (.cells #[.int .i64 r.id,.int .i64 r.ver,.int .i64 r.kind,.string r.lang,.slice fa r.fields.length fc] 51)).alloc (.cells #[.int .i64 1,.int .i64 f,.slice sa 1 sc,.int .i64 0,.int .i64 0,.slice ka 0 kc] 29)=W:=⟨_,rfl⟩;exact v4u
theorem r22_Finds_2 (T:List C5) (xa:Option Aq) (xc:Nat) (r:Ci) (fa:Option Aq) (fc:Nat) (f:Int) (y:ByteArray) (sa:Option Aq) (sc:Nat) (ka:Option Aq) (kc:Nat) (w:Ab) (px:DT w xa xc T) (hX:Sr.Gx T) (h:Bz w fa fc r.fields) (hw:SLA w sa sc [y]) :
  Af A8 38 #[.agg #[.slice xa T.length xc],.agg #[.int .i64 r.id,.int .i64 r.ver,.int .i64 r.kind,.string r.lang,.slice fa r.fields.length fc],.agg #[.int .i64 2,.int .i64 f,.slice sa 1 sc,.int .i64 0,.int .i64 0,.slice ka 0 kc]] w fun e w'=>e=.returned (.bool (CJ (Bt (T.map (·.1)) r) (.mk 2 f [y] 0 0 [])))/\Aa w.heap.size w w':=by
 obtain⟨b,hb⟩:∃ b,CJ (Bt (T.map (·.1)) r) (.mk 2 f [y] 0 0 [])=b:=⟨_,rfl⟩;rw[hb];obtain⟨W,hW⟩:∃ W,((w.alloc (.cells #[.slice xa T.length xc] 24)).alloc (.cells #[.int .i64 r.id,.int .i64 r.ver,.int .i64 r.kind,.string r.lang,.slice fa r.fields.length fc] 51)).alloc (.cells #[.int .i64 2,.int .i64 f,.slice sa 1 sc,.int .i64 0,.int .i64 0,.slice ka 0 kc] 29)=W:=⟨_,rfl⟩;exact v4u
theorem r22_Finds_3 (T:List C5) (xa:Option Aq) (xc:Nat) (r:Ci) (fa:Option Aq) (fc:Nat) (f:Int) (ws:List ByteArray) (sa:Option Aq) (sc:Nat) (ka:Option Aq) (kc:Nat) (w:Ab) (px:DT w xa xc T) (hX:Sr.Gx T) (h:Bz w fa fc r.fields) (hw:SLA w sa sc ws) :
  Af A8 38 #[.agg #[.slice xa T.length xc],.agg #[.int .i64 r.id,.int .i64 r.ver,.int .i64 r.kind,.string r.lang,.slice fa r.fields.length fc],.agg #[.int .i64 3,.int .i64 f,.slice sa ws.length sc,.int .i64 0,.int .i64 0,.slice ka 0 kc]] w fun e w'=>e=.returned (.bool (CJ (Bt (T.map (·.1)) r) (.mk 3 f ws 0 0 [])))/\Aa w.heap.size w w':=by
 obtain⟨b,hb⟩:∃ b,CJ (Bt (T.map (·.1)) r) (.mk 3 f ws 0 0 [])=b:=⟨_,rfl⟩;rw[hb];obtain⟨W,hW⟩:∃ W,((w.alloc (.cells #[.slice xa T.length xc] 24)).alloc (.cells #[.int .i64 r.id,.int .i64 r.ver,.int .i64 r.kind,.string r.lang,.slice fa r.fields.length fc] 51)).alloc (.cells #[.int .i64 3,.int .i64 f,.slice sa ws.length sc,.int .i64 0,.int .i64 0,.slice ka 0 kc] 29)=W:=⟨_,rfl⟩;exact v4u
theorem y3o (h:P:=by
 go_split_ands;have hb9:=zmi;go_wp2;go_roundw
 case rel=>exact⟨k+1,hlt,by go_num,by rw[HCT.out];show B3 .i64 _=B3 .i64 ((c+1:Nat):Int);go_num,Ac hbr hb9⟩
 case measure=>simp[Aj];omega):P:=h
theorem y2v (h:P:=by
 go_split_ands;have hb9:=zmi;go_wp2;go_roundw
 case rel=>exact⟨k+1,hlt,by go_num,by rw[HCT.out];rfl,Ac hbr hb9⟩
 case measure=>simp[Aj];omega):P:=h
theorem r22_Finds_5 (T:List C5) (xa:Option Aq) (xc:Nat) (r:Ci) (fa:Option Aq) (fc:Nat) (B:Nat) (ks:List Cq) (sa:Option Aq) (sc:Nat) (ka:Option Aq) (kc:Nat) (w:Ab) (px:DT w xa xc T) (h:Bz w fa fc r.fields) (hK:Le B w ka kc ks) (IH:∀ k∈ks,Sr.FiC T xa xc r fa fc B k) :
  Af A8 38 #[.agg #[.slice xa T.length xc],.agg #[.int .i64 r.id,.int .i64 r.ver,.int .i64 r.kind,.string r.lang,.slice fa r.fields.length fc],.agg #[.int .i64 5,.int .i64 0,.slice sa 0 sc,.int .i64 0,.int .i64 0,.slice ka ks.length kc]] w fun e w'=>e=.returned (.bool (CJ (Bt (T.map (·.1)) r) (.mk 5 0 [] 0 0 ks)))/\Aa w.heap.size w w':=by
 obtain⟨b,hb⟩:∃ b,CJ (Bt (T.map (·.1)) r) (.mk 5 0 [] 0 0 ks)=b:=⟨_,rfl⟩;rw[hb];obtain⟨W,hW⟩:∃ W,((w.alloc (.cells #[.slice xa T.length xc] 24)).alloc (.cells #[.int .i64 r.id,.int .i64 r.ver,.int .i64 r.kind,.string r.lang,.slice fa r.fields.length fc] 51)).alloc (.cells #[.int .i64 5,.int .i64 0,.slice sa 0 sc,.int .i64 0,.int .i64 0,.slice ka ks.length kc] 29)=W:=⟨_,rfl⟩;exact v4u
theorem ylo (h:P:=by
 subst hbf;clear hc;go_wp2;go_ret;exact⟨Tx.retb aZ,Ac hB hbr⟩):P:=h
theorem r22_Finds_6 (T:List C5) (xa:Option Aq) (xc:Nat) (r:Ci) (fa:Option Aq) (fc:Nat) (B:Nat) (ks:List Cq) (sa:Option Aq) (sc:Nat) (ka:Option Aq) (kc:Nat) (w:Ab) (px:DT w xa xc T) (h:Bz w fa fc r.fields) (hK:Le B w ka kc ks) (IH:∀ k∈ks,Sr.FiC T xa xc r fa fc B k) :
  Af A8 38 #[.agg #[.slice xa T.length xc],.agg #[.int .i64 r.id,.int .i64 r.ver,.int .i64 r.kind,.string r.lang,.slice fa r.fields.length fc],.agg #[.int .i64 6,.int .i64 0,.slice sa 0 sc,.int .i64 0,.int .i64 0,.slice ka ks.length kc]] w fun e w'=>e=.returned (.bool (CJ (Bt (T.map (·.1)) r) (.mk 6 0 [] 0 0 ks)))/\Aa w.heap.size w w':=by
 obtain⟨b,hb⟩:∃ b,CJ (Bt (T.map (·.1)) r) (.mk 6 0 [] 0 0 ks)=b:=⟨_,rfl⟩;rw[hb];obtain⟨W,hW⟩:∃ W,((w.alloc (.cells #[.slice xa T.length xc] 24)).alloc (.cells #[.int .i64 r.id,.int .i64 r.ver,.int .i64 r.kind,.string r.lang,.slice fa r.fields.length fc] 51)).alloc (.cells #[.int .i64 6,.int .i64 0,.slice sa 0 sc,.int .i64 0,.int .i64 0,.slice ka ks.length kc] 29)=W:=⟨_,rfl⟩;exact v4u
theorem yhu (h:P:=by
 go_split_ands;have hb9:=zff;go_wp2;go_ret;exact⟨rfl,Ac hB hb9⟩):P:=h
theorem r22_Finds_7 (T:List C5) (xa:Option Aq) (xc:Nat) (r:Ci) (fa:Option Aq) (fc:Nat) (B:Nat) (x y:Cq) (sa:Option Aq) (sc:Nat) (ka:Option Aq) (kc:Nat) (w:Ab) (px:DT w xa xc T) (h:Bz w fa fc r.fields) (hK:Le B w ka kc [x,y]) (IX:Sr.FiC T xa xc r fa fc B x) (IY:Sr.FiC T xa xc r fa fc B y) :
  Af A8 38 #[.agg #[.slice xa T.length xc],.agg #[.int .i64 r.id,.int .i64 r.ver,.int .i64 r.kind,.string r.lang,.slice fa r.fields.length fc],.agg #[.int .i64 7,.int .i64 0,.slice sa 0 sc,.int .i64 0,.int .i64 0,.slice ka 2 kc]] w fun e w'=>e=.returned (.bool (CJ (Bt (T.map (·.1)) r) (.mk 7 0 [] 0 0 [x,y])))/\Aa w.heap.size w w':=by
 obtain⟨b,hb⟩:∃ b,CJ (Bt (T.map (·.1)) r) (.mk 7 0 [] 0 0 [x,y])=b:=⟨_,rfl⟩;rw[hb];obtain⟨W,hW⟩:∃ W,((w.alloc (.cells #[.slice xa T.length xc] 24)).alloc (.cells #[.int .i64 r.id,.int .i64 r.ver,.int .i64 r.kind,.string r.lang,.slice fa r.fields.length fc] 51)).alloc (.cells #[.int .i64 7,.int .i64 0,.slice sa 0 sc,.int .i64 0,.int .i64 0,.slice ka 2 kc] 29)=W:=⟨_,rfl⟩;have hB:=zbl;have c0:=zdg;have r0:=zfj;have r1:=zfg;have r2:=zfb;have r3:=zfk;have r4:=zeb;have d0:W.cell? ⟨w.heap.size+2,0,A0⟩=A3 (.int .i64 7):=by rw[<- hW,show w.heap.size+2=((w.alloc (.cells #[.slice xa T.length xc] 24)).alloc (.cells #[.int .i64 r.id,.int .i64 r.ver,.int .i64 r.kind,.string r.lang,.slice fa r.fields.length fc] 51)).heap.size by simp];exact (A7 (Ae _ _)).1 0
 have d1:=zaf;have d2:=zac;have d3:=zad;have d4:=zae;have d5:W.cell? ⟨w.heap.size+2,5,A0⟩=A3 (.slice ka 2 kc):=by rw[<- hW,show w.heap.size+2=((w.alloc (.cells #[.slice xa T.length xc] 24)).alloc (.cells #[.int .i64 r.id,.int .i64 r.ver,.int .i64 r.kind,.string r.lang,.slice fa r.fields.length fc] 51)).heap.size by simp];exact (A7 (Ae _ _)).1 5
 have hFW:=zfw;have hPW:=zrl;rw[Sr.ev7]at hb;obtain⟨kb,ko,xsa,xsc,xka,xkc,rfl,hkb,x0,x1,x2,x3,x4,x5,hqx⟩:=(hK.below hB).get (k:=0) (q:=x) rfl;obtain⟨kb2,ko2,ysa,ysc,yka,ykc,e9,hkb2,y0,y1,y2,y3,y4,y5,hqy⟩:=(hK.below hB).get (k:=1) (q:=y) rfl;injection e9 with e9;injection e9 with e9 e8;subst e9 e8;rw[F7,BN]at x0;simp only[F7,Nat.one_mul,BN,Nat.add_assoc,Nat.reduceAdd]at x0 x1 x2 x3 x4 x5 y0 y1 y2 y3 y4 y5;have CX:∀ W',Aa W.heap.size W W'->_:=fun W' h9=>IX _ W' (hqx.later h9) (hPW.below h9) (hFW.below h9);have CY:∀ W',Aa W.heap.size W W'->_:=fun W' h9=>IY _ W' (hqy.later h9) (hPW.below h9) (hFW.below h9);obtain⟨t,ht⟩:∃ t,CJ (Bt (T.map (·.1)) r) (x)=t:=⟨_,rfl⟩;obtain⟨u,hu⟩:∃ u,CJ (Bt (T.map (·.1)) r) (y)=u:=⟨_,rfl⟩;rw[ht]at CX hb;rw[hu]at CY hb;have HCX:=J CX;have HCY:=J CY;subst hb;clear CX CY ht hu hqx hqy hFW hPW px h hK IX IY hkb2;cases t with
 | true =>
  have tu:(true&&!u)=!u:=rfl;rw[tu];go_enter IK,I4;go_wp2;clear hW
  go_region_held3 (fun w'=>Aa W.heap.size W w'/\w'.cell? ⟨w.heap.size,0,A0⟩=A3 (.slice xa T.length xc)/\w'.cell? ⟨w.heap.size+1,0,A0⟩=A3 (.int .i64 r.id)/\w'.cell? ⟨w.heap.size+1,1,A0⟩=A3 (.int .i64 r.ver)/\w'.cell? ⟨w.heap.size+1,2,A0⟩=A3 (.int .i64 r.kind)/\w'.cell? ⟨w.heap.size+1,3,A0⟩=A3 (.string r.lang)/\w'.cell? ⟨w.heap.size+1,4,A0⟩=A3 (.slice fa r.fields.length fc)/\w'.cell? ⟨w.heap.size+2,0,A0⟩=A3 (.int .i64 7)/\w'.cell? ⟨w.heap.size+2,1,A0⟩=A3 (.int .i64 0)/\w'.cell? ⟨w.heap.size+2,2,A0⟩=A3 (.slice sa 0 sc)/\w'.cell? ⟨w.heap.size+2,3,A0⟩=A3 (.int .i64 0)/\w'.cell? ⟨w.heap.size+2,4,A0⟩=A3 (.int .i64 0)/\w'.cell? ⟨w.heap.size+2,5,A0⟩=A3 (.slice (A3 ⟨kb,ko,A0⟩) 2 kc)/\w'.cell? ⟨kb,ko,A0⟩=A3 (.int .i64 x.op)/\w'.cell? ⟨kb,ko+1,A0⟩=A3 (.int .i64 x.fld)/\w'.cell? ⟨kb,ko+2,A0⟩=A3 (.slice xsa x.ws.length xsc)/\w'.cell? ⟨kb,ko+3,A0⟩=A3 (.int .i64 x.a)/\w'.cell? ⟨kb,ko+4,A0⟩=A3 (.int .i64 x.b)/\w'.cell? ⟨kb,ko+5,A0⟩=A3 (.slice xka x.ks.length xkc)/\w'.cell? ⟨kb,ko+6,A0⟩=A3 (.int .i64 y.op)/\w'.cell? ⟨kb,ko+7,A0⟩=A3 (.int .i64 y.fld)/\w'.cell? ⟨kb,ko+8,A0⟩=A3 (.slice ysa y.ws.length ysc)/\w'.cell? ⟨kb,ko+9,A0⟩=A3 (.int .i64 y.a)/\w'.cell? ⟨kb,ko+10,A0⟩=A3 (.int .i64 y.b)/\w'.cell? ⟨kb,ko+11,A0⟩=A3 (.slice yka y.ks.length ykc))
   (first | exact⟨(Ah _ _).drew,c0,r0,r1,r2,r3,r4,d0,d1,d2,d3,d4,d5,x0,x1,x2,x3,x4,x5,y0,y1,y2,y3,y4,y5⟩ | (go_split_ands;exact⟨Ac ‹_› hbx,by repeat' first | exact A4 hbx ‹_› | constructor⟩))
   (first
    |(go_split_ands;go_at_call 38;((with_reducible refine (HCX.out _ ‹_›).mono ?_);rintro e wx ⟨rfl,hbx⟩))
    |(go_split_ands;go_at_call 38;((with_reducible refine (HCY.out _ ‹_›).mono ?_);rintro e wx ⟨rfl,hbx⟩)))
  exact yhu
 | false =>
  go_enter IK,I4;go_wp2;clear hW;refine wp_region_held_drew (S:=(fun w'=>Aa W.heap.size W w'/\w'.cell? ⟨w.heap.size,0,A0⟩=A3 (.slice xa T.length xc)/\w'.cell? ⟨w.heap.size+1,0,A0⟩=A3 (.int .i64 r.id)/\w'.cell? ⟨w.heap.size+1,1,A0⟩=A3 (.int .i64 r.ver)/\w'.cell? ⟨w.heap.size+1,2,A0⟩=A3 (.int .i64 r.kind)/\w'.cell? ⟨w.heap.size+1,3,A0⟩=A3 (.string r.lang)/\w'.cell? ⟨w.heap.size+1,4,A0⟩=A3 (.slice fa r.fields.length fc)/\w'.cell? ⟨w.heap.size+2,0,A0⟩=A3 (.int .i64 7)/\w'.cell? ⟨w.heap.size+2,1,A0⟩=A3 (.int .i64 0)/\w'.cell? ⟨w.heap.size+2,2,A0⟩=A3 (.slice sa 0 sc)/\w'.cell? ⟨w.heap.size+2,3,A0⟩=A3 (.int .i64 0)/\w'.cell? ⟨w.heap.size+2,4,A0⟩=A3 (.int .i64 0)/\w'.cell? ⟨w.heap.size+2,5,A0⟩=A3 (.slice (A3 ⟨kb,ko,A0⟩) 2 kc)/\w'.cell? ⟨kb,ko,A0⟩=A3 (.int .i64 x.op)/\w'.cell? ⟨kb,ko+1,A0⟩=A3 (.int .i64 x.fld)/\w'.cell? ⟨kb,ko+2,A0⟩=A3 (.slice xsa x.ws.length xsc)/\w'.cell? ⟨kb,ko+3,A0⟩=A3 (.int .i64 x.a)/\w'.cell? ⟨kb,ko+4,A0⟩=A3 (.int .i64 x.b)/\w'.cell? ⟨kb,ko+5,A0⟩=A3 (.slice xka x.ks.length xkc)/\w'.cell? ⟨kb,ko+6,A0⟩=A3 (.int .i64 y.op)/\w'.cell? ⟨kb,ko+7,A0⟩=A3 (.int .i64 y.fld)/\w'.cell? ⟨kb,ko+8,A0⟩=A3 (.slice ysa y.ws.length ysc)/\w'.cell? ⟨kb,ko+9,A0⟩=A3 (.int .i64 y.a)/\w'.cell? ⟨kb,ko+10,A0⟩=A3 (.int .i64 y.b)/\w'.cell? ⟨kb,ko+11,A0⟩=A3 (.slice yka y.ks.length ykc))) oJ ?_ (fun hHeld=>?_)
  ·(first | exact⟨(Ah _ _).drew,c0,r0,r1,r2,r3,r4,d0,d1,d2,d3,d4,d5,x0,x1,x2,x3,x4,x5,y0,y1,y2,y3,y4,y5⟩ | (go_split_ands;exact⟨Ac ‹_› hbx,by repeat' first | exact A4 hbx ‹_› | constructor⟩))
  refine DA (i:=0) (oi:=⟨A3 62,_,_,_,_,_⟩) (v:=.agg #[.slice xa T.length xc]) rfl oJ oJ oJ (fun _ _ _ h=>h) (Gq ⟨oV,?_⟩) ‹_› ?_
  ·intro w hSw;(try dsimp only at hSw);go_simp
  simp only[Fi,Bj,BR,BS];refine DA (i:=1) (oi:=⟨A3 63,_,_,_,_,_⟩) (v:=.agg #[.int .i64 r.id,.int .i64 r.ver,.int .i64 r.kind,.string r.lang,.slice fa r.fields.length fc]) rfl oJ oJ oJ (fun _ _ _ h=>h) (Gq ⟨oV,?_⟩) ‹_› ?_
  ·intro w hSw;(try dsimp only at hSw);go_simp
  simp only[Fi,Bj,BR,BS];refine DA (i:=2) (oi:=⟨A3 64,_,_,_,_,_⟩) (v:=.pointer (A3 ⟨w.heap.size+2,5,A0⟩)) rfl oJ oJ oJ (fun _ _ _ h=>h) (Gq ⟨oV,?_⟩) ‹_› ?_
  ·intro w hSw;(try dsimp only at hSw);go_simp
  simp only[Fi,Bj,BR,BS];refine DA (i:=3) (oi:=⟨A3 65,_,_,_,_,_⟩) (v:=.slice (A3 ⟨kb,ko,A0⟩) 2 kc) rfl oJ oJ oJ (fun _ _ _ h=>h) (Gq ⟨oV,?_⟩) ‹_› ?_
  ·intro w hSw;(try dsimp only at hSw);go_simp
  simp only[Fi,Bj,BR,BS];refine DA (i:=4) (oi:=⟨A3 66,_,_,_,_,_⟩) (v:=.pointer (A3 ⟨kb,ko,A0⟩)) rfl oJ oJ oJ (fun _ _ _ h=>h) (Gq ⟨oV,?_⟩) ‹_› ?_
  ·intro w hSw;(try dsimp only at hSw);go_simp
  simp only[Fi,Bj,BR,BS];refine DA (i:=5) (oi:=⟨A3 67,_,_,_,_,_⟩) (v:=.agg #[.int .i64 x.op,.int .i64 x.fld,.slice xsa x.ws.length xsc,.int .i64 x.a,.int .i64 x.b,.slice xka x.ks.length xkc]) rfl oJ oJ oJ (fun _ _ _ h=>h) (Gq ⟨oV,?_⟩) ‹_› ?_
  ·intro w hSw;(try dsimp only at hSw);go_simp
  simp only[Fi,Bj,BR,BS];refine wpAnyH_ready (rs:=[6]) oJ oZ ?_;refine AllReadyH.cons (o:=⟨A3 68,_,_,_,_,_⟩) rfl (fun K hK=>?_) AllReadyH.nil;go_simp;go_split_ands;go_at_call 38;refine (HCX.out _ ‹_›).mono ?_;rintro e wx ⟨rfl,hbx⟩;go_wp2_with fail;refine hK.out _ _ ?_ (fun hHeld=>?_)
  ·(first | exact⟨(Ah _ _).drew,c0,r0,r1,r2,r3,r4,d0,d1,d2,d3,d4,d5,x0,x1,x2,x3,x4,x5,y0,y1,y2,y3,y4,y5⟩ | (go_split_ands;exact⟨Ac ‹_› hbx,by repeat' first | exact A4 hbx ‹_› | constructor⟩))
  clear hK K
  try simp only[Fi,Bj,BR,BS]
  refine DA (i:=7) (oi:=⟨A3 69,_,_,_,_,_⟩) (v:=.bool false) rfl oJ oJ oJ (fun _ _ _ h=>h) (Gq ⟨oV,?_⟩) ‹_› ?_
  ·intro w hSw;(try dsimp only at hSw);go_simp
  simp only[Fi,Bj,BR,BS];refine DA (i:=8) (oi:=⟨A3 70,_,_,_,_,_⟩) (v:=undef) rfl oJ oJ oJ (fun _ _ _ h=>h) (Iy ⟨oV,rfl⟩) ‹_› ?_;simp only[Fi,Bj,BR,BS];refine DA (i:=9) (oi:=⟨A3 71,_,_,_,_,_⟩) (v:=undef) rfl oJ oJ oJ (fun _ _ _ h=>h) (Iy ⟨oV,rfl⟩) ‹_› ?_;simp only[Fi,Bj,BR,BS];refine DA (i:=10) (oi:=⟨A3 72,_,_,_,_,_⟩) (v:=undef) rfl oJ oJ oJ (fun _ _ _ h=>h) (Iy ⟨oV,rfl⟩) ‹_› ?_;simp only[Fi,Bj,BR,BS];refine DA (i:=11) (oi:=⟨A3 73,_,_,_,_,_⟩) (v:=undef) rfl oJ oJ oJ (fun _ _ _ h=>h) (Iy ⟨oV,rfl⟩) ‹_› ?_;simp only[Fi,Bj,BR,BS];refine DA (i:=12) (oi:=⟨A3 74,_,_,_,_,_⟩) (v:=undef) rfl oJ oJ oJ (fun _ _ _ h=>h) (Iy ⟨oV,rfl⟩) ‹_› ?_;simp only[Fi,Bj,BR,BS];refine DA (i:=13) (oi:=⟨A3 75,_,_,_,_,_⟩) (v:=undef) rfl oJ oJ oJ (fun _ _ _ h=>h) (Iy ⟨oV,rfl⟩) ‹_› ?_;simp only[Fi,Bj,BR,BS];refine DA (i:=14) (oi:=⟨A3 76,_,_,_,_,_⟩) (v:=undef) rfl oJ oJ oJ (fun _ _ _ h=>h) (Iy ⟨oV,rfl⟩) ‹_› ?_;simp only[Fi,Bj,BR,BS];refine DA (i:=15) (oi:=⟨A3 77,_,_,_,_,_⟩) (v:=undef) rfl oJ oJ oJ (fun _ _ _ h=>h) (Iy ⟨oV,rfl⟩) ‹_› ?_;simp only[Fi,Bj,BR,BS];refine DA (i:=16) (oi:=⟨A3 78,_,_,_,_,_⟩) (v:=.bool false) rfl oJ oJ oJ (fun _ _ _ h=>h) (Gq ⟨oV,?_⟩) ‹_› ?_
  ·intro w hSw;(try dsimp only at hSw);go_simp
  simp only[Fi,Bj,BR,BS];refine DA (i:=17) (oi:=⟨A3 6,_,_,_,_,_⟩) (v:=.bool false) rfl oJ oJ oJ (fun _ _ _ h=>h) (Gq ⟨oV,?_⟩) ‹_› ?_
  ·intro w hSw;(try dsimp only at hSw);go_simp
  simp only[Fi,Bj,BR,BS];refine wpAnyH_done oJ ?_ _;exact yhu
theorem r22_Finds_c (T:List C5) (xa:Option Aq) (xc:Nat) (r:Ci) (fa:Option Aq) (fc B:Nat) (hX:Sr.Gx T) (hR:Iq r):∀ q,Sr.Rq q->Sr.FiC T xa xc r fa fc B q:=by
 refine Qr.Qy.ind ?_;intro o f ws a b ks ih hq cs w hc px h;obtain⟨sa,sc,ka,kc,rfl,hw,_,hK⟩:=hc.kids;dsimp only[Qr.Qy.op,Qr.Qy.fld,Qr.Qy.a,Qr.Qy.b,Qr.Qy.ks,Qr.Qy.ws]at hw hK ⊢
 have hS:ws≠[]->SLA w sa sc ws:=fun hne=>by
  obtain⟨a9,c9,e,h9⟩:=hw.sla;injection e with e1 e2 e3;subst e1 e3;exact h9 hne
 have hne:1<=ws.length->ws≠[]:=fun h9 e=>by rw[e]at h9;exact absurd h9 oX
 cases hq with
 | term h1 h2 h3 h5 h4 =>
  rcases h1 with rfl | rfl | rfl
  ·obtain⟨y,rfl⟩:=zhn;exact r22_Finds_1 T xa xc r fa fc f y sa sc ka kc w px hX h (hS (hne h3.1))
  ·obtain⟨y,rfl⟩:=zhn;exact r22_Finds_2 T xa xc r fa fc f y sa sc ka kc w px hX h (hS (hne h3.1))
  ·exact r22_Finds_3 T xa xc r fa fc f ws sa sc ka kc w px hX h (hS (hne h3.1))
 | years h1 h2=>exact r22_Finds_4 T xa xc r fa fc a b sa sc ka kc w px h hR
 | kids h1 h2 h4 h3 =>
  rcases h1 with rfl | rfl | rfl
  ·exact r22_Finds_5 T xa xc r fa fc B ks sa sc ka kc w px h hK fun k hk=>ih k hk (h3 k hk)
  ·exact r22_Finds_6 T xa xc r fa fc B ks sa sc ka kc w px h hK fun k hk=>ih k hk (h3 k hk)
  ·obtain⟨x,y,rfl⟩:∃ x y,ks=[x,y]:=by
    have h6:=h4 rfl
    match ks,h6 with
    | [x,y],_=>exact⟨x,y,rfl⟩
   exact r22_Finds_7 T xa xc r fa fc B x y sa sc ka kc w px h hK (ih x B8 (h3 x B8)) (ih y (BH _ B8) (h3 y (BH _ B8)))
theorem v2k (h:P:=by
 clear hst hT;go_wp2;go_still_tail 6,oJ;have hbq:Aa wr.heap.size wr wr.drew:=(Ah _ _).drew;change wpList _ _ _ _ _ wr.drew;generalize wr.drew=U6 at hbq ⊢
 first
  |go_wp2_with (first
    |(go_at_call 38;(with_reducible refine (HC.out _ hbq).mono ?_);rintro e w1 ⟨rfl,hb1⟩;have hq1:=Ac hbq hb1;have HOW:=J (hown.out.below hq1);have s0:=A4 hq1 x0)
    |(go_at_call 39;(with_reducible refine (r22_Put_c L b o c x.id _ HOW.out oQ).mono ?_);rintro e w2 ⟨b2,o2,c2,rfl,hla2,hb2,hbb2⟩;have HLA:=J hla2;clear hla2))
   go_roundw
   case rel=>exact⟨k+1,b2,o2,c2,_,hlt,by go_num,rfl,HST,oQ,HLA,by have:=hq1.size;omega,Ac (Ac hb hq1) hbb2⟩
   case measure=>simp[Aj];omega
  |go_wp2_with (go_at_call 38;(with_reducible refine (HC.out _ hbq).mono ?_);rintro e w1 ⟨rfl,hb1⟩;have hq1:=Ac hbq hb1;have HOW:=J (hown.out.below hq1))
   go_roundw
   case rel=>exact⟨k+1,b,o,c,L,hlt,by go_num,rfl,HST,oQ,HOW,hbB,Ac hb hq1⟩
   case measure=>simp[Aj];omega):P:=h
theorem r22_Eval_c (T:List C5) (xa:Option Aq) (xc:Nat) (l:List Ci) (la:Option Aq) (lc B:Nat) (q:Cq) (cs:List Ak) (w:Ab) (px:DT w xa xc T) (hX:Sr.Gx T) (rl:Rc.RdA w la lc l) (hR:∀ r∈l,Iq r) (hl:l.length<=1000000) (hq:Qr.QC B w q cs) (hrq:Sr.Rq q) :
  Af A8 16 #[.agg #[.slice xa T.length xc],.slice la l.length lc,.agg cs.toArray] w fun e w'=>∃ a c,e=.returned (.slice a (Jf (T.map (·.1)) l q).length c)/\DC w' a c (Jf (T.map (·.1)) l q)/\(∀ g,a=A3 g->w.heap.size<=g.block)/\Aa w.heap.size w w':=by
 obtain⟨sa,sc,ka,kc,rfl,_,_,_⟩:=hq.kids;obtain⟨W,hW⟩:∃ W,(w.alloc (.cells #[.slice xa T.length xc] 24)).alloc (.cells #[.int .i64 q.op,.int .i64 q.fld,.slice sa q.ws.length sc,.int .i64 q.a,.int .i64 q.b,.slice ka q.ks.length kc] 29)=W:=⟨_,rfl⟩;have hB:=zfd;have hWs:=zbs;have c0:W.cell? ⟨w.heap.size,0,A0⟩=A3 (.slice xa T.length xc):=by rw[<- hW];simp
 have d0:W.cell? ⟨w.heap.size+1,0,A0⟩=A3 (.int .i64 q.op):=by rw[<- hW];simp
 have d1:W.cell? ⟨w.heap.size+1,1,A0⟩=A3 (.int .i64 q.fld):=by rw[<- hW];simp
 have d2:W.cell? ⟨w.heap.size+1,2,A0⟩=A3 (.slice sa q.ws.length sc):=by rw[<- hW];simp
 have d3:W.cell? ⟨w.heap.size+1,3,A0⟩=A3 (.int .i64 q.a):=by rw[<- hW];simp
 have d4:W.cell? ⟨w.heap.size+1,4,A0⟩=A3 (.int .i64 q.b):=by rw[<- hW];simp
 have d5:W.cell? ⟨w.heap.size+1,5,A0⟩=A3 (.slice ka q.ks.length kc):=by rw[<- hW];simp
 have HPX:=J (px.below hB);have HRL:=J (rl.below hB);have HQ:=J (hq.later hB);have HF:=J (fun (r:Ci) (hr:r∈l) (fa:Option Aq) (fc:Nat)=>r22_Finds_c T xa xc r fa fc B hX (hR r hr) q hrq);have hcap:=rl.cap;have hmax:=rl.max;have hmx:Ap=9223372036854775807:=rfl;have HEV:Hid (∀ L,L=BP Bf ((l.filter fun r=>CJ (Bt (T.map (·.1)) r) (q)).map (·.id))->L=Jf (T.map (·.1)) l q):=J (fun L h=>h);clear px hX rl hR hq hrq;go_enter Tryz.func16,Tryz.ntmps16;go_wp2;clear hW;go_loopw [7,8] (fun v i wr=>∃ (k b o c:Nat) (L:List Int),k<=l.length/\i=.int .i64 k/\v=.slice (A3 ⟨b,o,A0⟩) L.length c/\Hid (L=BP Bf (((l.take k).filter fun r=>CJ (Bt (T.map (·.1)) r) (q)).map (·.id)))/\L.length<=k/\Hid (Cs.LA (B3 .i64) wr b o c L)/\w.heap.size<=b/\Aa W.heap.size W wr) (fun _ i _=>l.length - (Aj i).toNat)
 case atStart=>exact⟨0,W.heap.size,0,0,[],Am _,by go_num,by first | rfl | simp,J (by simp[BP]),Am _,J ⟨Ad _,oQ,oZ,fun j x hx=>by simp at hx⟩,oQ,A9 _ _⟩
 case round =>
  obtain⟨k,b,o,c,L,hk,rfl,rfl,hT,hLk,hown,hbB,hb⟩:=hrel;have hbs:=hb.size;have z0:=A4 hb c0;have e0:=A4 hb d0;have e1:=A4 hb d1;have e2:=A4 hb d2;have e3:=A4 hb d3;have e4:=A4 hb d4;have e5:=A4 hb d5;by_cases hlt:k<l.length
  ·obtain⟨x,hx⟩:=zcq;obtain⟨xb,xo,fa,fc,rfl,hbl,x0,x1,x2,x3,x4,hfx⟩:=(HRL.out.below hb).get hx
   have hst:(l.take (k+1)).filter (fun r=>CJ (Bt (T.map (·.1)) r) (q))=(l.take k).filter (fun r=>CJ (Bt (T.map (·.1)) r) (q))++(if CJ (Bt (T.map (·.1)) x) (q)=true then [x] else []):=by
    rw[Cz,hx,CE];by_cases hp:CJ (Bt (T.map (·.1)) x) (q)=true <;> simp[hp]
   have CC:∀ W',Aa wr.heap.size wr W'->_:=fun W' h9=>HF.out x (AJ hx) fa fc _ W' ((HQ.out.later hb).later h9) ((HPX.out.below hb).below h9) (hfx.below h9);obtain⟨t,ht⟩:∃ t,CJ (Bt (T.map (·.1)) x) (q)=t:=⟨_,rfl⟩;rw[ht]at CC hst;have HC:=zik;have hki:(k:Int)<(l.length:Int):=oQ;clear CC hx hfx ht;cases t with
   | true =>
    rw[if_pos rfl]at hst
    have HST:Hid (Cp.put Bf L x.id=BP Bf (((l.take (k+1)).filter fun r=>CJ (Bt (T.map (·.1)) r) (q)).map (·.id))):=J (by
     rw[hst,AY,hT.out];unfold BP;rw[List.foldl_append];rfl)
    have hpl:=Sr.put_len Bf x.id L;exact v2k
   | false =>
    rw[if_neg oX,AB]at hst;have HST:Hid (L=BP Bf (((l.take (k+1)).filter fun r=>CJ (Bt (T.map (·.1)) r) (q)).map (·.id))):=J (by rw[hst];exact hT.out);exact v2k
  ·obtain rfl:k=l.length:=oQ;have hfin:=HEV.out L (by rw[hT.out,At]);have HFN:=zrt;clear hfin hT;go_wp2;go_ret;rw[<- HFN.out];exact⟨_,_,rfl,Sr.la_ia hown.out,fun g hg=>by injection hg with hg;rw[<- hg];exact hbB,Ac hB hb⟩
end Go.Proofs.YtlakomilichhnaaGreatDoor
